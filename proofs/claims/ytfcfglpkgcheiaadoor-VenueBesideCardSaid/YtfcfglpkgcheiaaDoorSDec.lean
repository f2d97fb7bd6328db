/- Texts of the program told in continuations: written by a program, shown by the kernel. -/
import Derived.Test.YtfcfglpkgcheiaaDoorSBase
import Derived.KernelRfl
namespace Go.Proofs.YtfcfglpkgcheiaaDoor
open Go Go.Eng
set_option linter.unusedVariables false
set_option maxRecDepth 100000
noncomputable def law15_VenueBeside_L1 (call : Eng.Callee) (R : Nat → Value) (W : AW) : Option LT :=
  bnd (oMv (R 6) W) fun r28 =>
  bnd (oMv (R 3) r28.2) fun r29 =>
  bnd (oBin Tryd.prog .lss 3 false false r28.1 r29.1 r29.2) fun r30 =>
  vIf r30.1 (
    bnd (ldA 4 (R 1) r30.2) fun r31 =>
    bnd (oMv (R 6) r31.2) fun r32 =>
    bnd (call (fnV 36) [r31.1, r32.1] r32.2) fun r33 =>
    bnd (oMv r33.1 r33.2) fun r34 =>
    bnd (oExtract r34.1 0 r34.2) fun r35 =>
    bnd (oExtract r34.1 1 r35.2) fun r36 =>
    bnd (oExtract r34.1 2 r36.2) fun r37 =>
    bnd (oMv r35.1 r37.2) fun r38 =>
    bnd (oMv r36.1 r38.2) fun r39 =>
    bnd (oMv r37.1 r39.2) fun r40 =>
    bnd (ldA 4 (R 1) r40.2) fun r41 =>
    bnd (oMv (R 6) r41.2) fun r42 =>
    bnd (call (fnV 35) [r41.1, r42.1] r42.2) fun r43 =>
    bnd (oMv r43.1 r43.2) fun r44 =>
    bnd (oExtract r44.1 0 r44.2) fun r45 =>
    bnd (oExtract r44.1 1 r45.2) fun r46 =>
    bnd (oAlloc Tryd.prog 65 r46.2) fun r47 =>
    bnd (stV 3 r47.1 r45.1 r47.2) fun r48 =>
    bnd (oMv r46.1 r48.2) fun r49 =>
    bnd (oMv r40.1 r49.2) fun r50 =>
    bnd (oBin Tryd.prog .neq 28 false true r50.1 (.int .i64 0) r50.2) fun r51 =>
    bnd (oMv r51.1 r51.2) fun r52 =>
    bnd (bIf (wnt r52.1 false) (oMv r49.1 r52.2) (some (undef, r52.2))) fun r53 =>
    bnd (bIf (wnt r52.1 false) (oBin Tryd.prog .neq 28 false true r53.1 (.int .i64 0) r53.2) (some (undef, r53.2))) fun r54 =>
    bnd (oPick r52.1 (.bool true) r54.1 r54.2) fun r55 =>
    bnd (oMv r55.1 r55.2) fun r56 =>
    bnd (bIf (wnt r56.1 false) (oMv r38.1 r56.2) (some (undef, r56.2))) fun r57 =>
    bnd (bIf (wnt r56.1 false) (oBin Tryd.prog .neq 3 false true r57.1 (.int .i64 (-1)) r57.2) (some (undef, r57.2))) fun r58 =>
    bnd (bIf (wnt r56.1 false) (oMv r58.1 r58.2) (some (undef, r58.2))) fun r59 =>
    bnd (bIf (wnt r59.1 true) (oMv r38.1 r59.2) (some (undef, r59.2))) fun r60 =>
    bnd (bIf (wnt r59.1 true) (oMv (R 6) r60.2) (some (undef, r60.2))) fun r61 =>
    bnd (bIf (wnt r59.1 true) (oBin Tryd.prog .sub 3 false true r61.1 (.int .i64 1) r61.2) (some (undef, r61.2))) fun r62 =>
    bnd (bIf (wnt r59.1 true) (oBin Tryd.prog .neq 3 false false r60.1 r62.1 r62.2) (some (undef, r62.2))) fun r63 =>
    bnd (bIf (wnt r56.1 false) (oPick r59.1 r63.1 (.bool false) r63.2) (some (undef, r63.2))) fun r64 =>
    bnd (oPick r56.1 (.bool true) r64.1 r64.2) fun r65 =>
    bnd (oMv r65.1 r65.2) fun r66 =>
    bnd (bIf (wnt r66.1 false) (oMv r39.1 r66.2) (some (undef, r66.2))) fun r67 =>
    bnd (bIf (wnt r66.1 false) (oBin Tryd.prog .neq 3 false true r67.1 (.int .i64 (-1)) r67.2) (some (undef, r67.2))) fun r68 =>
    bnd (bIf (wnt r66.1 false) (oMv r68.1 r68.2) (some (undef, r68.2))) fun r69 =>
    bnd (bIf (wnt r69.1 true) (oMv r39.1 r69.2) (some (undef, r69.2))) fun r70 =>
    bnd (bIf (wnt r69.1 true) (oMv (R 6) r70.2) (some (undef, r70.2))) fun r71 =>
    bnd (bIf (wnt r69.1 true) (oBin Tryd.prog .add 3 false true r71.1 (.int .i64 1) r71.2) (some (undef, r71.2))) fun r72 =>
    bnd (bIf (wnt r69.1 true) (oBin Tryd.prog .neq 3 false false r70.1 r72.1 r72.2) (some (undef, r72.2))) fun r73 =>
    bnd (bIf (wnt r66.1 false) (oPick r69.1 r73.1 (.bool false) r73.2) (some (undef, r73.2))) fun r74 =>
    bnd (oPick r66.1 (.bool true) r74.1 r74.2) fun r75 =>
    vIf r75.1 (
      bnd (oMv (.bool false) r75.2) fun r76 =>
      some (X.ret, (rput (rput (rput (rput (rput (rput (rput (rput (rput (rput (rput (rput (rput (rput (rput (rput (rput (rput (rput (rput (rput (rput (rput (rput (rput (rput (rput (rput (rput (rput (rput (rput (rput (rput (rput (rput (rput (rput (rput (rput (rput (rput (rput (rput (rput (rput (rput (rput R (some 33) r28.1) (some 34) r29.1) (some 35) r30.1) (some 39) r31.1) (some 40) r32.1) (some 41) r33.1) (some 38) r34.1) (some 42) r35.1) (some 43) r36.1) (some 44) r37.1) (some 7) r38.1) (some 8) r39.1) (some 9) r40.1) (some 46) r41.1) (some 47) r42.1) (some 48) r43.1) (some 45) r44.1) (some 49) r45.1) (some 50) r46.1) (some 10) r47.1) (some 11) r49.1) (some 51) r50.1) (some 52) r51.1) (some 53) r52.1) (some 54) r53.1) (some 55) r54.1) (some 56) r55.1) (some 57) r56.1) (some 58) r57.1) (some 59) r58.1) (some 60) r59.1) (some 61) r60.1) (some 62) r61.1) (some 63) r62.1) (some 64) r63.1) (some 65) r64.1) (some 66) r65.1) (some 67) r66.1) (some 68) r67.1) (some 69) r68.1) (some 70) r69.1) (some 71) r70.1) (some 72) r71.1) (some 73) r72.1) (some 74) r73.1) (some 75) r74.1) (some 76) r75.1) (some 2) r76.1), r76.2)) (
      bnd (oMv r38.1 r75.2) fun r77 =>
      bnd (oMv (R 6) r77.2) fun r78 =>
      bnd (oBin Tryd.prog .sub 3 false true r78.1 (.int .i64 1) r78.2) fun r79 =>
      bnd (oBin Tryd.prog .eql 3 false false r77.1 r79.1 r79.2) fun r80 =>
      bnd (oMv r80.1 r80.2) fun r81 =>
      bnd (bIf (wnt r81.1 true) (oMv (R 6) r81.2) (some (undef, r81.2))) fun r82 =>
      bnd (bIf (wnt r81.1 true) (oBin Tryd.prog .gtr 3 false true r82.1 (.int .i64 0) r82.2) (some (undef, r82.2))) fun r83 =>
      bnd (oPick r81.1 r83.1 (.bool false) r83.2) fun r84 =>
      bnd (oMv (R 5) r84.2) fun r85 =>
      bnd (oMv (R 6) r85.2) fun r86 =>
      bnd (oBin Tryd.prog .eql 3 false false r85.1 r86.1 r86.2) fun r87 =>
      bnd (oBin Tryd.prog .neq 4 false false r84.1 r87.1 r87.2) fun r88 =>
      vIf r88.1 (
        bnd (oMv (.bool false) r88.2) fun r89 =>
        some (X.ret, (rput (rput (rput (rput (rput (rput (rput (rput (rput (rput (rput (rput (rput (rput (rput (rput (rput (rput (rput (rput (rput (rput (rput (rput (rput (rput (rput (rput (rput (rput (rput (rput (rput (rput (rput (rput (rput (rput (rput (rput (rput (rput (rput (rput (rput (rput (rput (rput (rput (rput (rput (rput (rput (rput (rput (rput (rput (rput (rput (rput R (some 33) r28.1) (some 34) r29.1) (some 35) r30.1) (some 39) r31.1) (some 40) r32.1) (some 41) r33.1) (some 38) r34.1) (some 42) r35.1) (some 43) r36.1) (some 44) r37.1) (some 7) r38.1) (some 8) r39.1) (some 9) r40.1) (some 46) r41.1) (some 47) r42.1) (some 48) r43.1) (some 45) r44.1) (some 49) r45.1) (some 50) r46.1) (some 10) r47.1) (some 11) r49.1) (some 51) r50.1) (some 52) r51.1) (some 53) r52.1) (some 54) r53.1) (some 55) r54.1) (some 56) r55.1) (some 57) r56.1) (some 58) r57.1) (some 59) r58.1) (some 60) r59.1) (some 61) r60.1) (some 62) r61.1) (some 63) r62.1) (some 64) r63.1) (some 65) r64.1) (some 66) r65.1) (some 67) r66.1) (some 68) r67.1) (some 69) r68.1) (some 70) r69.1) (some 71) r70.1) (some 72) r71.1) (some 73) r72.1) (some 74) r73.1) (some 75) r74.1) (some 76) r75.1) (some 77) r77.1) (some 78) r78.1) (some 79) r79.1) (some 80) r80.1) (some 81) r81.1) (some 82) r82.1) (some 83) r83.1) (some 84) r84.1) (some 85) r85.1) (some 86) r86.1) (some 87) r87.1) (some 88) r88.1) (some 2) r89.1), r89.2)) (
        bnd (oMv r38.1 r88.2) fun r90 =>
        bnd (oBin Tryd.prog .geq 3 false true r90.1 (.int .i64 0) r90.2) fun r91 =>
        vIf r91.1 (
          bnd (ldA 4 (R 1) r91.2) fun r92 =>
          bnd (oMv r38.1 r92.2) fun r93 =>
          bnd (call (fnV 35) [r92.1, r93.1] r93.2) fun r94 =>
          bnd (oMv r94.1 r94.2) fun r95 =>
          bnd (oExtract r95.1 0 r95.2) fun r96 =>
          bnd (oExtract r95.1 1 r96.2) fun r97 =>
          bnd (oAlloc Tryd.prog 65 r97.2) fun r98 =>
          bnd (stV 3 r98.1 r96.1 r98.2) fun r99 =>
          bnd (oMv r97.1 r99.2) fun r100 =>
          bnd (oMv r100.1 r100.2) fun r101 =>
          bnd (oBin Tryd.prog .neq 28 false true r101.1 (.int .i64 0) r101.2) fun r102 =>
          bnd (oMv r102.1 r102.2) fun r103 =>
          bnd (bIf (wnt r103.1 false) (faO 0 r98.1 r103.2) (some (undef, r103.2))) fun r104 =>
          bnd (bIf (wnt r103.1 false) (ldC r104.1 r104.2) (some (undef, r104.2))) fun r105 =>
          bnd (bIf (wnt r103.1 false) (faO 0 r47.1 r105.2) (some (undef, r105.2))) fun r106 =>
          bnd (bIf (wnt r103.1 false) (ldC r106.1 r106.2) (some (undef, r106.2))) fun r107 =>
          bnd (bIf (wnt r103.1 false) (oBin Tryd.prog .neq 3 false false r105.1 r107.1 r107.2) (some (undef, r107.2))) fun r108 =>
          bnd (oPick r103.1 (.bool true) r108.1 r108.2) fun r109 =>
          bnd (oMv r109.1 r109.2) fun r110 =>
          bnd (bIf (wnt r110.1 false) (faO 1 r98.1 r110.2) (some (undef, r110.2))) fun r111 =>
          bnd (bIf (wnt r110.1 false) (ldC r111.1 r111.2) (some (undef, r111.2))) fun r112 =>
          bnd (bIf (wnt r110.1 false) (faO 1 r47.1 r112.2) (some (undef, r112.2))) fun r113 =>
          bnd (bIf (wnt r110.1 false) (ldC r113.1 r113.2) (some (undef, r113.2))) fun r114 =>
          bnd (bIf (wnt r110.1 false) (oBin Tryd.prog .neq 3 false false r112.1 r114.1 r114.2) (some (undef, r114.2))) fun r115 =>
          bnd (oPick r110.1 (.bool true) r115.1 r115.2) fun r116 =>
          bnd (oMv r116.1 r116.2) fun r117 =>
          bnd (bIf (wnt r117.1 false) (faO 2 r98.1 r117.2) (some (undef, r117.2))) fun r118 =>
          bnd (bIf (wnt r117.1 false) (ldC r118.1 r118.2) (some (undef, r118.2))) fun r119 =>
          bnd (bIf (wnt r117.1 false) (oBin Tryd.prog .add 3 false true r119.1 (.int .i64 1) r119.2) (some (undef, r119.2))) fun r120 =>
          bnd (bIf (wnt r117.1 false) (faO 2 r47.1 r120.2) (some (undef, r120.2))) fun r121 =>
          bnd (bIf (wnt r117.1 false) (ldC r121.1 r121.2) (some (undef, r121.2))) fun r122 =>
          bnd (bIf (wnt r117.1 false) (oBin Tryd.prog .neq 3 false false r120.1 r122.1 r122.2) (some (undef, r122.2))) fun r123 =>
          bnd (oPick r117.1 (.bool true) r123.1 r123.2) fun r124 =>
          vIf r124.1 (
            bnd (oMv (.bool false) r124.2) fun r125 =>
            some (X.ret, (rput (rput (rput (rput (rput (rput (rput (rput (rput (rput (rput (rput (rput (rput (rput (rput (rput (rput (rput (rput (rput (rput (rput (rput (rput (rput (rput (rput (rput (rput (rput (rput (rput (rput (rput (rput (rput (rput (rput (rput (rput (rput (rput (rput (rput (rput (rput (rput (rput (rput (rput (rput (rput (rput (rput (rput (rput (rput (rput (rput (rput (rput (rput (rput (rput (rput (rput (rput (rput (rput (rput (rput (rput (rput (rput (rput (rput (rput (rput (rput (rput (rput (rput (rput (rput (rput (rput (rput (rput (rput (rput (rput (rput (rput R (some 33) r28.1) (some 34) r29.1) (some 35) r30.1) (some 39) r31.1) (some 40) r32.1) (some 41) r33.1) (some 38) r34.1) (some 42) r35.1) (some 43) r36.1) (some 44) r37.1) (some 7) r38.1) (some 8) r39.1) (some 9) r40.1) (some 46) r41.1) (some 47) r42.1) (some 48) r43.1) (some 45) r44.1) (some 49) r45.1) (some 50) r46.1) (some 10) r47.1) (some 11) r49.1) (some 51) r50.1) (some 52) r51.1) (some 53) r52.1) (some 54) r53.1) (some 55) r54.1) (some 56) r55.1) (some 57) r56.1) (some 58) r57.1) (some 59) r58.1) (some 60) r59.1) (some 61) r60.1) (some 62) r61.1) (some 63) r62.1) (some 64) r63.1) (some 65) r64.1) (some 66) r65.1) (some 67) r66.1) (some 68) r67.1) (some 69) r68.1) (some 70) r69.1) (some 71) r70.1) (some 72) r71.1) (some 73) r72.1) (some 74) r73.1) (some 75) r74.1) (some 76) r75.1) (some 77) r77.1) (some 78) r78.1) (some 79) r79.1) (some 80) r80.1) (some 81) r81.1) (some 82) r82.1) (some 83) r83.1) (some 84) r84.1) (some 85) r85.1) (some 86) r86.1) (some 87) r87.1) (some 88) r88.1) (some 89) r90.1) (some 90) r91.1) (some 92) r92.1) (some 93) r93.1) (some 94) r94.1) (some 91) r95.1) (some 95) r96.1) (some 96) r97.1) (some 12) r98.1) (some 13) r100.1) (some 97) r101.1) (some 98) r102.1) (some 99) r103.1) (some 100) r104.1) (some 101) r105.1) (some 102) r106.1) (some 103) r107.1) (some 104) r108.1) (some 105) r109.1) (some 106) r110.1) (some 107) r111.1) (some 108) r112.1) (some 109) r113.1) (some 110) r114.1) (some 111) r115.1) (some 112) r116.1) (some 113) r117.1) (some 114) r118.1) (some 115) r119.1) (some 116) r120.1) (some 117) r121.1) (some 118) r122.1) (some 119) r123.1) (some 120) r124.1) (some 2) r125.1), r125.2)) (
            bnd (oMv r38.1 r124.2) fun r126 =>
            bnd (oBin Tryd.prog .eql 3 false true r126.1 (.int .i64 (-1)) r126.2) fun r127 =>
            bnd (faO 2 r47.1 r127.2) fun r128 =>
            bnd (ldC r128.1 r128.2) fun r129 =>
            bnd (oBin Tryd.prog .eql 3 false true r129.1 (.int .i64 0) r129.2) fun r130 =>
            bnd (oBin Tryd.prog .neq 4 false false r127.1 r130.1 r130.2) fun r131 =>
            bnd (oMv r131.1 r131.2) fun r132 =>
            bnd (bIf (wnt r132.1 false) (oMv r39.1 r132.2) (some (undef, r132.2))) fun r133 =>
            bnd (bIf (wnt r132.1 false) (oMv (R 3) r133.2) (some (undef, r133.2))) fun r134 =>
            bnd (bIf (wnt r132.1 false) (oBin Tryd.prog .geq 3 false false r133.1 r134.1 r134.2) (some (undef, r134.2))) fun r135 =>
            bnd (oPick r132.1 (.bool true) r135.1 r135.2) fun r136 =>
            vIf r136.1 (
              bnd (oMv (.bool false) r136.2) fun r137 =>
              some (X.ret, (rput (rput (rput (rput (rput (rput (rput (rput (rput (rput (rput (rput (rput (rput (rput (rput (rput (rput (rput (rput (rput (rput (rput (rput (rput (rput (rput (rput (rput (rput (rput (rput (rput (rput (rput (rput (rput (rput (rput (rput (rput (rput (rput (rput (rput (rput (rput (rput (rput (rput (rput (rput (rput (rput (rput (rput (rput (rput (rput (rput (rput (rput (rput (rput (rput (rput (rput (rput (rput (rput (rput (rput (rput (rput (rput (rput (rput (rput (rput (rput (rput (rput (rput (rput (rput (rput (rput (rput (rput (rput (rput (rput (rput (rput (rput (rput (rput (rput (rput (rput (rput (rput (rput (rput (rput R (some 33) r28.1) (some 34) r29.1) (some 35) r30.1) (some 39) r31.1) (some 40) r32.1) (some 41) r33.1) (some 38) r34.1) (some 42) r35.1) (some 43) r36.1) (some 44) r37.1) (some 7) r38.1) (some 8) r39.1) (some 9) r40.1) (some 46) r41.1) (some 47) r42.1) (some 48) r43.1) (some 45) r44.1) (some 49) r45.1) (some 50) r46.1) (some 10) r47.1) (some 11) r49.1) (some 51) r50.1) (some 52) r51.1) (some 53) r52.1) (some 54) r53.1) (some 55) r54.1) (some 56) r55.1) (some 57) r56.1) (some 58) r57.1) (some 59) r58.1) (some 60) r59.1) (some 61) r60.1) (some 62) r61.1) (some 63) r62.1) (some 64) r63.1) (some 65) r64.1) (some 66) r65.1) (some 67) r66.1) (some 68) r67.1) (some 69) r68.1) (some 70) r69.1) (some 71) r70.1) (some 72) r71.1) (some 73) r72.1) (some 74) r73.1) (some 75) r74.1) (some 76) r75.1) (some 77) r77.1) (some 78) r78.1) (some 79) r79.1) (some 80) r80.1) (some 81) r81.1) (some 82) r82.1) (some 83) r83.1) (some 84) r84.1) (some 85) r85.1) (some 86) r86.1) (some 87) r87.1) (some 88) r88.1) (some 89) r90.1) (some 90) r91.1) (some 92) r92.1) (some 93) r93.1) (some 94) r94.1) (some 91) r95.1) (some 95) r96.1) (some 96) r97.1) (some 12) r98.1) (some 13) r100.1) (some 97) r101.1) (some 98) r102.1) (some 99) r103.1) (some 100) r104.1) (some 101) r105.1) (some 102) r106.1) (some 103) r107.1) (some 104) r108.1) (some 105) r109.1) (some 106) r110.1) (some 107) r111.1) (some 108) r112.1) (some 109) r113.1) (some 110) r114.1) (some 111) r115.1) (some 112) r116.1) (some 113) r117.1) (some 114) r118.1) (some 115) r119.1) (some 116) r120.1) (some 117) r121.1) (some 118) r122.1) (some 119) r123.1) (some 120) r124.1) (some 121) r126.1) (some 122) r127.1) (some 123) r128.1) (some 124) r129.1) (some 125) r130.1) (some 126) r131.1) (some 127) r132.1) (some 128) r133.1) (some 129) r134.1) (some 130) r135.1) (some 131) r136.1) (some 2) r137.1), r137.2)) (
              bnd (oMv r39.1 r136.2) fun r138 =>
              bnd (oMv r138.1 r138.2) fun r139 =>
              bnd (oMv (R 6) r139.2) fun r140 =>
              bnd (oBin Tryd.prog .add 3 false true r140.1 (.int .i64 1) r140.2) fun r141 =>
              bnd (oMv r141.1 r141.2) fun r142 =>
              some (X.normal, (rput (rput (rput (rput (rput (rput (rput (rput (rput (rput (rput (rput (rput (rput (rput (rput (rput (rput (rput (rput (rput (rput (rput (rput (rput (rput (rput (rput (rput (rput (rput (rput (rput (rput (rput (rput (rput (rput (rput (rput (rput (rput (rput (rput (rput (rput (rput (rput (rput (rput (rput (rput (rput (rput (rput (rput (rput (rput (rput (rput (rput (rput (rput (rput (rput (rput (rput (rput (rput (rput (rput (rput (rput (rput (rput (rput (rput (rput (rput (rput (rput (rput (rput (rput (rput (rput (rput (rput (rput (rput (rput (rput (rput (rput (rput (rput (rput (rput (rput (rput (rput (rput (rput (rput (rput (rput (rput (rput (rput R (some 33) r28.1) (some 34) r29.1) (some 35) r30.1) (some 39) r31.1) (some 40) r32.1) (some 41) r33.1) (some 38) r34.1) (some 42) r35.1) (some 43) r36.1) (some 44) r37.1) (some 7) r38.1) (some 8) r39.1) (some 9) r40.1) (some 46) r41.1) (some 47) r42.1) (some 48) r43.1) (some 45) r44.1) (some 49) r45.1) (some 50) r46.1) (some 10) r47.1) (some 11) r49.1) (some 51) r50.1) (some 52) r51.1) (some 53) r52.1) (some 54) r53.1) (some 55) r54.1) (some 56) r55.1) (some 57) r56.1) (some 58) r57.1) (some 59) r58.1) (some 60) r59.1) (some 61) r60.1) (some 62) r61.1) (some 63) r62.1) (some 64) r63.1) (some 65) r64.1) (some 66) r65.1) (some 67) r66.1) (some 68) r67.1) (some 69) r68.1) (some 70) r69.1) (some 71) r70.1) (some 72) r71.1) (some 73) r72.1) (some 74) r73.1) (some 75) r74.1) (some 76) r75.1) (some 77) r77.1) (some 78) r78.1) (some 79) r79.1) (some 80) r80.1) (some 81) r81.1) (some 82) r82.1) (some 83) r83.1) (some 84) r84.1) (some 85) r85.1) (some 86) r86.1) (some 87) r87.1) (some 88) r88.1) (some 89) r90.1) (some 90) r91.1) (some 92) r92.1) (some 93) r93.1) (some 94) r94.1) (some 91) r95.1) (some 95) r96.1) (some 96) r97.1) (some 12) r98.1) (some 13) r100.1) (some 97) r101.1) (some 98) r102.1) (some 99) r103.1) (some 100) r104.1) (some 101) r105.1) (some 102) r106.1) (some 103) r107.1) (some 104) r108.1) (some 105) r109.1) (some 106) r110.1) (some 107) r111.1) (some 108) r112.1) (some 109) r113.1) (some 110) r114.1) (some 111) r115.1) (some 112) r116.1) (some 113) r117.1) (some 114) r118.1) (some 115) r119.1) (some 116) r120.1) (some 117) r121.1) (some 118) r122.1) (some 119) r123.1) (some 120) r124.1) (some 121) r126.1) (some 122) r127.1) (some 123) r128.1) (some 124) r129.1) (some 125) r130.1) (some 126) r131.1) (some 127) r132.1) (some 128) r133.1) (some 129) r134.1) (some 130) r135.1) (some 131) r136.1) (some 132) r138.1) (some 5) r139.1) (some 36) r140.1) (some 37) r141.1) (some 6) r142.1), r142.2)))) (
          bnd (oMv r38.1 r91.2) fun r143 =>
          bnd (oBin Tryd.prog .eql 3 false true r143.1 (.int .i64 (-1)) r143.2) fun r144 =>
          bnd (faO 2 r47.1 r144.2) fun r145 =>
          bnd (ldC r145.1 r145.2) fun r146 =>
          bnd (oBin Tryd.prog .eql 3 false true r146.1 (.int .i64 0) r146.2) fun r147 =>
          bnd (oBin Tryd.prog .neq 4 false false r144.1 r147.1 r147.2) fun r148 =>
          bnd (oMv r148.1 r148.2) fun r149 =>
          bnd (bIf (wnt r149.1 false) (oMv r39.1 r149.2) (some (undef, r149.2))) fun r150 =>
          bnd (bIf (wnt r149.1 false) (oMv (R 3) r150.2) (some (undef, r150.2))) fun r151 =>
          bnd (bIf (wnt r149.1 false) (oBin Tryd.prog .geq 3 false false r150.1 r151.1 r151.2) (some (undef, r151.2))) fun r152 =>
          bnd (oPick r149.1 (.bool true) r152.1 r152.2) fun r153 =>
          vIf r153.1 (
            bnd (oMv (.bool false) r153.2) fun r154 =>
            some (X.ret, (rput (rput (rput (rput (rput (rput (rput (rput (rput (rput (rput (rput (rput (rput (rput (rput (rput (rput (rput (rput (rput (rput (rput (rput (rput (rput (rput (rput (rput (rput (rput (rput (rput (rput (rput (rput (rput (rput (rput (rput (rput (rput (rput (rput (rput (rput (rput (rput (rput (rput (rput (rput (rput (rput (rput (rput (rput (rput (rput (rput (rput (rput (rput (rput (rput (rput (rput (rput (rput (rput (rput (rput (rput R (some 33) r28.1) (some 34) r29.1) (some 35) r30.1) (some 39) r31.1) (some 40) r32.1) (some 41) r33.1) (some 38) r34.1) (some 42) r35.1) (some 43) r36.1) (some 44) r37.1) (some 7) r38.1) (some 8) r39.1) (some 9) r40.1) (some 46) r41.1) (some 47) r42.1) (some 48) r43.1) (some 45) r44.1) (some 49) r45.1) (some 50) r46.1) (some 10) r47.1) (some 11) r49.1) (some 51) r50.1) (some 52) r51.1) (some 53) r52.1) (some 54) r53.1) (some 55) r54.1) (some 56) r55.1) (some 57) r56.1) (some 58) r57.1) (some 59) r58.1) (some 60) r59.1) (some 61) r60.1) (some 62) r61.1) (some 63) r62.1) (some 64) r63.1) (some 65) r64.1) (some 66) r65.1) (some 67) r66.1) (some 68) r67.1) (some 69) r68.1) (some 70) r69.1) (some 71) r70.1) (some 72) r71.1) (some 73) r72.1) (some 74) r73.1) (some 75) r74.1) (some 76) r75.1) (some 77) r77.1) (some 78) r78.1) (some 79) r79.1) (some 80) r80.1) (some 81) r81.1) (some 82) r82.1) (some 83) r83.1) (some 84) r84.1) (some 85) r85.1) (some 86) r86.1) (some 87) r87.1) (some 88) r88.1) (some 89) r90.1) (some 90) r91.1) (some 121) r143.1) (some 122) r144.1) (some 123) r145.1) (some 124) r146.1) (some 125) r147.1) (some 126) r148.1) (some 127) r149.1) (some 128) r150.1) (some 129) r151.1) (some 130) r152.1) (some 131) r153.1) (some 2) r154.1), r154.2)) (
            bnd (oMv r39.1 r153.2) fun r155 =>
            bnd (oMv r155.1 r155.2) fun r156 =>
            bnd (oMv (R 6) r156.2) fun r157 =>
            bnd (oBin Tryd.prog .add 3 false true r157.1 (.int .i64 1) r157.2) fun r158 =>
            bnd (oMv r158.1 r158.2) fun r159 =>
            some (X.normal, (rput (rput (rput (rput (rput (rput (rput (rput (rput (rput (rput (rput (rput (rput (rput (rput (rput (rput (rput (rput (rput (rput (rput (rput (rput (rput (rput (rput (rput (rput (rput (rput (rput (rput (rput (rput (rput (rput (rput (rput (rput (rput (rput (rput (rput (rput (rput (rput (rput (rput (rput (rput (rput (rput (rput (rput (rput (rput (rput (rput (rput (rput (rput (rput (rput (rput (rput (rput (rput (rput (rput (rput (rput (rput (rput (rput (rput R (some 33) r28.1) (some 34) r29.1) (some 35) r30.1) (some 39) r31.1) (some 40) r32.1) (some 41) r33.1) (some 38) r34.1) (some 42) r35.1) (some 43) r36.1) (some 44) r37.1) (some 7) r38.1) (some 8) r39.1) (some 9) r40.1) (some 46) r41.1) (some 47) r42.1) (some 48) r43.1) (some 45) r44.1) (some 49) r45.1) (some 50) r46.1) (some 10) r47.1) (some 11) r49.1) (some 51) r50.1) (some 52) r51.1) (some 53) r52.1) (some 54) r53.1) (some 55) r54.1) (some 56) r55.1) (some 57) r56.1) (some 58) r57.1) (some 59) r58.1) (some 60) r59.1) (some 61) r60.1) (some 62) r61.1) (some 63) r62.1) (some 64) r63.1) (some 65) r64.1) (some 66) r65.1) (some 67) r66.1) (some 68) r67.1) (some 69) r68.1) (some 70) r69.1) (some 71) r70.1) (some 72) r71.1) (some 73) r72.1) (some 74) r73.1) (some 75) r74.1) (some 76) r75.1) (some 77) r77.1) (some 78) r78.1) (some 79) r79.1) (some 80) r80.1) (some 81) r81.1) (some 82) r82.1) (some 83) r83.1) (some 84) r84.1) (some 85) r85.1) (some 86) r86.1) (some 87) r87.1) (some 88) r88.1) (some 89) r90.1) (some 90) r91.1) (some 121) r143.1) (some 122) r144.1) (some 123) r145.1) (some 124) r146.1) (some 125) r147.1) (some 126) r148.1) (some 127) r149.1) (some 128) r150.1) (some 129) r151.1) (some 130) r152.1) (some 131) r153.1) (some 132) r155.1) (some 5) r156.1) (some 36) r157.1) (some 37) r158.1) (some 6) r159.1), r159.2)))))) (
    some (X.exit 0, (rput (rput (rput R (some 33) r28.1) (some 34) r29.1) (some 35) r30.1), r30.2))
noncomputable def law15_VenueBeside (call : Eng.Callee) (x0 : Value) (W : AW) : Option (Value × AW) :=
  bnd (oBox x0 W) fun r1 =>
  bnd (oMv (.bool false) r1.2) fun r2 =>
  bnd (ldA 4 r1.1 r2.2) fun r3 =>
  bnd (call (fnV 29) [r3.1] r3.2) fun r4 =>
  vIf r4.1 (
    bnd (call (fnV 30) [] r4.2) fun r5 =>
    bnd (oMv r5.1 r5.2) fun r6 =>
    oRes Tryd.prog [(r6.1, none)] r6.2) (
    bnd (ldA 4 r1.1 r4.2) fun r7 =>
    bnd (call (fnV 31) [r7.1] r7.2) fun r8 =>
    bnd (oMv r8.1 r8.2) fun r9 =>
    bnd (oExtract r9.1 0 r9.2) fun r10 =>
    bnd (oExtract r9.1 1 r10.2) fun r11 =>
    bnd (oMv r10.1 r11.2) fun r12 =>
    bnd (oMv r11.1 r12.2) fun r13 =>
    bnd (oMv r13.1 r13.2) fun r14 =>
    bnd (oBin Tryd.prog .neq 28 false true r14.1 (.int .i64 0) r14.2) fun r15 =>
    bnd (oMv r15.1 r15.2) fun r16 =>
    bnd (bIf (wnt r16.1 false) (oMv r12.1 r16.2) (some (undef, r16.2))) fun r17 =>
    bnd (bIf (wnt r16.1 false) (oBin Tryd.prog .gtr 3 false true r17.1 (.int .i64 200) r17.2) (some (undef, r17.2))) fun r18 =>
    bnd (oPick r16.1 (.bool true) r18.1 r18.2) fun r19 =>
    vIf r19.1 (
      bnd (oMv r13.1 r19.2) fun r20 =>
      bnd (oBin Tryd.prog .neq 28 false true r20.1 (.int .i64 0) r20.2) fun r21 =>
      bnd (oMv r21.1 r21.2) fun r22 =>
      bnd (bIf (wnt r22.1 true) (call (fnV 30) [] r22.2) (some (undef, r22.2))) fun r23 =>
      bnd (oPick r22.1 r23.1 (.bool false) r23.2) fun r24 =>
      bnd (oMv r24.1 r24.2) fun r25 =>
      oRes Tryd.prog [(r25.1, none)] r25.2) (
      bnd (oMv (.int .i64 (-1)) r19.2) fun r26 =>
      bnd (oMv (.int .i64 0) r26.2) fun r27 =>
      bnd (loopO (law15_VenueBeside_L1 call) (rput (rput (rput (rput (rput (rput (rput (rput (rput (rput (rput (rput (rput (rput (rput (rput (rput (rput (rput (argGo 0 [x0] PlanTab.blank) (some 1) r1.1) (some 2) r2.1) (some 14) r3.1) (some 15) r4.1) (some 18) r7.1) (some 19) r8.1) (some 17) r9.1) (some 20) r10.1) (some 21) r11.1) (some 3) r12.1) (some 4) r13.1) (some 22) r14.1) (some 23) r15.1) (some 24) r16.1) (some 25) r17.1) (some 26) r18.1) (some 27) r19.1) (some 5) r26.1) (some 6) r27.1) r27.2) fun r160 =>
      kExit 0 r160.1 (
        bnd (oMv (r160.2.1 5) r160.2.2) fun r161 =>
        bnd (oBin Tryd.prog .eql 3 false true r161.1 (.int .i64 (-1)) r161.2) fun r162 =>
        bnd (oMv r162.1 r162.2) fun r163 =>
        bnd (bIf (wnt r163.1 true) (call (fnV 30) [] r163.2) (some (undef, r163.2))) fun r164 =>
        bnd (oPick r163.1 r164.1 (.bool false) r164.2) fun r165 =>
        bnd (oMv r165.1 r165.2) fun r166 =>
        oRes Tryd.prog [(r166.1, none)] r166.2) (kRetX r160.1 (
        oRes Tryd.prog [((r160.2.1 2), none)] r160.2.2))))
theorem law15_VenueBeside_eq (call : Eng.Callee) (x0 : Value) (W : AW) : kFun Tryd.prog call 138 (cod 10) (rss 10) [x0] W = law15_VenueBeside call x0 W := by kernel_rfl
theorem law15_VenueBeside_om {x0 : Value} {W : AW} {r : Value × AW} (h : law15_VenueBeside omS x0 W = some r) : omS (.func (.func 10) #[] #[]) [x0] W = some (gc W r) := om_of (nt := 138) (n := 1) (by kernel_rfl) (by kernel_rfl) rfl ((law15_VenueBeside_eq omS x0 W).trans h)
noncomputable def law15_Far_L1_L2 (call : Eng.Callee) (R : Nat → Value) (W : AW) : Option LT :=
  bnd (oMv (R 6) W) fun r34 =>
  bnd (faO 1 (R 5) r34.2) fun r35 =>
  bnd (ldC r35.1 r35.2) fun r36 =>
  bnd (oBuiltin Tryd.prog .len #[38] 3 #[false] [r36.1] r36.2) fun r37 =>
  bnd (oBin Tryd.prog .lss 3 false false r34.1 r37.1 r37.2) fun r38 =>
  vIf r38.1 (
    bnd (faO 1 (R 5) r38.2) fun r39 =>
    bnd (ldC r39.1 r39.2) fun r40 =>
    bnd (oMv (R 6) r40.2) fun r41 =>
    bnd (ixS 1 r40.1 r41.1 r41.2) fun r42 =>
    bnd (ldC r42.1 r42.2) fun r43 =>
    bnd (oBin Tryd.prog .gtr 3 false true r43.1 (.int .i64 0) r43.2) fun r44 =>
    bnd (oMv r44.1 r44.2) fun r45 =>
    bnd (bIf (wnt r45.1 true) (faO 1 (R 5) r45.2) (some (undef, r45.2))) fun r46 =>
    bnd (bIf (wnt r45.1 true) (ldC r46.1 r46.2) (some (undef, r46.2))) fun r47 =>
    bnd (bIf (wnt r45.1 true) (oMv (R 6) r47.2) (some (undef, r47.2))) fun r48 =>
    bnd (bIf (wnt r45.1 true) (ixS 1 r47.1 r48.1 r48.2) (some (undef, r48.2))) fun r49 =>
    bnd (bIf (wnt r45.1 true) (ldC r49.1 r49.2) (some (undef, r49.2))) fun r50 =>
    bnd (bIf (wnt r45.1 true) (oBin Tryd.prog .leq 3 false true r50.1 (.int .i64 100) r50.2) (some (undef, r50.2))) fun r51 =>
    bnd (oPick r45.1 r51.1 (.bool false) r51.2) fun r52 =>
    vIf r52.1 (
      bnd (oMv (R 3) r52.2) fun r53 =>
      bnd (faO 1 (R 5) r53.2) fun r54 =>
      bnd (ldC r54.1 r54.2) fun r55 =>
      bnd (oMv (R 6) r55.2) fun r56 =>
      bnd (ixS 1 r55.1 r56.1 r56.2) fun r57 =>
      bnd (ldC r57.1 r57.2) fun r58 =>
      bnd (oBin Tryd.prog .add 3 false false r53.1 r58.1 r58.2) fun r59 =>
      bnd (oMv r59.1 r59.2) fun r60 =>
      bnd (oMv (R 6) r60.2) fun r61 =>
      bnd (oBin Tryd.prog .add 3 false true r61.1 (.int .i64 1) r61.2) fun r62 =>
      bnd (oMv r62.1 r62.2) fun r63 =>
      some (X.normal, (rput (rput (rput (rput (rput (rput (rput (rput (rput (rput (rput (rput (rput (rput (rput (rput (rput (rput (rput (rput (rput (rput (rput (rput (rput (rput (rput (rput (rput (rput R (some 33) r34.1) (some 34) r35.1) (some 35) r36.1) (some 36) r37.1) (some 37) r38.1) (some 40) r39.1) (some 41) r40.1) (some 42) r41.1) (some 43) r42.1) (some 44) r43.1) (some 45) r44.1) (some 46) r45.1) (some 47) r46.1) (some 48) r47.1) (some 49) r48.1) (some 50) r49.1) (some 51) r50.1) (some 52) r51.1) (some 53) r52.1) (some 54) r53.1) (some 55) r54.1) (some 56) r55.1) (some 57) r56.1) (some 58) r57.1) (some 59) r58.1) (some 60) r59.1) (some 3) r60.1) (some 38) r61.1) (some 39) r62.1) (some 6) r63.1), r63.2)) (
      bnd (oMv (R 6) r52.2) fun r64 =>
      bnd (oBin Tryd.prog .add 3 false true r64.1 (.int .i64 1) r64.2) fun r65 =>
      bnd (oMv r65.1 r65.2) fun r66 =>
      some (X.normal, (rput (rput (rput (rput (rput (rput (rput (rput (rput (rput (rput (rput (rput (rput (rput (rput (rput (rput (rput (rput (rput (rput R (some 33) r34.1) (some 34) r35.1) (some 35) r36.1) (some 36) r37.1) (some 37) r38.1) (some 40) r39.1) (some 41) r40.1) (some 42) r41.1) (some 43) r42.1) (some 44) r43.1) (some 45) r44.1) (some 46) r45.1) (some 47) r46.1) (some 48) r47.1) (some 49) r48.1) (some 50) r49.1) (some 51) r50.1) (some 52) r51.1) (some 53) r52.1) (some 38) r64.1) (some 39) r65.1) (some 6) r66.1), r66.2))) (
    some (X.exit 2, (rput (rput (rput (rput (rput R (some 33) r34.1) (some 34) r35.1) (some 35) r36.1) (some 36) r37.1) (some 37) r38.1), r38.2))
noncomputable def law15_Far_L1 (call : Eng.Callee) (R : Nat → Value) (W : AW) : Option LT :=
  bnd (oMv (R 4) W) fun r10 =>
  bnd (faO 3 (R 1) r10.2) fun r11 =>
  bnd (ldC r11.1 r11.2) fun r12 =>
  bnd (oBuiltin Tryd.prog .len #[34] 3 #[false] [r12.1] r12.2) fun r13 =>
  bnd (oBin Tryd.prog .lss 3 false false r10.1 r13.1 r13.2) fun r14 =>
  vIf r14.1 (
    bnd (faO 3 (R 1) r14.2) fun r15 =>
    bnd (ldC r15.1 r15.2) fun r16 =>
    bnd (oMv (R 4) r16.2) fun r17 =>
    bnd (ixS 3 r16.1 r17.1 r17.2) fun r18 =>
    bnd (ldA 3 r18.1 r18.2) fun r19 =>
    bnd (oAlloc Tryd.prog 62 r19.2) fun r20 =>
    bnd (stV 3 r20.1 r19.1 r20.2) fun r21 =>
    bnd (faO 1 r20.1 r21.2) fun r22 =>
    bnd (ldC r22.1 r22.2) fun r23 =>
    bnd (oBuiltin Tryd.prog .len #[38] 3 #[false] [r23.1] r23.2) fun r24 =>
    bnd (oBin Tryd.prog .gtr 3 false true r24.1 (.int .i64 20) r24.2) fun r25 =>
    bnd (oMv r25.1 r25.2) fun r26 =>
    bnd (bIf (wnt r26.1 false) (faO 0 r20.1 r26.2) (some (undef, r26.2))) fun r27 =>
    bnd (bIf (wnt r26.1 false) (ldC r27.1 r27.2) (some (undef, r27.2))) fun r28 =>
    bnd (bIf (wnt r26.1 false) (oBuiltin Tryd.prog .len #[9] 3 #[false] [r28.1] r28.2) (some (undef, r28.2))) fun r29 =>
    bnd (bIf (wnt r26.1 false) (oBin Tryd.prog .gtr 3 false true r29.1 (.int .i64 100) r29.2) (some (undef, r29.2))) fun r30 =>
    bnd (oPick r26.1 (.bool true) r30.1 r30.2) fun r31 =>
    vIf r31.1 (
      bnd (oMv (.bool true) r31.2) fun r32 =>
      some (X.ret, (rput (rput (rput (rput (rput (rput (rput (rput (rput (rput (rput (rput (rput (rput (rput (rput (rput (rput (rput (rput (rput (rput R (some 11) r10.1) (some 12) r11.1) (some 13) r12.1) (some 14) r13.1) (some 15) r14.1) (some 18) r15.1) (some 19) r16.1) (some 20) r17.1) (some 21) r18.1) (some 22) r19.1) (some 5) r20.1) (some 23) r22.1) (some 24) r23.1) (some 25) r24.1) (some 26) r25.1) (some 27) r26.1) (some 28) r27.1) (some 29) r28.1) (some 30) r29.1) (some 31) r30.1) (some 32) r31.1) (some 2) r32.1), r32.2)) (
      bnd (oMv (.int .i64 0) r31.2) fun r33 =>
      bnd (loopO (law15_Far_L1_L2 call) (rput (rput (rput (rput (rput (rput (rput (rput (rput (rput (rput (rput (rput (rput (rput (rput (rput (rput (rput (rput (rput (rput R (some 11) r10.1) (some 12) r11.1) (some 13) r12.1) (some 14) r13.1) (some 15) r14.1) (some 18) r15.1) (some 19) r16.1) (some 20) r17.1) (some 21) r18.1) (some 22) r19.1) (some 5) r20.1) (some 23) r22.1) (some 24) r23.1) (some 25) r24.1) (some 26) r25.1) (some 27) r26.1) (some 28) r27.1) (some 29) r28.1) (some 30) r29.1) (some 31) r30.1) (some 32) r31.1) (some 6) r33.1) r33.2) fun r67 =>
      kExit 2 r67.1 (
        bnd (oMv (r67.2.1 4) r67.2.2) fun r68 =>
        bnd (oBin Tryd.prog .add 3 false true r68.1 (.int .i64 1) r68.2) fun r69 =>
        bnd (oMv r69.1 r69.2) fun r70 =>
        some (X.normal, (rput (rput (rput r67.2.1 (some 16) r68.1) (some 17) r69.1) (some 4) r70.1), r70.2)) (none))) (
    some (X.exit 0, (rput (rput (rput (rput (rput R (some 11) r10.1) (some 12) r11.1) (some 13) r12.1) (some 14) r13.1) (some 15) r14.1), r14.2))
noncomputable def law15_Far (call : Eng.Callee) (x0 : Value) (W : AW) : Option (Value × AW) :=
  bnd (oBox x0 W) fun r1 =>
  bnd (oMv (.bool false) r1.2) fun r2 =>
  bnd (faO 3 r1.1 r2.2) fun r3 =>
  bnd (ldC r3.1 r3.2) fun r4 =>
  bnd (oBuiltin Tryd.prog .len #[34] 3 #[false] [r4.1] r4.2) fun r5 =>
  bnd (oBin Tryd.prog .gtr 3 false true r5.1 (.int .i64 10) r5.2) fun r6 =>
  vIf r6.1 (
    bnd (oMv (.bool true) r6.2) fun r7 =>
    oRes Tryd.prog [(r7.1, none)] r7.2) (
    bnd (oMv (.int .i64 0) r6.2) fun r8 =>
    bnd (oMv (.int .i64 0) r8.2) fun r9 =>
    bnd (loopO (law15_Far_L1 call) (rput (rput (rput (rput (rput (rput (rput (rput (argGo 0 [x0] PlanTab.blank) (some 1) r1.1) (some 2) r2.1) (some 7) r3.1) (some 8) r4.1) (some 9) r5.1) (some 10) r6.1) (some 3) r8.1) (some 4) r9.1) r9.2) fun r71 =>
    kExit 0 r71.1 (
      bnd (oMv (r71.2.1 3) r71.2.2) fun r72 =>
      bnd (oBin Tryd.prog .gtr 3 false true r72.1 (.int .i64 200) r72.2) fun r73 =>
      bnd (oMv r73.1 r73.2) fun r74 =>
      oRes Tryd.prog [(r74.1, none)] r74.2) (kRetX r71.1 (
      oRes Tryd.prog [((r71.2.1 2), none)] r71.2.2)))
theorem law15_Far_eq (call : Eng.Callee) (x0 : Value) (W : AW) : kFun Tryd.prog call 63 (cod 29) (rss 29) [x0] W = law15_Far call x0 W := by kernel_rfl
theorem law15_Far_om {x0 : Value} {W : AW} {r : Value × AW} (h : law15_Far omS x0 W = some r) : omS (.func (.func 29) #[] #[]) [x0] W = some (gc W r) := om_of (nt := 63) (n := 1) (by kernel_rfl) (by kernel_rfl) rfl ((law15_Far_eq omS x0 W).trans h)
noncomputable def venue_Seats_Y1a (call : Eng.Callee) (R : Nat → Value) (W : AW) : Option LT :=
  bnd (oAlloc Tryd.prog 92 W) fun r18 =>
  bnd (stV 4 r18.1 (R 17) r18.2) fun r19 =>
  some (X.normal, (rput R (some 6) r18.1), r19.2)
theorem venue_Seats_Y1a_eq (call : Eng.Callee) (R : Nat → Value) (W : AW) : kCode Tryd.prog call false 23 (cAt [1, 1, 0, 1, 0, 0] (cod 31)) LT R W ret3 = venue_Seats_Y1a call R W := by kernel_rfl
noncomputable def venue_Seats_Y1b (call : Eng.Callee) (R : Nat → Value) (W : AW) : Option LT :=
  bnd (ldC (R 2) W) fun r20 =>
  bnd (faO 3 (R 6) r20.2) fun r21 =>
  bnd (ldC r21.1 r21.2) fun r22 =>
  bnd (oBin Tryd.prog .add 3 false false r20.1 r22.1 r22.2) fun r23 =>
  bnd (stV 1 (R 2) r23.1 r23.2) fun r24 =>
  some (X.normal, (rput (rput (rput (rput R (some 18) r20.1) (some 19) r21.1) (some 20) r22.1) (some 21) r23.1), r24.2)
theorem venue_Seats_Y1b_eq (call : Eng.Callee) (R : Nat → Value) (W : AW) : kCode Tryd.prog call false 23 (cAt [1, 1, 0, 1, 0, 1] (cod 31)) LT R W ret3 = venue_Seats_Y1b call R W := by kernel_rfl
noncomputable def venue_Seats (call : Eng.Callee) (x0 : Value) (W : AW) : Option (Value × AW) :=
  bnd (oBox x0 W) fun r1 =>
  bnd (oAlloc Tryd.prog 3 r1.2) fun r2 =>
  bnd (oMv (.int .i64 0) r2.2) fun r3 =>
  bnd (ldA 4 r1.1 r3.2) fun r4 =>
  bnd (call (fnV 42) [r4.1] r4.2) fun r5 =>
  bnd (oMv r5.1 r5.2) fun r6 =>
  bnd (oExtract r6.1 0 r6.2) fun r7 =>
  bnd (oExtract r6.1 1 r7.2) fun r8 =>
  bnd (oMv r7.1 r8.2) fun r9 =>
  bnd (oMv r8.1 r9.2) fun r10 =>
  bnd (oMv r10.1 r10.2) fun r11 =>
  bnd (oBin Tryd.prog .neq 28 false true r11.1 (.int .i64 0) r11.2) fun r12 =>
  vIf r12.1 (
    bnd (oMv r10.1 r12.2) fun r13 =>
    bnd (stV 1 r2.1 (.int .i64 0) r13.2) fun r14 =>
    bnd (oMv r13.1 r14.2) fun r15 =>
    oRes Tryd.prog [(r2.1, some 3), (r15.1, none)] r15.2) (
    bnd (ldA 4 r1.1 r12.2) fun r16 =>
    bnd (call (fnV 55) [r16.1] r16.2) fun r17 =>
    bnd (oRange call r17.1 (.loop .ready none (rput (rput (rput (rput (rput (rput (rput (rput (rput (rput (rput (rput (rput (rput (argGo 0 [x0] PlanTab.blank) (some 1) r1.1) (some 2) r2.1) (some 3) r3.1) (some 8) r4.1) (some 9) r5.1) (some 7) r6.1) (some 10) r7.1) (some 11) r8.1) (some 4) r9.1) (some 5) r10.1) (some 12) r11.1) (some 13) r12.1) (some 15) r16.1) (some 16) r17.1) 23 #[17] (cAt [1, 1, 0, 1, 0, 0] (cod 31)) (cAt [1, 1, 0, 1, 0, 1] (cod 31))) r17.2) fun r25 =>
    kNorm r25.1 (
      bnd (ldC r2.1 r25.2) fun r26 =>
      bnd (stV 1 r2.1 r26.1 r26.2) fun r27 =>
      bnd (oMv (.int .i64 0) r27.2) fun r28 =>
      oRes Tryd.prog [(r2.1, some 3), (r28.1, none)] r28.2) (none))
theorem venue_Seats_eq (call : Eng.Callee) (x0 : Value) (W : AW) : kFun Tryd.prog call 23 (cod 31) (rss 31) [x0] W = venue_Seats call x0 W := by kernel_rfl
theorem venue_Seats_om {x0 : Value} {W : AW} {r : Value × AW} (h : venue_Seats omS x0 W = some r) : omS (.func (.func 31) #[] #[]) [x0] W = some (gc W r) := om_of (nt := 23) (n := 1) (by kernel_rfl) (by kernel_rfl) rfl ((venue_Seats_eq omS x0 W).trans h)
noncomputable def venue_Place (call : Eng.Callee) (x0 x1 : Value) (W : AW) : Option (Value × AW) :=
  bnd (oBox x0 W) fun r1 =>
  bnd (oAlloc Tryd.prog 65 r1.2) fun r2 =>
  bnd (oMv (.int .i64 0) r2.2) fun r3 =>
  bnd (ldA 4 r1.1 r3.2) fun r4 =>
  bnd (oMv x1 r4.2) fun r5 =>
  bnd (call (fnV 57) [r4.1, r5.1] r5.2) fun r6 =>
  bnd (oMv r6.1 r6.2) fun r7 =>
  bnd (oExtract r7.1 0 r7.2) fun r8 =>
  bnd (oExtract r7.1 1 r8.2) fun r9 =>
  bnd (oAlloc Tryd.prog 92 r9.2) fun r10 =>
  bnd (stV 4 r10.1 r8.1 r10.2) fun r11 =>
  bnd (oMv r9.1 r11.2) fun r12 =>
  bnd (oMv r12.1 r12.2) fun r13 =>
  bnd (oBin Tryd.prog .neq 28 false true r13.1 (.int .i64 0) r13.2) fun r14 =>
  vIf r14.1 (
    bnd (oBuild Tryd.prog 65 [] r14.2) fun r15 =>
    bnd (oMv r12.1 r15.2) fun r16 =>
    bnd (stV 3 r2.1 r15.1 r16.2) fun r17 =>
    bnd (oMv r16.1 r17.2) fun r18 =>
    oRes Tryd.prog [(r2.1, some 65), (r18.1, none)] r18.2) (
    bnd (faO 0 r10.1 r14.2) fun r19 =>
    bnd (ldC r19.1 r19.2) fun r20 =>
    bnd (faO 1 r10.1 r20.2) fun r21 =>
    bnd (ldC r21.1 r21.2) fun r22 =>
    bnd (oMv x1 r22.2) fun r23 =>
    bnd (faO 2 r10.1 r23.2) fun r24 =>
    bnd (ldC r24.1 r24.2) fun r25 =>
    bnd (oBin Tryd.prog .sub 3 false false r23.1 r25.1 r25.2) fun r26 =>
    bnd (oBuild Tryd.prog 65 [(0, r20.1), (1, r22.1), (2, r26.1)] r26.2) fun r27 =>
    bnd (stV 3 r2.1 r27.1 r27.2) fun r28 =>
    bnd (oMv (.int .i64 0) r28.2) fun r29 =>
    oRes Tryd.prog [(r2.1, some 65), (r29.1, none)] r29.2)
theorem venue_Place_eq (call : Eng.Callee) (x0 x1 : Value) (W : AW) : kFun Tryd.prog call 27 (cod 35) (rss 35) [x0, x1] W = venue_Place call x0 x1 W := by kernel_rfl
theorem venue_Place_om {x0 x1 : Value} {W : AW} {r : Value × AW} (h : venue_Place omS x0 x1 W = some r) : omS (.func (.func 35) #[] #[]) [x0, x1] W = some (gc W r) := om_of (nt := 27) (n := 2) (by kernel_rfl) (by kernel_rfl) rfl ((venue_Place_eq omS x0 x1 W).trans h)
noncomputable def venue_Sides (call : Eng.Callee) (x0 x1 : Value) (W : AW) : Option (Value × AW) :=
  bnd (oBox x0 W) fun r1 =>
  bnd (oMv (.int .i64 0) r1.2) fun r2 =>
  bnd (oMv (.int .i64 0) r2.2) fun r3 =>
  bnd (oMv (.int .i64 0) r3.2) fun r4 =>
  bnd (ldA 4 r1.1 r4.2) fun r5 =>
  bnd (oMv x1 r5.2) fun r6 =>
  bnd (call (fnV 57) [r5.1, r6.1] r6.2) fun r7 =>
  bnd (oMv r7.1 r7.2) fun r8 =>
  bnd (oExtract r8.1 0 r8.2) fun r9 =>
  bnd (oExtract r8.1 1 r9.2) fun r10 =>
  bnd (oAlloc Tryd.prog 92 r10.2) fun r11 =>
  bnd (stV 4 r11.1 r9.1 r11.2) fun r12 =>
  bnd (oMv r10.1 r12.2) fun r13 =>
  bnd (oMv r13.1 r13.2) fun r14 =>
  bnd (oBin Tryd.prog .neq 28 false true r14.1 (.int .i64 0) r14.2) fun r15 =>
  vIf r15.1 (
    bnd (oMv r13.1 r15.2) fun r16 =>
    bnd (oMv (.int .i64 0) r16.2) fun r17 =>
    bnd (oMv (.int .i64 0) r17.2) fun r18 =>
    bnd (oMv r16.1 r18.2) fun r19 =>
    oRes Tryd.prog [(r17.1, none), (r18.1, none), (r19.1, none)] r19.2) (
    bnd (oMv x1 r15.2) fun r20 =>
    bnd (oBin Tryd.prog .sub 3 false true r20.1 (.int .i64 1) r20.2) fun r21 =>
    bnd (oMv x1 r21.2) fun r22 =>
    bnd (oBin Tryd.prog .add 3 false true r22.1 (.int .i64 1) r22.2) fun r23 =>
    bnd (oMv r21.1 r23.2) fun r24 =>
    bnd (oMv r23.1 r24.2) fun r25 =>
    bnd (oMv r24.1 r25.2) fun r26 =>
    bnd (faO 2 r11.1 r26.2) fun r27 =>
    bnd (ldC r27.1 r27.2) fun r28 =>
    bnd (oBin Tryd.prog .lss 3 false false r26.1 r28.1 r28.2) fun r29 =>
    vIf r29.1 (
      bnd (oMv (.int .i64 (-1)) r29.2) fun r30 =>
      bnd (oMv r25.1 r30.2) fun r31 =>
      bnd (faO 2 r11.1 r31.2) fun r32 =>
      bnd (ldC r32.1 r32.2) fun r33 =>
      bnd (faO 3 r11.1 r33.2) fun r34 =>
      bnd (ldC r34.1 r34.2) fun r35 =>
      bnd (oBin Tryd.prog .add 3 false false r33.1 r35.1 r35.2) fun r36 =>
      bnd (oBin Tryd.prog .eql 3 false false r31.1 r36.1 r36.2) fun r37 =>
      vIf r37.1 (
        bnd (oMv (.int .i64 (-1)) r37.2) fun r38 =>
        bnd (oMv r30.1 r38.2) fun r39 =>
        bnd (oMv r38.1 r39.2) fun r40 =>
        bnd (oMv r39.1 r40.2) fun r41 =>
        bnd (oMv r40.1 r41.2) fun r42 =>
        bnd (oMv (.int .i64 0) r42.2) fun r43 =>
        oRes Tryd.prog [(r41.1, none), (r42.1, none), (r43.1, none)] r43.2) (
        bnd (oMv r30.1 r37.2) fun r44 =>
        bnd (oMv r25.1 r44.2) fun r45 =>
        bnd (oMv r44.1 r45.2) fun r46 =>
        bnd (oMv r45.1 r46.2) fun r47 =>
        bnd (oMv (.int .i64 0) r47.2) fun r48 =>
        oRes Tryd.prog [(r46.1, none), (r47.1, none), (r48.1, none)] r48.2)) (
      bnd (oMv r25.1 r29.2) fun r49 =>
      bnd (faO 2 r11.1 r49.2) fun r50 =>
      bnd (ldC r50.1 r50.2) fun r51 =>
      bnd (faO 3 r11.1 r51.2) fun r52 =>
      bnd (ldC r52.1 r52.2) fun r53 =>
      bnd (oBin Tryd.prog .add 3 false false r51.1 r53.1 r53.2) fun r54 =>
      bnd (oBin Tryd.prog .eql 3 false false r49.1 r54.1 r54.2) fun r55 =>
      vIf r55.1 (
        bnd (oMv (.int .i64 (-1)) r55.2) fun r56 =>
        bnd (oMv r24.1 r56.2) fun r57 =>
        bnd (oMv r56.1 r57.2) fun r58 =>
        bnd (oMv r57.1 r58.2) fun r59 =>
        bnd (oMv r58.1 r59.2) fun r60 =>
        bnd (oMv (.int .i64 0) r60.2) fun r61 =>
        oRes Tryd.prog [(r59.1, none), (r60.1, none), (r61.1, none)] r61.2) (
        bnd (oMv r24.1 r55.2) fun r62 =>
        bnd (oMv r25.1 r62.2) fun r63 =>
        bnd (oMv r62.1 r63.2) fun r64 =>
        bnd (oMv r63.1 r64.2) fun r65 =>
        bnd (oMv (.int .i64 0) r65.2) fun r66 =>
        oRes Tryd.prog [(r64.1, none), (r65.1, none), (r66.1, none)] r66.2)))
theorem venue_Sides_eq (call : Eng.Callee) (x0 x1 : Value) (W : AW) : kFun Tryd.prog call 34 (cod 36) (rss 36) [x0, x1] W = venue_Sides call x0 x1 W := by kernel_rfl
theorem venue_Sides_om {x0 x1 : Value} {W : AW} {r : Value × AW} (h : venue_Sides omS x0 x1 W = some r) : omS (.func (.func 36) #[] #[]) [x0, x1] W = some (gc W r) := om_of (nt := 34) (n := 2) (by kernel_rfl) (by kernel_rfl) rfl ((venue_Sides_eq omS x0 x1 W).trans h)
noncomputable def venue_Check_L1_L2 (call : Eng.Callee) (R : Nat → Value) (W : AW) : Option LT :=
  bnd (oBin Tryd.prog .lss 3 false false (R 55) (R 54) W) fun r63 =>
  vIf r63.1 (
    bnd (ixS 1 (R 53) (R 55) r63.2) fun r64 =>
    bnd (ldC r64.1 r64.2) fun r65 =>
    bnd (oMv r65.1 r65.2) fun r66 =>
    bnd (oMv (R 4) r66.2) fun r67 =>
    bnd (oMv r66.1 r67.2) fun r68 =>
    bnd (oBin Tryd.prog .add 3 false false r67.1 r68.1 r68.2) fun r69 =>
    bnd (oMv r69.1 r69.2) fun r70 =>
    bnd (oBin Tryd.prog .add 3 false true (R 55) (.int .i64 1) r70.2) fun r71 =>
    bnd (oMv r71.1 r71.2) fun r72 =>
    some (X.normal, (rput (rput (rput (rput (rput (rput (rput (rput (rput (rput R (some 56) r63.1) (some 57) r64.1) (some 58) r65.1) (some 9) r66.1) (some 59) r67.1) (some 60) r68.1) (some 61) r69.1) (some 4) r70.1) (some 62) r71.1) (some 55) r72.1), r72.2)) (
    some (X.exit 3, (rput R (some 56) r63.1), r63.2))
noncomputable def venue_Check_L1 (call : Eng.Callee) (R : Nat → Value) (W : AW) : Option LT :=
  bnd (oBin Tryd.prog .lss 3 false false (R 37) (R 36) W) fun r39 =>
  vIf r39.1 (
    bnd (oMv (R 37) r39.2) fun r40 =>
    bnd (ixS 3 (R 35) (R 37) r40.2) fun r41 =>
    bnd (ldA 3 r41.1 r41.2) fun r42 =>
    bnd (oAlloc Tryd.prog 62 r42.2) fun r43 =>
    bnd (oMv r40.1 r43.2) fun r44 =>
    bnd (stV 3 r43.1 r42.1 r44.2) fun r45 =>
    bnd (ldA 3 r43.1 r45.2) fun r46 =>
    bnd (faO 3 (R 1) r46.2) fun r47 =>
    bnd (ldC r47.1 r47.2) fun r48 =>
    bnd (oMv r44.1 r48.2) fun r49 =>
    bnd (oSlice Tryd.prog 34 r48.1 none (some r49.1) none r49.2) fun r50 =>
    bnd (call (fnV 60) [r46.1, r50.1] r50.2) fun r51 =>
    bnd (oMv r51.1 r51.2) fun r52 =>
    bnd (oMv r52.1 r52.2) fun r53 =>
    bnd (oBin Tryd.prog .neq 28 false true r53.1 (.int .i64 0) r53.2) fun r54 =>
    vIf r54.1 (
      bnd (oMv r44.1 r54.2) fun r55 =>
      bnd (oMv r52.1 r55.2) fun r56 =>
      bnd (oMv r55.1 r56.2) fun r57 =>
      bnd (oMv r56.1 r57.2) fun r58 =>
      some (X.ret, (rput (rput (rput (rput (rput (rput (rput (rput (rput (rput (rput (rput (rput (rput (rput (rput (rput (rput (rput R (some 38) r39.1) (some 39) r40.1) (some 40) r41.1) (some 41) r42.1) (some 6) r43.1) (some 5) r44.1) (some 42) r46.1) (some 43) r47.1) (some 44) r48.1) (some 45) r49.1) (some 46) r50.1) (some 47) r51.1) (some 7) r52.1) (some 48) r53.1) (some 49) r54.1) (some 50) r55.1) (some 51) r56.1) (some 2) r57.1) (some 3) r58.1), r58.2)) (
      bnd (faO 1 r43.1 r54.2) fun r59 =>
      bnd (ldC r59.1 r59.2) fun r60 =>
      bnd (oBuiltin Tryd.prog .len #[38] 3 #[false] [r60.1] r60.2) fun r61 =>
      bnd (oMv (.int .i64 0) r61.2) fun r62 =>
      bnd (loopO (venue_Check_L1_L2 call) (rput (rput (rput (rput (rput (rput (rput (rput (rput (rput (rput (rput (rput (rput (rput (rput (rput (rput (rput R (some 38) r39.1) (some 39) r40.1) (some 40) r41.1) (some 41) r42.1) (some 6) r43.1) (some 5) r44.1) (some 42) r46.1) (some 43) r47.1) (some 44) r48.1) (some 45) r49.1) (some 46) r50.1) (some 47) r51.1) (some 7) r52.1) (some 48) r53.1) (some 49) r54.1) (some 52) r59.1) (some 53) r60.1) (some 54) r61.1) (some 55) r62.1) r62.2) fun r73 =>
      kExit 3 r73.1 (
        bnd (oBin Tryd.prog .add 3 false true (r73.2.1 37) (.int .i64 1) r73.2.2) fun r74 =>
        bnd (oMv r74.1 r74.2) fun r75 =>
        some (X.normal, (rput (rput r73.2.1 (some 63) r74.1) (some 37) r75.1), r75.2)) (none))) (
    some (X.exit 1, (rput R (some 38) r39.1), r39.2))
noncomputable def venue_Check (call : Eng.Callee) (x0 : Value) (W : AW) : Option (Value × AW) :=
  bnd (oBox x0 W) fun r1 =>
  bnd (oMv (.int .i64 0) r1.2) fun r2 =>
  bnd (oMv (.int .i64 0) r2.2) fun r3 =>
  bnd (faO 0 r1.1 r3.2) fun r4 =>
  bnd (ldC r4.1 r4.2) fun r5 =>
  bnd (call (fnV 56) [r5.1, (.int .i64 1), (.int .i64 16)] r5.2) fun r6 =>
  bnd (oMv r6.1 r6.2) fun r7 =>
  bnd (bIf (wnt r7.1 false) (faO 1 r1.1 r7.2) (some (undef, r7.2))) fun r8 =>
  bnd (bIf (wnt r7.1 false) (ldC r8.1 r8.2) (some (undef, r8.2))) fun r9 =>
  bnd (bIf (wnt r7.1 false) (call (fnV 59) [r9.1, (.int .i64 1), (.int .i64 1000000000)] r9.2) (some (undef, r9.2))) fun r10 =>
  bnd (oPick r7.1 (.bool true) r10.1 r10.2) fun r11 =>
  bnd (oMv r11.1 r11.2) fun r12 =>
  bnd (bIf (wnt r12.1 false) (faO 2 r1.1 r12.2) (some (undef, r12.2))) fun r13 =>
  bnd (bIf (wnt r12.1 false) (ldC r13.1 r13.2) (some (undef, r13.2))) fun r14 =>
  bnd (bIf (wnt r12.1 false) (call (fnV 59) [r14.1, (.int .i64 1), (.int .i64 1000000000)] r14.2) (some (undef, r14.2))) fun r15 =>
  bnd (oPick r12.1 (.bool true) r15.1 r15.2) fun r16 =>
  bnd (oMv r16.1 r16.2) fun r17 =>
  vIf r17.1 (
    bnd (oMv (.int .i64 (-1)) r17.2) fun r18 =>
    bnd (oMv (.int .i64 7) r18.2) fun r19 =>
    oRes Tryd.prog [(r18.1, none), (r19.1, none)] r19.2) (
    bnd (faO 3 r1.1 r17.2) fun r20 =>
    bnd (ldC r20.1 r20.2) fun r21 =>
    bnd (oBuiltin Tryd.prog .len #[34] 3 #[false] [r21.1] r21.2) fun r22 =>
    bnd (oBin Tryd.prog .eql 3 false true r22.1 (.int .i64 0) r22.2) fun r23 =>
    bnd (oMv r23.1 r23.2) fun r24 =>
    vIf r24.1 (
      bnd (oMv (.int .i64 (-1)) r24.2) fun r25 =>
      bnd (oMv (.int .i64 6) r25.2) fun r26 =>
      oRes Tryd.prog [(r25.1, none), (r26.1, none)] r26.2) (
      bnd (faO 3 r1.1 r24.2) fun r27 =>
      bnd (ldC r27.1 r27.2) fun r28 =>
      bnd (oBuiltin Tryd.prog .len #[34] 3 #[false] [r28.1] r28.2) fun r29 =>
      bnd (oBin Tryd.prog .gtr 3 false true r29.1 (.int .i64 8) r29.2) fun r30 =>
      bnd (oMv r30.1 r30.2) fun r31 =>
      vIf r31.1 (
        bnd (oMv (.int .i64 (-1)) r31.2) fun r32 =>
        bnd (oMv (.int .i64 3) r32.2) fun r33 =>
        oRes Tryd.prog [(r32.1, none), (r33.1, none)] r33.2) (
        bnd (oMv (.int .i64 0) r31.2) fun r34 =>
        bnd (faO 3 r1.1 r34.2) fun r35 =>
        bnd (ldC r35.1 r35.2) fun r36 =>
        bnd (oBuiltin Tryd.prog .len #[34] 3 #[false] [r36.1] r36.2) fun r37 =>
        bnd (oMv (.int .i64 0) r37.2) fun r38 =>
        bnd (loopO (venue_Check_L1 call) (rput (rput (rput (rput (rput (rput (rput (rput (rput (rput (rput (rput (rput (rput (rput (rput (rput (rput (rput (rput (rput (rput (rput (rput (rput (rput (rput (rput (rput (rput (rput (rput (argGo 0 [x0] PlanTab.blank) (some 1) r1.1) (some 2) r2.1) (some 3) r3.1) (some 11) r4.1) (some 12) r5.1) (some 13) r6.1) (some 14) r7.1) (some 15) r8.1) (some 16) r9.1) (some 17) r10.1) (some 18) r11.1) (some 19) r12.1) (some 20) r13.1) (some 21) r14.1) (some 22) r15.1) (some 23) r16.1) (some 10) r17.1) (some 25) r20.1) (some 26) r21.1) (some 27) r22.1) (some 28) r23.1) (some 24) r24.1) (some 30) r27.1) (some 31) r28.1) (some 32) r29.1) (some 33) r30.1) (some 29) r31.1) (some 4) r34.1) (some 34) r35.1) (some 35) r36.1) (some 36) r37.1) (some 37) r38.1) r38.2) fun r76 =>
        kExit 1 r76.1 (
          bnd (oMv (r76.2.1 4) r76.2.2) fun r77 =>
          bnd (oBin Tryd.prog .gtr 3 false true r77.1 (.int .i64 4096) r77.2) fun r78 =>
          vIf r78.1 (
            bnd (oMv (.int .i64 (-1)) r78.2) fun r79 =>
            bnd (oMv (.int .i64 3) r79.2) fun r80 =>
            oRes Tryd.prog [(r79.1, none), (r80.1, none)] r80.2) (
            bnd (oMv (.int .i64 0) r78.2) fun r81 =>
            bnd (oMv (.int .i64 0) r81.2) fun r82 =>
            oRes Tryd.prog [(r81.1, none), (r82.1, none)] r82.2)) (kRetX r76.1 (
          oRes Tryd.prog [((r76.2.1 2), none), ((r76.2.1 3), none)] r76.2.2)))))
theorem venue_Check_eq (call : Eng.Callee) (x0 : Value) (W : AW) : kFun Tryd.prog call 66 (cod 42) (rss 42) [x0] W = venue_Check call x0 W := by kernel_rfl
theorem venue_Check_om {x0 : Value} {W : AW} {r : Value × AW} (h : venue_Check omS x0 W = some r) : omS (.func (.func 42) #[] #[]) [x0] W = some (gc W r) := om_of (nt := 66) (n := 1) (by kernel_rfl) (by kernel_rfl) rfl ((venue_Check_eq omS x0 W).trans h)
noncomputable def venue_rows (call : Eng.Callee) (x0 : Value) (W : AW) : Option (Value × AW) :=
  bnd (oBox x0 W) fun r1 =>
  bnd (oMv .nilFunc r1.2) fun r2 =>
  bnd (oMkFunc (.func 73) #[] #[r1.1] r2.2) fun r3 =>
  bnd (oMv r3.1 r3.2) fun r4 =>
  oRes Tryd.prog [(r4.1, none)] r4.2
theorem venue_rows_eq (call : Eng.Callee) (x0 : Value) (W : AW) : kFun Tryd.prog call 4 (cod 55) (rss 55) [x0] W = venue_rows call x0 W := by kernel_rfl
theorem venue_rows_om {x0 : Value} {W : AW} {r : Value × AW} (h : venue_rows omS x0 W = some r) : omS (.func (.func 55) #[] #[]) [x0] W = some (gc W r) := om_of (nt := 4) (n := 1) (by kernel_rfl) (by kernel_rfl) rfl ((venue_rows_eq omS x0 W).trans h)
noncomputable def venue_outsideint (call : Eng.Callee) (x0 x1 x2 : Value) (W : AW) : Option (Value × AW) :=
  bnd (oMv (.bool false) W) fun r1 =>
  bnd (oMv x0 r1.2) fun r2 =>
  bnd (oMv x1 r2.2) fun r3 =>
  bnd (oBin Tryd.prog .lss 3 false false r2.1 r3.1 r3.2) fun r4 =>
  bnd (oMv r4.1 r4.2) fun r5 =>
  bnd (bIf (wnt r5.1 false) (oMv x0 r5.2) (some (undef, r5.2))) fun r6 =>
  bnd (bIf (wnt r5.1 false) (oMv x2 r6.2) (some (undef, r6.2))) fun r7 =>
  bnd (bIf (wnt r5.1 false) (oBin Tryd.prog .gtr 3 false false r6.1 r7.1 r7.2) (some (undef, r7.2))) fun r8 =>
  bnd (oPick r5.1 (.bool true) r8.1 r8.2) fun r9 =>
  bnd (oMv r9.1 r9.2) fun r10 =>
  oRes Tryd.prog [(r10.1, none)] r10.2
theorem venue_outsideint_eq (call : Eng.Callee) (x0 x1 x2 : Value) (W : AW) : kFun Tryd.prog call 15 (cod 56) (rss 56) [x0, x1, x2] W = venue_outsideint call x0 x1 x2 W := by kernel_rfl
theorem venue_outsideint_om {x0 x1 x2 : Value} {W : AW} {r : Value × AW} (h : venue_outsideint omS x0 x1 x2 W = some r) : omS (.func (.func 56) #[] #[]) [x0, x1, x2] W = some (gc W r) := om_of (nt := 15) (n := 3) (by kernel_rfl) (by kernel_rfl) rfl ((venue_outsideint_eq omS x0 x1 x2 W).trans h)
noncomputable def venue_find_Y1a (call : Eng.Callee) (R : Nat → Value) (W : AW) : Option LT :=
  bnd (oAlloc Tryd.prog 92 W) fun r20 =>
  bnd (stV 4 r20.1 (R 20) r20.2) fun r21 =>
  some (X.normal, (rput R (some 8) r20.1), r21.2)
theorem venue_find_Y1a_eq (call : Eng.Callee) (R : Nat → Value) (W : AW) : kCode Tryd.prog call false 36 (cAt [1, 1, 0, 1, 0, 0] (cod 57)) LT R W ret3 = venue_find_Y1a call R W := by kernel_rfl
noncomputable def venue_find_Y1b (call : Eng.Callee) (R : Nat → Value) (W : AW) : Option LT :=
  bnd (ldC (R 3) W) fun r22 =>
  bnd (faO 2 (R 8) r22.2) fun r23 =>
  bnd (ldC r23.1 r23.2) fun r24 =>
  bnd (oBin Tryd.prog .geq 3 false false r22.1 r24.1 r24.2) fun r25 =>
  bnd (oMv r25.1 r25.2) fun r26 =>
  bnd (bIf (wnt r26.1 true) (ldC (R 3) r26.2) (some (undef, r26.2))) fun r27 =>
  bnd (bIf (wnt r26.1 true) (faO 2 (R 8) r27.2) (some (undef, r27.2))) fun r28 =>
  bnd (bIf (wnt r26.1 true) (ldC r28.1 r28.2) (some (undef, r28.2))) fun r29 =>
  bnd (bIf (wnt r26.1 true) (faO 3 (R 8) r29.2) (some (undef, r29.2))) fun r30 =>
  bnd (bIf (wnt r26.1 true) (ldC r30.1 r30.2) (some (undef, r30.2))) fun r31 =>
  bnd (bIf (wnt r26.1 true) (oBin Tryd.prog .add 3 false false r29.1 r31.1 r31.2) (some (undef, r31.2))) fun r32 =>
  bnd (bIf (wnt r26.1 true) (oBin Tryd.prog .lss 3 false false r27.1 r32.1 r32.2) (some (undef, r32.2))) fun r33 =>
  bnd (oPick r26.1 r33.1 (.bool false) r33.2) fun r34 =>
  vIf r34.1 (
    bnd (ldA 4 (R 8) r34.2) fun r35 =>
    bnd (stV 4 (R 4) r35.1 r35.2) fun r36 =>
    bnd (stV 1 (R 5) (.int .i64 0) r36.2) fun r37 =>
    some (X.ret, (rput (rput (rput (rput (rput (rput (rput (rput (rput (rput (rput (rput (rput (rput R (some 21) r22.1) (some 22) r23.1) (some 23) r24.1) (some 24) r25.1) (some 25) r26.1) (some 26) r27.1) (some 27) r28.1) (some 28) r29.1) (some 29) r30.1) (some 30) r31.1) (some 31) r32.1) (some 32) r33.1) (some 33) r34.1) (some 34) r35.1), r37.2)) (
    some (X.normal, (rput (rput (rput (rput (rput (rput (rput (rput (rput (rput (rput (rput (rput R (some 21) r22.1) (some 22) r23.1) (some 23) r24.1) (some 24) r25.1) (some 25) r26.1) (some 26) r27.1) (some 27) r28.1) (some 28) r29.1) (some 29) r30.1) (some 30) r31.1) (some 31) r32.1) (some 32) r33.1) (some 33) r34.1), r34.2))
theorem venue_find_Y1b_eq (call : Eng.Callee) (R : Nat → Value) (W : AW) : kCode Tryd.prog call false 36 (cAt [1, 1, 0, 1, 0, 1] (cod 57)) LT R W ret3 = venue_find_Y1b call R W := by kernel_rfl
noncomputable def venue_find (call : Eng.Callee) (x0 x1 : Value) (W : AW) : Option (Value × AW) :=
  bnd (oBox x0 W) fun r1 =>
  bnd (oBox x1 r1.2) fun r2 =>
  bnd (oAlloc Tryd.prog 92 r2.2) fun r3 =>
  bnd (oAlloc Tryd.prog 28 r3.2) fun r4 =>
  bnd (ldA 4 r1.1 r4.2) fun r5 =>
  bnd (call (fnV 42) [r5.1] r5.2) fun r6 =>
  bnd (oMv r6.1 r6.2) fun r7 =>
  bnd (oExtract r7.1 0 r7.2) fun r8 =>
  bnd (oExtract r7.1 1 r8.2) fun r9 =>
  bnd (oMv r8.1 r9.2) fun r10 =>
  bnd (oMv r9.1 r10.2) fun r11 =>
  bnd (oMv r11.1 r11.2) fun r12 =>
  bnd (oBin Tryd.prog .neq 28 false true r12.1 (.int .i64 0) r12.2) fun r13 =>
  vIf r13.1 (
    bnd (oBuild Tryd.prog 92 [] r13.2) fun r14 =>
    bnd (oMv r11.1 r14.2) fun r15 =>
    bnd (stV 4 r3.1 r14.1 r15.2) fun r16 =>
    bnd (stV 1 r4.1 r15.1 r16.2) fun r17 =>
    oRes Tryd.prog [(r3.1, some 92), (r4.1, some 28)] r17.2) (
    bnd (ldA 4 r1.1 r13.2) fun r18 =>
    bnd (call (fnV 55) [r18.1] r18.2) fun r19 =>
    bnd (oRange call r19.1 (.loop .ready none (rput (rput (rput (rput (rput (rput (rput (rput (rput (rput (rput (rput (rput (rput (rput (argGo 0 [x0, x1] PlanTab.blank) (some 2) r1.1) (some 3) r2.1) (some 4) r3.1) (some 5) r4.1) (some 10) r5.1) (some 11) r6.1) (some 9) r7.1) (some 12) r8.1) (some 13) r9.1) (some 6) r10.1) (some 7) r11.1) (some 14) r12.1) (some 15) r13.1) (some 18) r18.1) (some 19) r19.1) 36 #[20] (cAt [1, 1, 0, 1, 0, 0] (cod 57)) (cAt [1, 1, 0, 1, 0, 1] (cod 57))) r19.2) fun r38 =>
    kNorm r38.1 (
      bnd (oBuild Tryd.prog 92 [] r38.2) fun r39 =>
      bnd (stV 4 r3.1 r39.1 r39.2) fun r40 =>
      bnd (stV 1 r4.1 (.int .i64 4) r40.2) fun r41 =>
      oRes Tryd.prog [(r3.1, some 92), (r4.1, some 28)] r41.2) (kRetX r38.1 (
      oRes Tryd.prog [(r3.1, some 92), (r4.1, some 28)] r38.2)))
theorem venue_find_eq (call : Eng.Callee) (x0 x1 : Value) (W : AW) : kFun Tryd.prog call 36 (cod 57) (rss 57) [x0, x1] W = venue_find call x0 x1 W := by kernel_rfl
theorem venue_find_om {x0 x1 : Value} {W : AW} {r : Value × AW} (h : venue_find omS x0 x1 W = some r) : omS (.func (.func 57) #[] #[]) [x0, x1] W = some (gc W r) := om_of (nt := 36) (n := 2) (by kernel_rfl) (by kernel_rfl) rfl ((venue_find_eq omS x0 x1 W).trans h)
noncomputable def venue_outsideint64 (call : Eng.Callee) (x0 x1 x2 : Value) (W : AW) : Option (Value × AW) :=
  bnd (oMv (.bool false) W) fun r1 =>
  bnd (oMv x0 r1.2) fun r2 =>
  bnd (oMv x1 r2.2) fun r3 =>
  bnd (oBin Tryd.prog .lss 2 false false r2.1 r3.1 r3.2) fun r4 =>
  bnd (oMv r4.1 r4.2) fun r5 =>
  bnd (bIf (wnt r5.1 false) (oMv x0 r5.2) (some (undef, r5.2))) fun r6 =>
  bnd (bIf (wnt r5.1 false) (oMv x2 r6.2) (some (undef, r6.2))) fun r7 =>
  bnd (bIf (wnt r5.1 false) (oBin Tryd.prog .gtr 2 false false r6.1 r7.1 r7.2) (some (undef, r7.2))) fun r8 =>
  bnd (oPick r5.1 (.bool true) r8.1 r8.2) fun r9 =>
  bnd (oMv r9.1 r9.2) fun r10 =>
  oRes Tryd.prog [(r10.1, none)] r10.2
theorem venue_outsideint64_eq (call : Eng.Callee) (x0 x1 x2 : Value) (W : AW) : kFun Tryd.prog call 15 (cod 59) (rss 59) [x0, x1, x2] W = venue_outsideint64 call x0 x1 x2 W := by kernel_rfl
theorem venue_outsideint64_om {x0 x1 x2 : Value} {W : AW} {r : Value × AW} (h : venue_outsideint64 omS x0 x1 x2 W = some r) : omS (.func (.func 59) #[] #[]) [x0, x1, x2] W = some (gc W r) := om_of (nt := 15) (n := 3) (by kernel_rfl) (by kernel_rfl) rfl ((venue_outsideint64_eq omS x0 x1 x2 W).trans h)
noncomputable def venue_check (call : Eng.Callee) (x0 x1 : Value) (W : AW) : Option (Value × AW) :=
  bnd (oBox x0 W) fun r1 =>
  bnd (oMv (.int .i64 0) r1.2) fun r2 =>
  bnd (faO 0 r1.1 r2.2) fun r3 =>
  bnd (ldC r3.1 r3.2) fun r4 =>
  bnd (call (fnV 76) [r4.1] r4.2) fun r5 =>
  bnd (oUn Tryd.prog .not r5.1 r5.2) fun r6 =>
  bnd (oMv r6.1 r6.2) fun r7 =>
  vIf r7.1 (
    bnd (oMv (.int .i64 6) r7.2) fun r8 =>
    oRes Tryd.prog [(r8.1, none)] r8.2) (
    bnd (oMv x1 r7.2) fun r9 =>
    bnd (oMkFunc (.func 78) #[] #[r1.1] r9.2) fun r10 =>
    bnd (call (fnV 77) [r9.1, r10.1] r10.2) fun r11 =>
    bnd (oMv r11.1 r11.2) fun r12 =>
    vIf r12.1 (
      bnd (oMv (.int .i64 8) r12.2) fun r13 =>
      oRes Tryd.prog [(r13.1, none)] r13.2) (
      bnd (faO 1 r1.1 r12.2) fun r14 =>
      bnd (ldC r14.1 r14.2) fun r15 =>
      bnd (oBuiltin Tryd.prog .len #[38] 3 #[false] [r15.1] r15.2) fun r16 =>
      bnd (oBin Tryd.prog .eql 3 false true r16.1 (.int .i64 0) r16.2) fun r17 =>
      bnd (oMv r17.1 r17.2) fun r18 =>
      vIf r18.1 (
        bnd (oMv (.int .i64 6) r18.2) fun r19 =>
        oRes Tryd.prog [(r19.1, none)] r19.2) (
        bnd (faO 1 r1.1 r18.2) fun r20 =>
        bnd (ldC r20.1 r20.2) fun r21 =>
        bnd (oBuiltin Tryd.prog .len #[38] 3 #[false] [r21.1] r21.2) fun r22 =>
        bnd (oBin Tryd.prog .gtr 3 false true r22.1 (.int .i64 16) r22.2) fun r23 =>
        bnd (oMv r23.1 r23.2) fun r24 =>
        vIf r24.1 (
          bnd (oMv (.int .i64 3) r24.2) fun r25 =>
          oRes Tryd.prog [(r25.1, none)] r25.2) (
          bnd (faO 1 r1.1 r24.2) fun r26 =>
          bnd (ldC r26.1 r26.2) fun r27 =>
          bnd (call (fnV 79) [r27.1, (fnV 80)] r27.2) fun r28 =>
          bnd (oMv r28.1 r28.2) fun r29 =>
          vIf r29.1 (
            bnd (oMv (.int .i64 7) r29.2) fun r30 =>
            oRes Tryd.prog [(r30.1, none)] r30.2) (
            bnd (faO 2 r1.1 r29.2) fun r31 =>
            bnd (ldC r31.1 r31.2) fun r32 =>
            bnd (call (fnV 56) [r32.1, (.int .i64 0), (.int .i64 64)] r32.2) fun r33 =>
            bnd (oMv r33.1 r33.2) fun r34 =>
            vIf r34.1 (
              bnd (oMv (.int .i64 7) r34.2) fun r35 =>
              oRes Tryd.prog [(r35.1, none)] r35.2) (
              bnd (oMv (.int .i64 0) r34.2) fun r36 =>
              oRes Tryd.prog [(r36.1, none)] r36.2))))))
theorem venue_check_eq (call : Eng.Callee) (x0 x1 : Value) (W : AW) : kFun Tryd.prog call 32 (cod 60) (rss 60) [x0, x1] W = venue_check call x0 x1 W := by kernel_rfl
theorem venue_check_om {x0 x1 : Value} {W : AW} {r : Value × AW} (h : venue_check omS x0 x1 W = some r) : omS (.func (.func 60) #[] #[]) [x0, x1] W = some (gc W r) := om_of (nt := 32) (n := 2) (by kernel_rfl) (by kernel_rfl) rfl ((venue_check_eq omS x0 x1 W).trans h)
noncomputable def venue_rows_1_L1_L2 (call : Eng.Callee) (R : Nat → Value) (W : AW) : Option LT :=
  bnd (oBin Tryd.prog .lss 3 false false (R 19) (R 18) W) fun r17 =>
  vIf r17.1 (
    bnd (oMv (R 19) r17.2) fun r18 =>
    bnd (ixS 1 (R 17) (R 19) r18.2) fun r19 =>
    bnd (ldC r19.1 r19.2) fun r20 =>
    bnd (oMv r18.1 r20.2) fun r21 =>
    bnd (oMv r20.1 r21.2) fun r22 =>
    bnd (oMv (R 0) r22.2) fun r23 =>
    bnd (oMv (R 4) r23.2) fun r24 =>
    bnd (oMv r21.1 r24.2) fun r25 =>
    bnd (oMv (R 3) r25.2) fun r26 =>
    bnd (oMv r22.1 r26.2) fun r27 =>
    bnd (oBuild Tryd.prog 92 [(0, r24.1), (1, r25.1), (2, r26.1), (3, r27.1)] r27.2) fun r28 =>
    bnd (call r23.1 [r28.1] r28.2) fun r29 =>
    bnd (oUn Tryd.prog .not r29.1 r29.2) fun r30 =>
    vIf r30.1 (
      some (X.ret, (rput (rput (rput (rput (rput (rput (rput (rput (rput (rput (rput (rput (rput (rput R (some 20) r17.1) (some 21) r18.1) (some 22) r19.1) (some 23) r20.1) (some 6) r21.1) (some 7) r22.1) (some 24) r23.1) (some 25) r24.1) (some 26) r25.1) (some 27) r26.1) (some 28) r27.1) (some 29) r28.1) (some 30) r29.1) (some 31) r30.1), r30.2)) (
      bnd (oMv (R 3) r30.2) fun r31 =>
      bnd (oMv r22.1 r31.2) fun r32 =>
      bnd (oBin Tryd.prog .add 3 false false r31.1 r32.1 r32.2) fun r33 =>
      bnd (oMv r33.1 r33.2) fun r34 =>
      bnd (oBin Tryd.prog .add 3 false true (R 19) (.int .i64 1) r34.2) fun r35 =>
      bnd (oMv r35.1 r35.2) fun r36 =>
      some (X.normal, (rput (rput (rput (rput (rput (rput (rput (rput (rput (rput (rput (rput (rput (rput (rput (rput (rput (rput (rput (rput R (some 20) r17.1) (some 21) r18.1) (some 22) r19.1) (some 23) r20.1) (some 6) r21.1) (some 7) r22.1) (some 24) r23.1) (some 25) r24.1) (some 26) r25.1) (some 27) r26.1) (some 28) r27.1) (some 29) r28.1) (some 30) r29.1) (some 31) r30.1) (some 32) r31.1) (some 33) r32.1) (some 34) r33.1) (some 3) r34.1) (some 35) r35.1) (some 19) r36.1), r36.2))) (
    some (X.exit 2, (rput R (some 20) r17.1), r17.2))
noncomputable def venue_rows_1_L1 (call : Eng.Callee) (R : Nat → Value) (W : AW) : Option LT :=
  bnd (oBin Tryd.prog .lss 3 false false (R 11) (R 10) W) fun r6 =>
  vIf r6.1 (
    bnd (oMv (R 11) r6.2) fun r7 =>
    bnd (ixS 3 (R 9) (R 11) r7.2) fun r8 =>
    bnd (ldA 3 r8.1 r8.2) fun r9 =>
    bnd (oAlloc Tryd.prog 62 r9.2) fun r10 =>
    bnd (oMv r7.1 r10.2) fun r11 =>
    bnd (stV 3 r10.1 r9.1 r11.2) fun r12 =>
    bnd (faO 1 r10.1 r12.2) fun r13 =>
    bnd (ldC r13.1 r13.2) fun r14 =>
    bnd (oBuiltin Tryd.prog .len #[38] 3 #[false] [r14.1] r14.2) fun r15 =>
    bnd (oMv (.int .i64 0) r15.2) fun r16 =>
    bnd (loopO (venue_rows_1_L1_L2 call) (rput (rput (rput (rput (rput (rput (rput (rput (rput (rput R (some 12) r6.1) (some 13) r7.1) (some 14) r8.1) (some 15) r9.1) (some 5) r10.1) (some 4) r11.1) (some 16) r13.1) (some 17) r14.1) (some 18) r15.1) (some 19) r16.1) r16.2) fun r37 =>
    kExit 2 r37.1 (
      bnd (oBin Tryd.prog .add 3 false true (r37.2.1 11) (.int .i64 1) r37.2.2) fun r38 =>
      bnd (oMv r38.1 r38.2) fun r39 =>
      some (X.normal, (rput (rput r37.2.1 (some 36) r38.1) (some 11) r39.1), r39.2)) (kRetX r37.1 (
      some (X.ret, r37.2.1, r37.2.2)))) (
    some (X.exit 0, (rput R (some 12) r6.1), r6.2))
noncomputable def venue_rows_1 (call : Eng.Callee) (x0 x1 : Value) (W : AW) : Option (Value × AW) :=
  bnd (oMv (.int .i64 0) W) fun r1 =>
  bnd (faO 3 x1 r1.2) fun r2 =>
  bnd (ldC r2.1 r2.2) fun r3 =>
  bnd (oBuiltin Tryd.prog .len #[34] 3 #[false] [r3.1] r3.2) fun r4 =>
  bnd (oMv (.int .i64 0) r4.2) fun r5 =>
  bnd (loopO (venue_rows_1_L1 call) (rput (rput (rput (rput (rput (argGo 0 [x0, x1] PlanTab.blank) (some 3) r1.1) (some 8) r2.1) (some 9) r3.1) (some 10) r4.1) (some 11) r5.1) r5.2) fun r40 =>
  kExit 0 r40.1 (
    oRes Tryd.prog [] r40.2.2) (kRetX r40.1 (
    oRes Tryd.prog [] r40.2.2))
theorem venue_rows_1_eq (call : Eng.Callee) (x0 x1 : Value) (W : AW) : kFun Tryd.prog call 37 (cod 73) (rss 73) [x0, x1] W = venue_rows_1 call x0 x1 W := by kernel_rfl
theorem venue_rows_1_om {x0 x1 : Value} {W : AW} {r : Value × AW} (h : venue_rows_1 omS x0 x1 W = some r) : omS (.func (.func 73) #[] #[x1]) [x0] W = some (gc W r) := om_of (nt := 37) (n := 2) (by kernel_rfl) (by kernel_rfl) rfl ((venue_rows_1_eq omS x0 x1 W).trans h)
noncomputable def slices_ContainsFuncapi_VnSectionapi_VnSection (call : Eng.Callee) (x0 x1 : Value) (W : AW) : Option (Value × AW) :=
  bnd (oMv (.bool false) W) fun r1 =>
  bnd (oMv x0 r1.2) fun r2 =>
  bnd (oMv x1 r2.2) fun r3 =>
  bnd (call (fnV 99) [r2.1, r3.1] r3.2) fun r4 =>
  bnd (oBin Tryd.prog .geq 3 false true r4.1 (.int .i64 0) r4.2) fun r5 =>
  bnd (oMv r5.1 r5.2) fun r6 =>
  oRes Tryd.prog [(r6.1, none)] r6.2
theorem slices_ContainsFuncapi_VnSectionapi_VnSection_eq (call : Eng.Callee) (x0 x1 : Value) (W : AW) : kFun Tryd.prog call 9 (cod 77) (rss 77) [x0, x1] W = slices_ContainsFuncapi_VnSectionapi_VnSection call x0 x1 W := by kernel_rfl
theorem slices_ContainsFuncapi_VnSectionapi_VnSection_om {x0 x1 : Value} {W : AW} {r : Value × AW} (h : slices_ContainsFuncapi_VnSectionapi_VnSection omS x0 x1 W = some r) : omS (.func (.func 77) #[] #[]) [x0, x1] W = some (gc W r) := om_of (nt := 9) (n := 2) (by kernel_rfl) (by kernel_rfl) rfl ((slices_ContainsFuncapi_VnSectionapi_VnSection_eq omS x0 x1 W).trans h)
noncomputable def venue_check_1 (call : Eng.Callee) (x0 x1 : Value) (W : AW) : Option (Value × AW) :=
  bnd (oBox x0 W) fun r1 =>
  bnd (oMv (.bool false) r1.2) fun r2 =>
  bnd (faO 0 r1.1 r2.2) fun r3 =>
  bnd (ldC r3.1 r3.2) fun r4 =>
  bnd (faO 0 x1 r4.2) fun r5 =>
  bnd (ldC r5.1 r5.2) fun r6 =>
  bnd (oBin Tryd.prog .eql 9 false false r4.1 r6.1 r6.2) fun r7 =>
  bnd (oMv r7.1 r7.2) fun r8 =>
  oRes Tryd.prog [(r8.1, none)] r8.2
theorem venue_check_1_eq (call : Eng.Callee) (x0 x1 : Value) (W : AW) : kFun Tryd.prog call 9 (cod 78) (rss 78) [x0, x1] W = venue_check_1 call x0 x1 W := by kernel_rfl
theorem venue_check_1_om {x0 x1 : Value} {W : AW} {r : Value × AW} (h : venue_check_1 omS x0 x1 W = some r) : omS (.func (.func 78) #[] #[x1]) [x0] W = some (gc W r) := om_of (nt := 9) (n := 2) (by kernel_rfl) (by kernel_rfl) rfl ((venue_check_1_eq omS x0 x1 W).trans h)
noncomputable def slices_ContainsFuncintint (call : Eng.Callee) (x0 x1 : Value) (W : AW) : Option (Value × AW) :=
  bnd (oMv (.bool false) W) fun r1 =>
  bnd (oMv x0 r1.2) fun r2 =>
  bnd (oMv x1 r2.2) fun r3 =>
  bnd (call (fnV 100) [r2.1, r3.1] r3.2) fun r4 =>
  bnd (oBin Tryd.prog .geq 3 false true r4.1 (.int .i64 0) r4.2) fun r5 =>
  bnd (oMv r5.1 r5.2) fun r6 =>
  oRes Tryd.prog [(r6.1, none)] r6.2
theorem slices_ContainsFuncintint_eq (call : Eng.Callee) (x0 x1 : Value) (W : AW) : kFun Tryd.prog call 9 (cod 79) (rss 79) [x0, x1] W = slices_ContainsFuncintint call x0 x1 W := by kernel_rfl
theorem slices_ContainsFuncintint_om {x0 x1 : Value} {W : AW} {r : Value × AW} (h : slices_ContainsFuncintint omS x0 x1 W = some r) : omS (.func (.func 79) #[] #[]) [x0, x1] W = some (gc W r) := om_of (nt := 9) (n := 2) (by kernel_rfl) (by kernel_rfl) rfl ((slices_ContainsFuncintint_eq omS x0 x1 W).trans h)
noncomputable def venue_check_2 (call : Eng.Callee) (x0 : Value) (W : AW) : Option (Value × AW) :=
  bnd (oMv (.bool false) W) fun r1 =>
  bnd (oMv x0 r1.2) fun r2 =>
  bnd (call (fnV 56) [r2.1, (.int .i64 1), (.int .i64 64)] r2.2) fun r3 =>
  bnd (oMv r3.1 r3.2) fun r4 =>
  oRes Tryd.prog [(r4.1, none)] r4.2
theorem venue_check_2_eq (call : Eng.Callee) (x0 : Value) (W : AW) : kFun Tryd.prog call 5 (cod 80) (rss 80) [x0] W = venue_check_2 call x0 W := by kernel_rfl
theorem venue_check_2_om {x0 : Value} {W : AW} {r : Value × AW} (h : venue_check_2 omS x0 W = some r) : omS (.func (.func 80) #[] #[]) [x0] W = some (gc W r) := om_of (nt := 5) (n := 1) (by kernel_rfl) (by kernel_rfl) rfl ((venue_check_2_eq omS x0 W).trans h)
noncomputable def slices_IndexFuncapi_VnSectionapi_VnSection_L1 (call : Eng.Callee) (R : Nat → Value) (W : AW) : Option LT :=
  bnd (oBin Tryd.prog .lss 3 false false (R 8) (R 7) W) fun r5 =>
  vIf r5.1 (
    bnd (oMv (R 8) r5.2) fun r6 =>
    bnd (oMv r6.1 r6.2) fun r7 =>
    bnd (oMv (R 1) r7.2) fun r8 =>
    bnd (oMv (R 0) r8.2) fun r9 =>
    bnd (oMv r7.1 r9.2) fun r10 =>
    bnd (ixS 3 r9.1 r10.1 r10.2) fun r11 =>
    bnd (ldA 3 r11.1 r11.2) fun r12 =>
    bnd (call r8.1 [r12.1] r12.2) fun r13 =>
    vIf r13.1 (
      bnd (oMv r7.1 r13.2) fun r14 =>
      bnd (oMv r14.1 r14.2) fun r15 =>
      some (X.ret, (rput (rput (rput (rput (rput (rput (rput (rput (rput (rput (rput R (some 9) r5.1) (some 10) r6.1) (some 5) r7.1) (some 11) r8.1) (some 12) r9.1) (some 13) r10.1) (some 14) r11.1) (some 15) r12.1) (some 16) r13.1) (some 17) r14.1) (some 4) r15.1), r15.2)) (
      bnd (oBin Tryd.prog .add 3 false true (R 8) (.int .i64 1) r13.2) fun r16 =>
      bnd (oMv r16.1 r16.2) fun r17 =>
      some (X.normal, (rput (rput (rput (rput (rput (rput (rput (rput (rput (rput (rput R (some 9) r5.1) (some 10) r6.1) (some 5) r7.1) (some 11) r8.1) (some 12) r9.1) (some 13) r10.1) (some 14) r11.1) (some 15) r12.1) (some 16) r13.1) (some 18) r16.1) (some 8) r17.1), r17.2))) (
    some (X.exit 0, (rput R (some 9) r5.1), r5.2))
noncomputable def slices_IndexFuncapi_VnSectionapi_VnSection (call : Eng.Callee) (x0 x1 : Value) (W : AW) : Option (Value × AW) :=
  bnd (oMv (.int .i64 0) W) fun r1 =>
  bnd (oMv x0 r1.2) fun r2 =>
  bnd (oBuiltin Tryd.prog .len #[34] 3 #[false] [r2.1] r2.2) fun r3 =>
  bnd (oMv (.int .i64 0) r3.2) fun r4 =>
  bnd (loopO (slices_IndexFuncapi_VnSectionapi_VnSection_L1 call) (rput (rput (rput (rput (argGo 0 [x0, x1] PlanTab.blank) (some 4) r1.1) (some 6) r2.1) (some 7) r3.1) (some 8) r4.1) r4.2) fun r18 =>
  kExit 0 r18.1 (
    bnd (oMv (.int .i64 (-1)) r18.2.2) fun r19 =>
    oRes Tryd.prog [(r19.1, none)] r19.2) (kRetX r18.1 (
    oRes Tryd.prog [((r18.2.1 4), none)] r18.2.2))
theorem slices_IndexFuncapi_VnSectionapi_VnSection_eq (call : Eng.Callee) (x0 x1 : Value) (W : AW) : kFun Tryd.prog call 19 (cod 99) (rss 99) [x0, x1] W = slices_IndexFuncapi_VnSectionapi_VnSection call x0 x1 W := by kernel_rfl
theorem slices_IndexFuncapi_VnSectionapi_VnSection_om {x0 x1 : Value} {W : AW} {r : Value × AW} (h : slices_IndexFuncapi_VnSectionapi_VnSection omS x0 x1 W = some r) : omS (.func (.func 99) #[] #[]) [x0, x1] W = some (gc W r) := om_of (nt := 19) (n := 2) (by kernel_rfl) (by kernel_rfl) rfl ((slices_IndexFuncapi_VnSectionapi_VnSection_eq omS x0 x1 W).trans h)
noncomputable def slices_IndexFuncintint_L1 (call : Eng.Callee) (R : Nat → Value) (W : AW) : Option LT :=
  bnd (oBin Tryd.prog .lss 3 false false (R 8) (R 7) W) fun r5 =>
  vIf r5.1 (
    bnd (oMv (R 8) r5.2) fun r6 =>
    bnd (oMv r6.1 r6.2) fun r7 =>
    bnd (oMv (R 1) r7.2) fun r8 =>
    bnd (oMv (R 0) r8.2) fun r9 =>
    bnd (oMv r7.1 r9.2) fun r10 =>
    bnd (ixS 1 r9.1 r10.1 r10.2) fun r11 =>
    bnd (ldC r11.1 r11.2) fun r12 =>
    bnd (call r8.1 [r12.1] r12.2) fun r13 =>
    vIf r13.1 (
      bnd (oMv r7.1 r13.2) fun r14 =>
      bnd (oMv r14.1 r14.2) fun r15 =>
      some (X.ret, (rput (rput (rput (rput (rput (rput (rput (rput (rput (rput (rput R (some 9) r5.1) (some 10) r6.1) (some 5) r7.1) (some 11) r8.1) (some 12) r9.1) (some 13) r10.1) (some 14) r11.1) (some 15) r12.1) (some 16) r13.1) (some 17) r14.1) (some 4) r15.1), r15.2)) (
      bnd (oBin Tryd.prog .add 3 false true (R 8) (.int .i64 1) r13.2) fun r16 =>
      bnd (oMv r16.1 r16.2) fun r17 =>
      some (X.normal, (rput (rput (rput (rput (rput (rput (rput (rput (rput (rput (rput R (some 9) r5.1) (some 10) r6.1) (some 5) r7.1) (some 11) r8.1) (some 12) r9.1) (some 13) r10.1) (some 14) r11.1) (some 15) r12.1) (some 16) r13.1) (some 18) r16.1) (some 8) r17.1), r17.2))) (
    some (X.exit 0, (rput R (some 9) r5.1), r5.2))
noncomputable def slices_IndexFuncintint (call : Eng.Callee) (x0 x1 : Value) (W : AW) : Option (Value × AW) :=
  bnd (oMv (.int .i64 0) W) fun r1 =>
  bnd (oMv x0 r1.2) fun r2 =>
  bnd (oBuiltin Tryd.prog .len #[38] 3 #[false] [r2.1] r2.2) fun r3 =>
  bnd (oMv (.int .i64 0) r3.2) fun r4 =>
  bnd (loopO (slices_IndexFuncintint_L1 call) (rput (rput (rput (rput (argGo 0 [x0, x1] PlanTab.blank) (some 4) r1.1) (some 6) r2.1) (some 7) r3.1) (some 8) r4.1) r4.2) fun r18 =>
  kExit 0 r18.1 (
    bnd (oMv (.int .i64 (-1)) r18.2.2) fun r19 =>
    oRes Tryd.prog [(r19.1, none)] r19.2) (kRetX r18.1 (
    oRes Tryd.prog [((r18.2.1 4), none)] r18.2.2))
theorem slices_IndexFuncintint_eq (call : Eng.Callee) (x0 x1 : Value) (W : AW) : kFun Tryd.prog call 19 (cod 100) (rss 100) [x0, x1] W = slices_IndexFuncintint call x0 x1 W := by kernel_rfl
theorem slices_IndexFuncintint_om {x0 x1 : Value} {W : AW} {r : Value × AW} (h : slices_IndexFuncintint omS x0 x1 W = some r) : omS (.func (.func 100) #[] #[]) [x0, x1] W = some (gc W r) := om_of (nt := 19) (n := 2) (by kernel_rfl) (by kernel_rfl) rfl ((slices_IndexFuncintint_eq omS x0 x1 W).trans h)
noncomputable def words_Name (call : Eng.Callee) (x0 : Value) (W : AW) : Option (Value × AW) :=
  bnd (oMv (.bool false) W) fun r1 =>
  bnd (oMv x0 r1.2) fun r2 =>
  bnd (oBin Tryd.prog .eql 9 false true r2.1 (strV []) r2.2) fun r3 =>
  bnd (oMv r3.1 r3.2) fun r4 =>
  bnd (bIf (wnt r4.1 false) (oMv x0 r4.2) (some (undef, r4.2))) fun r5 =>
  bnd (bIf (wnt r4.1 false) (oBuiltin Tryd.prog .len #[9] 3 #[false] [r5.1] r5.2) (some (undef, r5.2))) fun r6 =>
  bnd (bIf (wnt r4.1 false) (oBin Tryd.prog .gtr 3 false true r6.1 (.int .i64 16) r6.2) (some (undef, r6.2))) fun r7 =>
  bnd (oPick r4.1 (.bool true) r7.1 r7.2) fun r8 =>
  bnd (oMv r8.1 r8.2) fun r9 =>
  bnd (bIf (wnt r9.1 false) (oMv x0 r9.2) (some (undef, r9.2))) fun r10 =>
  bnd (bIf (wnt r9.1 false) (oIndex Tryd.prog 9 r10.1 (.int .i64 0) r10.2) (some (undef, r10.2))) fun r11 =>
  bnd (bIf (wnt r9.1 false) (oBin Tryd.prog .lss 5 false true r11.1 (.int .u8 97) r11.2) (some (undef, r11.2))) fun r12 =>
  bnd (oPick r9.1 (.bool true) r12.1 r12.2) fun r13 =>
  bnd (oMv r13.1 r13.2) fun r14 =>
  bnd (bIf (wnt r14.1 false) (oMv x0 r14.2) (some (undef, r14.2))) fun r15 =>
  bnd (bIf (wnt r14.1 false) (oIndex Tryd.prog 9 r15.1 (.int .i64 0) r15.2) (some (undef, r15.2))) fun r16 =>
  bnd (bIf (wnt r14.1 false) (oBin Tryd.prog .gtr 5 false true r16.1 (.int .u8 122) r16.2) (some (undef, r16.2))) fun r17 =>
  bnd (oPick r14.1 (.bool true) r17.1 r17.2) fun r18 =>
  vIf r18.1 (
    bnd (oMv (.bool false) r18.2) fun r19 =>
    oRes Tryd.prog [(r19.1, none)] r19.2) (
    bnd (oMv x0 r18.2) fun r20 =>
    bnd (call (fnV 98) [r20.1, (strV [97, 98, 99, 100, 101, 102, 103, 104, 105, 106, 107, 108, 109, 110, 111, 112, 113, 114, 115, 116, 117, 118, 119, 120, 121, 122, 48, 49, 50, 51, 52, 53, 54, 55, 56, 57, 45])] r20.2) fun r21 =>
    bnd (oBin Tryd.prog .eql 9 false true r21.1 (strV []) r21.2) fun r22 =>
    bnd (oMv r22.1 r22.2) fun r23 =>
    oRes Tryd.prog [(r23.1, none)] r23.2)
theorem words_Name_eq (call : Eng.Callee) (x0 : Value) (W : AW) : kFun Tryd.prog call 23 (cod 76) (rss 76) [x0] W = words_Name call x0 W := by kernel_rfl
theorem words_Name_om {x0 : Value} {W : AW} {r : Value × AW} (h : words_Name omS x0 W = some r) : omS (.func (.func 76) #[] #[]) [x0] W = some (gc W r) := om_of (nt := 23) (n := 1) (by kernel_rfl) (by kernel_rfl) rfl ((words_Name_eq omS x0 W).trans h)
noncomputable def strings_Trim (call : Eng.Callee) (x0 x1 : Value) (W : AW) : Option (Value × AW) :=
  bnd (oMv (strV []) W) fun r1 =>
  bnd (oMv x0 r1.2) fun r2 =>
  bnd (oBin Tryd.prog .eql 9 false true r2.1 (strV []) r2.2) fun r3 =>
  bnd (oMv r3.1 r3.2) fun r4 =>
  bnd (bIf (wnt r4.1 false) (oMv x1 r4.2) (some (undef, r4.2))) fun r5 =>
  bnd (bIf (wnt r4.1 false) (oBin Tryd.prog .eql 9 false true r5.1 (strV []) r5.2) (some (undef, r5.2))) fun r6 =>
  bnd (oPick r4.1 (.bool true) r6.1 r6.2) fun r7 =>
  vIf r7.1 (
    bnd (oMv x0 r7.2) fun r8 =>
    bnd (oMv r8.1 r8.2) fun r9 =>
    oRes Tryd.prog [(r9.1, none)] r9.2) (
    bnd (oMv x1 r7.2) fun r10 =>
    bnd (oBuiltin Tryd.prog .len #[9] 3 #[false] [r10.1] r10.2) fun r11 =>
    bnd (oBin Tryd.prog .eql 3 false true r11.1 (.int .i64 1) r11.2) fun r12 =>
    bnd (oMv r12.1 r12.2) fun r13 =>
    bnd (bIf (wnt r13.1 true) (oMv x1 r13.2) (some (undef, r13.2))) fun r14 =>
    bnd (bIf (wnt r13.1 true) (oIndex Tryd.prog 9 r14.1 (.int .i64 0) r14.2) (some (undef, r14.2))) fun r15 =>
    bnd (bIf (wnt r13.1 true) (oBin Tryd.prog .lss 5 false true r15.1 (.int .u8 128) r15.2) (some (undef, r15.2))) fun r16 =>
    bnd (oPick r13.1 r16.1 (.bool false) r16.2) fun r17 =>
    vIf r17.1 (
      bnd (oMv x0 r17.2) fun r18 =>
      bnd (oMv x1 r18.2) fun r19 =>
      bnd (oIndex Tryd.prog 9 r19.1 (.int .i64 0) r19.2) fun r20 =>
      bnd (oMv x1 r20.2) fun r21 =>
      bnd (oIndex Tryd.prog 9 r21.1 (.int .i64 0) r21.2) fun r22 =>
      bnd (call (fnV 116) [r18.1, r20.1] r22.2) fun r23 =>
      bnd (call (fnV 115) [r23.1, r22.1] r23.2) fun r24 =>
      bnd (oMv r24.1 r24.2) fun r25 =>
      oRes Tryd.prog [(r25.1, none)] r25.2) (
      bnd (oMv x1 r17.2) fun r26 =>
      bnd (call (fnV 117) [r26.1] r26.2) fun r27 =>
      bnd (oMv r27.1 r27.2) fun r28 =>
      bnd (oExtract r28.1 0 r28.2) fun r29 =>
      bnd (oExtract r28.1 1 r29.2) fun r30 =>
      bnd (oAlloc Tryd.prog 156 r30.2) fun r31 =>
      bnd (stV 256 r31.1 r29.1 r31.2) fun r32 =>
      bnd (oMv r30.1 r32.2) fun r33 =>
      bnd (oMv r33.1 r33.2) fun r34 =>
      vIf r34.1 (
        bnd (oMv x0 r34.2) fun r35 =>
        bnd (call (fnV 119) [r35.1, r31.1] r35.2) fun r36 =>
        bnd (call (fnV 118) [r36.1, r31.1] r36.2) fun r37 =>
        bnd (oMv r37.1 r37.2) fun r38 =>
        oRes Tryd.prog [(r38.1, none)] r38.2) (
        bnd (oMv x0 r34.2) fun r39 =>
        bnd (oMv x1 r39.2) fun r40 =>
        bnd (call (fnV 121) [r39.1, r40.1] r40.2) fun r41 =>
        bnd (oMv x1 r41.2) fun r42 =>
        bnd (call (fnV 120) [r41.1, r42.1] r42.2) fun r43 =>
        bnd (oMv r43.1 r43.2) fun r44 =>
        oRes Tryd.prog [(r44.1, none)] r44.2)))
theorem strings_Trim_eq (call : Eng.Callee) (x0 x1 : Value) (W : AW) : kFun Tryd.prog call 43 (cod 98) (rss 98) [x0, x1] W = strings_Trim call x0 x1 W := by kernel_rfl
theorem strings_Trim_om {x0 x1 : Value} {W : AW} {r : Value × AW} (h : strings_Trim omS x0 x1 W = some r) : omS (.func (.func 98) #[] #[]) [x0, x1] W = some (gc W r) := om_of (nt := 43) (n := 2) (by kernel_rfl) (by kernel_rfl) rfl ((strings_Trim_eq omS x0 x1 W).trans h)
noncomputable def strings_makeASCIISet_L1 (call : Eng.Callee) (R : Nat → Value) (W : AW) : Option LT :=
  bnd (oMv (R 4) W) fun r4 =>
  bnd (oMv (R 0) r4.2) fun r5 =>
  bnd (oBuiltin Tryd.prog .len #[9] 3 #[false] [r5.1] r5.2) fun r6 =>
  bnd (oBin Tryd.prog .lss 3 false false r4.1 r6.1 r6.2) fun r7 =>
  vIf r7.1 (
    bnd (oMv (R 0) r7.2) fun r8 =>
    bnd (oMv (R 4) r8.2) fun r9 =>
    bnd (oIndex Tryd.prog 9 r8.1 r9.1 r9.2) fun r10 =>
    bnd (oMv r10.1 r10.2) fun r11 =>
    bnd (oMv r11.1 r11.2) fun r12 =>
    bnd (oBin Tryd.prog .geq 5 false true r12.1 (.int .u8 128) r12.2) fun r13 =>
    vIf r13.1 (
      bnd (ldA 256 (R 2) r13.2) fun r14 =>
      bnd (stV 256 (R 2) r14.1 r14.2) fun r15 =>
      bnd (oMv (.bool false) r15.2) fun r16 =>
      some (X.ret, (rput (rput (rput (rput (rput (rput (rput (rput (rput (rput (rput (rput R (some 6) r4.1) (some 7) r5.1) (some 8) r6.1) (some 9) r7.1) (some 12) r8.1) (some 13) r9.1) (some 14) r10.1) (some 5) r11.1) (some 15) r12.1) (some 16) r13.1) (some 17) r14.1) (some 3) r16.1), r16.2)) (
      bnd (oMv r11.1 r13.2) fun r17 =>
      bnd (ixA 256 1 (R 2) r17.1 r17.2) fun r18 =>
      bnd (stV 1 r18.1 (.bool true) r18.2) fun r19 =>
      bnd (oMv (R 4) r19.2) fun r20 =>
      bnd (oBin Tryd.prog .add 3 false true r20.1 (.int .i64 1) r20.2) fun r21 =>
      bnd (oMv r21.1 r21.2) fun r22 =>
      some (X.normal, (rput (rput (rput (rput (rput (rput (rput (rput (rput (rput (rput (rput (rput (rput (rput R (some 6) r4.1) (some 7) r5.1) (some 8) r6.1) (some 9) r7.1) (some 12) r8.1) (some 13) r9.1) (some 14) r10.1) (some 5) r11.1) (some 15) r12.1) (some 16) r13.1) (some 18) r17.1) (some 19) r18.1) (some 10) r20.1) (some 11) r21.1) (some 4) r22.1), r22.2))) (
    some (X.exit 0, (rput (rput (rput (rput R (some 6) r4.1) (some 7) r5.1) (some 8) r6.1) (some 9) r7.1), r7.2))
noncomputable def strings_makeASCIISet (call : Eng.Callee) (x0 : Value) (W : AW) : Option (Value × AW) :=
  bnd (oAlloc Tryd.prog 156 W) fun r1 =>
  bnd (oMv (.bool false) r1.2) fun r2 =>
  bnd (oMv (.int .i64 0) r2.2) fun r3 =>
  bnd (loopO (strings_makeASCIISet_L1 call) (rput (rput (rput (argGo 0 [x0] PlanTab.blank) (some 2) r1.1) (some 3) r2.1) (some 4) r3.1) r3.2) fun r23 =>
  kExit 0 r23.1 (
    bnd (ldA 256 (r23.2.1 2) r23.2.2) fun r24 =>
    bnd (stV 256 (r23.2.1 2) r24.1 r24.2) fun r25 =>
    bnd (oMv (.bool true) r25.2) fun r26 =>
    oRes Tryd.prog [((r23.2.1 2), some 156), (r26.1, none)] r26.2) (kRetX r23.1 (
    oRes Tryd.prog [((r23.2.1 2), some 156), ((r23.2.1 3), none)] r23.2.2))
theorem strings_makeASCIISet_eq (call : Eng.Callee) (x0 : Value) (W : AW) : kFun Tryd.prog call 21 (cod 117) (rss 117) [x0] W = strings_makeASCIISet call x0 W := by kernel_rfl
theorem strings_makeASCIISet_om {x0 : Value} {W : AW} {r : Value × AW} (h : strings_makeASCIISet omS x0 W = some r) : omS (.func (.func 117) #[] #[]) [x0] W = some (gc W r) := om_of (nt := 21) (n := 1) (by kernel_rfl) (by kernel_rfl) rfl ((strings_makeASCIISet_eq omS x0 W).trans h)
noncomputable def strings_trimLeftASCII_L1 (call : Eng.Callee) (R : Nat → Value) (W : AW) : Option LT :=
  bnd (oMv (R 0) W) fun r2 =>
  bnd (oBuiltin Tryd.prog .len #[9] 3 #[false] [r2.1] r2.2) fun r3 =>
  bnd (oBin Tryd.prog .gtr 3 false true r3.1 (.int .i64 0) r3.2) fun r4 =>
  vIf r4.1 (
    bnd (oMv (R 1) r4.2) fun r5 =>
    bnd (oMv (R 0) r5.2) fun r6 =>
    bnd (oIndex Tryd.prog 9 r6.1 (.int .i64 0) r6.2) fun r7 =>
    bnd (call (fnV 128) [r5.1, r7.1] r7.2) fun r8 =>
    bnd (oUn Tryd.prog .not r8.1 r8.2) fun r9 =>
    vIf r9.1 (
      some (X.exit 0, (rput (rput (rput (rput (rput (rput (rput (rput R (some 5) r2.1) (some 6) r3.1) (some 7) r4.1) (some 8) r5.1) (some 9) r6.1) (some 10) r7.1) (some 11) r8.1) (some 12) r9.1), r9.2)) (
      bnd (oMv (R 0) r9.2) fun r10 =>
      bnd (oSlice Tryd.prog 9 r10.1 (some (.int .i64 1)) none none r10.2) fun r11 =>
      bnd (oMv r11.1 r11.2) fun r12 =>
      some (X.normal, (rput (rput (rput (rput (rput (rput (rput (rput (rput (rput (rput R (some 5) r2.1) (some 6) r3.1) (some 7) r4.1) (some 8) r5.1) (some 9) r6.1) (some 10) r7.1) (some 11) r8.1) (some 12) r9.1) (some 13) r10.1) (some 14) r11.1) (some 0) r12.1), r12.2))) (
    some (X.exit 0, (rput (rput (rput R (some 5) r2.1) (some 6) r3.1) (some 7) r4.1), r4.2))
noncomputable def strings_trimLeftASCII (call : Eng.Callee) (x0 x1 : Value) (W : AW) : Option (Value × AW) :=
  bnd (oMv (strV []) W) fun r1 =>
  bnd (loopO (strings_trimLeftASCII_L1 call) (rput (argGo 0 [x0, x1] PlanTab.blank) (some 4) r1.1) r1.2) fun r13 =>
  kExit 0 r13.1 (
    bnd (oMv (r13.2.1 0) r13.2.2) fun r14 =>
    bnd (oMv r14.1 r14.2) fun r15 =>
    oRes Tryd.prog [(r15.1, none)] r15.2) (none)
theorem strings_trimLeftASCII_eq (call : Eng.Callee) (x0 x1 : Value) (W : AW) : kFun Tryd.prog call 16 (cod 118) (rss 118) [x0, x1] W = strings_trimLeftASCII call x0 x1 W := by kernel_rfl
theorem strings_trimLeftASCII_om {x0 x1 : Value} {W : AW} {r : Value × AW} (h : strings_trimLeftASCII omS x0 x1 W = some r) : omS (.func (.func 118) #[] #[]) [x0, x1] W = some (gc W r) := om_of (nt := 16) (n := 2) (by kernel_rfl) (by kernel_rfl) rfl ((strings_trimLeftASCII_eq omS x0 x1 W).trans h)
noncomputable def strings_trimRightASCII_L1 (call : Eng.Callee) (R : Nat → Value) (W : AW) : Option LT :=
  bnd (oMv (R 0) W) fun r2 =>
  bnd (oBuiltin Tryd.prog .len #[9] 3 #[false] [r2.1] r2.2) fun r3 =>
  bnd (oBin Tryd.prog .gtr 3 false true r3.1 (.int .i64 0) r3.2) fun r4 =>
  vIf r4.1 (
    bnd (oMv (R 1) r4.2) fun r5 =>
    bnd (oMv (R 0) r5.2) fun r6 =>
    bnd (oMv (R 0) r6.2) fun r7 =>
    bnd (oBuiltin Tryd.prog .len #[9] 3 #[false] [r7.1] r7.2) fun r8 =>
    bnd (oBin Tryd.prog .sub 3 false true r8.1 (.int .i64 1) r8.2) fun r9 =>
    bnd (oIndex Tryd.prog 9 r6.1 r9.1 r9.2) fun r10 =>
    bnd (call (fnV 128) [r5.1, r10.1] r10.2) fun r11 =>
    bnd (oUn Tryd.prog .not r11.1 r11.2) fun r12 =>
    vIf r12.1 (
      some (X.exit 0, (rput (rput (rput (rput (rput (rput (rput (rput (rput (rput (rput R (some 5) r2.1) (some 6) r3.1) (some 7) r4.1) (some 8) r5.1) (some 9) r6.1) (some 10) r7.1) (some 11) r8.1) (some 12) r9.1) (some 13) r10.1) (some 14) r11.1) (some 15) r12.1), r12.2)) (
      bnd (oMv (R 0) r12.2) fun r13 =>
      bnd (oMv (R 0) r13.2) fun r14 =>
      bnd (oBuiltin Tryd.prog .len #[9] 3 #[false] [r14.1] r14.2) fun r15 =>
      bnd (oBin Tryd.prog .sub 3 false true r15.1 (.int .i64 1) r15.2) fun r16 =>
      bnd (oSlice Tryd.prog 9 r13.1 none (some r16.1) none r16.2) fun r17 =>
      bnd (oMv r17.1 r17.2) fun r18 =>
      some (X.normal, (rput (rput (rput (rput (rput (rput (rput (rput (rput (rput (rput (rput (rput (rput (rput (rput (rput R (some 5) r2.1) (some 6) r3.1) (some 7) r4.1) (some 8) r5.1) (some 9) r6.1) (some 10) r7.1) (some 11) r8.1) (some 12) r9.1) (some 13) r10.1) (some 14) r11.1) (some 15) r12.1) (some 16) r13.1) (some 17) r14.1) (some 18) r15.1) (some 19) r16.1) (some 20) r17.1) (some 0) r18.1), r18.2))) (
    some (X.exit 0, (rput (rput (rput R (some 5) r2.1) (some 6) r3.1) (some 7) r4.1), r4.2))
noncomputable def strings_trimRightASCII (call : Eng.Callee) (x0 x1 : Value) (W : AW) : Option (Value × AW) :=
  bnd (oMv (strV []) W) fun r1 =>
  bnd (loopO (strings_trimRightASCII_L1 call) (rput (argGo 0 [x0, x1] PlanTab.blank) (some 4) r1.1) r1.2) fun r19 =>
  kExit 0 r19.1 (
    bnd (oMv (r19.2.1 0) r19.2.2) fun r20 =>
    bnd (oMv r20.1 r20.2) fun r21 =>
    oRes Tryd.prog [(r21.1, none)] r21.2) (none)
theorem strings_trimRightASCII_eq (call : Eng.Callee) (x0 x1 : Value) (W : AW) : kFun Tryd.prog call 22 (cod 119) (rss 119) [x0, x1] W = strings_trimRightASCII call x0 x1 W := by kernel_rfl
theorem strings_trimRightASCII_om {x0 x1 : Value} {W : AW} {r : Value × AW} (h : strings_trimRightASCII omS x0 x1 W = some r) : omS (.func (.func 119) #[] #[]) [x0, x1] W = some (gc W r) := om_of (nt := 22) (n := 2) (by kernel_rfl) (by kernel_rfl) rfl ((strings_trimRightASCII_eq omS x0 x1 W).trans h)
noncomputable def strings_asciiSet_contains (call : Eng.Callee) (x0 x1 : Value) (W : AW) : Option (Value × AW) :=
  bnd (oMv (.bool false) W) fun r1 =>
  bnd (oMv x0 r1.2) fun r2 =>
  bnd (oMv x1 r2.2) fun r3 =>
  bnd (oNilCheck r2.1 r3.2) fun r4 =>
  bnd (ixA 256 1 r4.1 r3.1 r4.2) fun r5 =>
  bnd (ldC r5.1 r5.2) fun r6 =>
  bnd (oMv r6.1 r6.2) fun r7 =>
  oRes Tryd.prog [(r7.1, none)] r7.2
theorem strings_asciiSet_contains_eq (call : Eng.Callee) (x0 x1 : Value) (W : AW) : kFun Tryd.prog call 10 (cod 128) (rss 128) [x0, x1] W = strings_asciiSet_contains call x0 x1 W := by kernel_rfl
theorem strings_asciiSet_contains_om {x0 x1 : Value} {W : AW} {r : Value × AW} (h : strings_asciiSet_contains omS x0 x1 W = some r) : omS (.func (.func 128) #[] #[]) [x0, x1] W = some (gc W r) := om_of (nt := 10) (n := 2) (by kernel_rfl) (by kernel_rfl) rfl ((strings_asciiSet_contains_eq omS x0 x1 W).trans h)
end Go.Proofs.YtfcfglpkgcheiaaDoor
