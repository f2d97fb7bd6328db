/- Texts of the program told in continuations: written by a program, shown by the kernel. -/
import Derived.Test.YtfcfglpkgcheiaaDoorSBase
import Derived.KernelRfl
namespace Go.Proofs.YtfcfglpkgcheiaaDoor
open Go Go.Eng
set_option linter.unusedVariables false
set_option maxRecDepth 100000
noncomputable def law15_VenueShards_L1 (call : Eng.Callee) (R : Nat → Value) (W : AW) : Option LT :=
  bnd (oMv (R 6) W) fun r38 =>
  bnd (oMv (R 3) r38.2) fun r39 =>
  bnd (oBin Tryd.prog .lss 3 false false r38.1 r39.1 r39.2) fun r40 =>
  vIf r40.1 (
    bnd (ldA 4 (R 1) r40.2) fun r41 =>
    bnd (oMv (R 6) r41.2) fun r42 =>
    bnd (call (fnV 37) [r41.1, r42.1] r42.2) fun r43 =>
    bnd (oMv r43.1 r43.2) fun r44 =>
    bnd (oExtract r44.1 0 r44.2) fun r45 =>
    bnd (oExtract r44.1 1 r45.2) fun r46 =>
    bnd (oMv r45.1 r46.2) fun r47 =>
    bnd (oMv r46.1 r47.2) fun r48 =>
    bnd (oMv r48.1 r48.2) fun r49 =>
    bnd (oBin Tryd.prog .neq 28 false true r49.1 (.int .i64 0) r49.2) fun r50 =>
    bnd (oMv r50.1 r50.2) fun r51 =>
    bnd (bIf (wnt r51.1 false) (oMv r47.1 r51.2) (some (undef, r51.2))) fun r52 =>
    bnd (bIf (wnt r51.1 false) (oBin Tryd.prog .lss 3 false true r52.1 (.int .i64 0) r52.2) (some (undef, r52.2))) fun r53 =>
    bnd (oPick r51.1 (.bool true) r53.1 r53.2) fun r54 =>
    bnd (oMv r54.1 r54.2) fun r55 =>
    bnd (bIf (wnt r55.1 false) (oMv r47.1 r55.2) (some (undef, r55.2))) fun r56 =>
    bnd (bIf (wnt r55.1 false) (faO 0 (R 1) r56.2) (some (undef, r56.2))) fun r57 =>
    bnd (bIf (wnt r55.1 false) (ldC r57.1 r57.2) (some (undef, r57.2))) fun r58 =>
    bnd (bIf (wnt r55.1 false) (oBin Tryd.prog .geq 3 false false r56.1 r58.1 r58.2) (some (undef, r58.2))) fun r59 =>
    bnd (oPick r55.1 (.bool true) r59.1 r59.2) fun r60 =>
    vIf r60.1 (
      bnd (oMv (.bool false) r60.2) fun r61 =>
      some (X.ret, (rput (rput (rput (rput (rput (rput (rput (rput (rput (rput (rput (rput (rput (rput (rput (rput (rput (rput (rput (rput (rput (rput (rput (rput R (some 53) r38.1) (some 54) r39.1) (some 55) r40.1) (some 59) r41.1) (some 60) r42.1) (some 61) r43.1) (some 58) r44.1) (some 62) r45.1) (some 63) r46.1) (some 7) r47.1) (some 8) r48.1) (some 64) r49.1) (some 65) r50.1) (some 66) r51.1) (some 67) r52.1) (some 68) r53.1) (some 69) r54.1) (some 70) r55.1) (some 71) r56.1) (some 72) r57.1) (some 73) r58.1) (some 74) r59.1) (some 75) r60.1) (some 2) r61.1), r61.2)) (
      bnd (oMv r47.1 r60.2) fun r62 =>
      bnd (ixA 16 1 (R 5) r62.1 r62.2) fun r63 =>
      bnd (ldC r63.1 r63.2) fun r64 =>
      bnd (oBin Tryd.prog .add 3 false true r64.1 (.int .i64 1) r64.2) fun r65 =>
      bnd (ixA 16 1 (R 5) r62.1 r65.2) fun r66 =>
      bnd (stV 1 r66.1 r65.1 r66.2) fun r67 =>
      bnd (oMv (R 6) r67.2) fun r68 =>
      bnd (oBin Tryd.prog .add 3 false true r68.1 (.int .i64 1) r68.2) fun r69 =>
      bnd (oMv r69.1 r69.2) fun r70 =>
      some (X.normal, (rput (rput (rput (rput (rput (rput (rput (rput (rput (rput (rput (rput (rput (rput (rput (rput (rput (rput (rput (rput (rput (rput (rput (rput (rput (rput (rput (rput (rput (rput (rput R (some 53) r38.1) (some 54) r39.1) (some 55) r40.1) (some 59) r41.1) (some 60) r42.1) (some 61) r43.1) (some 58) r44.1) (some 62) r45.1) (some 63) r46.1) (some 7) r47.1) (some 8) r48.1) (some 64) r49.1) (some 65) r50.1) (some 66) r51.1) (some 67) r52.1) (some 68) r53.1) (some 69) r54.1) (some 70) r55.1) (some 71) r56.1) (some 72) r57.1) (some 73) r58.1) (some 74) r59.1) (some 75) r60.1) (some 76) r62.1) (some 77) r63.1) (some 78) r64.1) (some 79) r65.1) (some 80) r66.1) (some 56) r68.1) (some 57) r69.1) (some 6) r70.1), r70.2))) (
    some (X.exit 0, (rput (rput (rput R (some 53) r38.1) (some 54) r39.1) (some 55) r40.1), r40.2))
noncomputable def law15_VenueShards_L2 (call : Eng.Callee) (R : Nat → Value) (W : AW) : Option LT :=
  bnd (oMv (R 9) W) fun r73 =>
  bnd (faO 0 (R 1) r73.2) fun r74 =>
  bnd (ldC r74.1 r74.2) fun r75 =>
  bnd (oBin Tryd.prog .lss 3 false false r73.1 r75.1 r75.2) fun r76 =>
  vIf r76.1 (
    bnd (oMv (R 9) r76.2) fun r77 =>
    bnd (ixA 16 1 (R 5) r77.1 r77.2) fun r78 =>
    bnd (ldC r78.1 r78.2) fun r79 =>
    bnd (ixA 16 1 (R 5) (.int .i64 0) r79.2) fun r80 =>
    bnd (ldC r80.1 r80.2) fun r81 =>
    bnd (oBin Tryd.prog .gtr 3 false false r79.1 r81.1 r81.2) fun r82 =>
    bnd (oMv r82.1 r82.2) fun r83 =>
    bnd (bIf (wnt r83.1 false) (oMv (R 9) r83.2) (some (undef, r83.2))) fun r84 =>
    bnd (bIf (wnt r83.1 false) (ixA 16 1 (R 5) r84.1 r84.2) (some (undef, r84.2))) fun r85 =>
    bnd (bIf (wnt r83.1 false) (ldC r85.1 r85.2) (some (undef, r85.2))) fun r86 =>
    bnd (bIf (wnt r83.1 false) (ixA 16 1 (R 5) (.int .i64 0) r86.2) (some (undef, r86.2))) fun r87 =>
    bnd (bIf (wnt r83.1 false) (ldC r87.1 r87.2) (some (undef, r87.2))) fun r88 =>
    bnd (bIf (wnt r83.1 false) (oBin Tryd.prog .sub 3 false true r88.1 (.int .i64 1) r88.2) (some (undef, r88.2))) fun r89 =>
    bnd (bIf (wnt r83.1 false) (oBin Tryd.prog .lss 3 false false r86.1 r89.1 r89.2) (some (undef, r89.2))) fun r90 =>
    bnd (oPick r83.1 (.bool true) r90.1 r90.2) fun r91 =>
    vIf r91.1 (
      bnd (oMv (.bool false) r91.2) fun r92 =>
      some (X.ret, (rput (rput (rput (rput (rput (rput (rput (rput (rput (rput (rput (rput (rput (rput (rput (rput (rput (rput (rput (rput R (some 81) r73.1) (some 82) r74.1) (some 83) r75.1) (some 84) r76.1) (some 87) r77.1) (some 88) r78.1) (some 89) r79.1) (some 90) r80.1) (some 91) r81.1) (some 92) r82.1) (some 93) r83.1) (some 94) r84.1) (some 95) r85.1) (some 96) r86.1) (some 97) r87.1) (some 98) r88.1) (some 99) r89.1) (some 100) r90.1) (some 101) r91.1) (some 2) r92.1), r92.2)) (
      bnd (oMv (R 9) r91.2) fun r93 =>
      bnd (oBin Tryd.prog .add 3 false true r93.1 (.int .i64 1) r93.2) fun r94 =>
      bnd (oMv r94.1 r94.2) fun r95 =>
      some (X.normal, (rput (rput (rput (rput (rput (rput (rput (rput (rput (rput (rput (rput (rput (rput (rput (rput (rput (rput (rput (rput (rput (rput R (some 81) r73.1) (some 82) r74.1) (some 83) r75.1) (some 84) r76.1) (some 87) r77.1) (some 88) r78.1) (some 89) r79.1) (some 90) r80.1) (some 91) r81.1) (some 92) r82.1) (some 93) r83.1) (some 94) r84.1) (some 95) r85.1) (some 96) r86.1) (some 97) r87.1) (some 98) r88.1) (some 99) r89.1) (some 100) r90.1) (some 101) r91.1) (some 85) r93.1) (some 86) r94.1) (some 9) r95.1), r95.2))) (
    some (X.exit 2, (rput (rput (rput (rput R (some 81) r73.1) (some 82) r74.1) (some 83) r75.1) (some 84) r76.1), r76.2))
noncomputable def law15_VenueShards_L3_L4 (call : Eng.Callee) (R : Nat → Value) (W : AW) : Option LT :=
  bnd (oMv (R 19) W) fun r167 =>
  bnd (oMv (R 15) r167.2) fun r168 =>
  bnd (oMv (R 16) r168.2) fun r169 =>
  bnd (oBin Tryd.prog .add 3 false false r168.1 r169.1 r169.2) fun r170 =>
  bnd (oBin Tryd.prog .lss 3 false false r167.1 r170.1 r170.2) fun r171 =>
  vIf r171.1 (
    bnd (ldA 4 (R 1) r171.2) fun r172 =>
    bnd (oMv (R 19) r172.2) fun r173 =>
    bnd (call (fnV 37) [r172.1, r173.1] r173.2) fun r174 =>
    bnd (oMv r174.1 r174.2) fun r175 =>
    bnd (oExtract r175.1 0 r175.2) fun r176 =>
    bnd (oExtract r175.1 1 r176.2) fun r177 =>
    bnd (oMv r176.1 r177.2) fun r178 =>
    bnd (oMv r177.1 r178.2) fun r179 =>
    bnd (oMv r179.1 r179.2) fun r180 =>
    bnd (oBin Tryd.prog .neq 28 false true r180.1 (.int .i64 0) r180.2) fun r181 =>
    bnd (oMv r181.1 r181.2) fun r182 =>
    bnd (bIf (wnt r182.1 false) (oMv r178.1 r182.2) (some (undef, r182.2))) fun r183 =>
    bnd (bIf (wnt r182.1 false) (oBin Tryd.prog .lss 3 false true r183.1 (.int .i64 0) r183.2) (some (undef, r183.2))) fun r184 =>
    bnd (oPick r182.1 (.bool true) r184.1 r184.2) fun r185 =>
    bnd (oMv r185.1 r185.2) fun r186 =>
    bnd (bIf (wnt r186.1 false) (oMv r178.1 r186.2) (some (undef, r186.2))) fun r187 =>
    bnd (bIf (wnt r186.1 false) (faO 0 (R 1) r187.2) (some (undef, r187.2))) fun r188 =>
    bnd (bIf (wnt r186.1 false) (ldC r188.1 r188.2) (some (undef, r188.2))) fun r189 =>
    bnd (bIf (wnt r186.1 false) (oBin Tryd.prog .geq 3 false false r187.1 r189.1 r189.2) (some (undef, r189.2))) fun r190 =>
    bnd (oPick r186.1 (.bool true) r190.1 r190.2) fun r191 =>
    vIf r191.1 (
      bnd (oMv (.bool false) r191.2) fun r192 =>
      some (X.ret, (rput (rput (rput (rput (rput (rput (rput (rput (rput (rput (rput (rput (rput (rput (rput (rput (rput (rput (rput (rput (rput (rput (rput (rput (rput (rput R (some 163) r167.1) (some 164) r168.1) (some 165) r169.1) (some 166) r170.1) (some 167) r171.1) (some 171) r172.1) (some 172) r173.1) (some 173) r174.1) (some 170) r175.1) (some 174) r176.1) (some 175) r177.1) (some 20) r178.1) (some 21) r179.1) (some 176) r180.1) (some 177) r181.1) (some 178) r182.1) (some 179) r183.1) (some 180) r184.1) (some 181) r185.1) (some 182) r186.1) (some 183) r187.1) (some 184) r188.1) (some 185) r189.1) (some 186) r190.1) (some 187) r191.1) (some 2) r192.1), r192.2)) (
      bnd (oMv r178.1 r191.2) fun r193 =>
      bnd (ixA 16 1 (R 18) r193.1 r193.2) fun r194 =>
      bnd (stV 1 r194.1 (.bool true) r194.2) fun r195 =>
      bnd (oMv (R 19) r195.2) fun r196 =>
      bnd (oBin Tryd.prog .add 3 false true r196.1 (.int .i64 1) r196.2) fun r197 =>
      bnd (oMv r197.1 r197.2) fun r198 =>
      some (X.normal, (rput (rput (rput (rput (rput (rput (rput (rput (rput (rput (rput (rput (rput (rput (rput (rput (rput (rput (rput (rput (rput (rput (rput (rput (rput (rput (rput (rput (rput (rput R (some 163) r167.1) (some 164) r168.1) (some 165) r169.1) (some 166) r170.1) (some 167) r171.1) (some 171) r172.1) (some 172) r173.1) (some 173) r174.1) (some 170) r175.1) (some 174) r176.1) (some 175) r177.1) (some 20) r178.1) (some 21) r179.1) (some 176) r180.1) (some 177) r181.1) (some 178) r182.1) (some 179) r183.1) (some 180) r184.1) (some 181) r185.1) (some 182) r186.1) (some 183) r187.1) (some 184) r188.1) (some 185) r189.1) (some 186) r190.1) (some 187) r191.1) (some 188) r193.1) (some 189) r194.1) (some 168) r196.1) (some 169) r197.1) (some 19) r198.1), r198.2))) (
    some (X.exit 6, (rput (rput (rput (rput (rput R (some 163) r167.1) (some 164) r168.1) (some 165) r169.1) (some 166) r170.1) (some 167) r171.1), r171.2))
noncomputable def law15_VenueShards_L3_L5 (call : Eng.Callee) (R : Nat → Value) (W : AW) : Option LT :=
  bnd (oMv (R 23) W) fun r202 =>
  bnd (faO 0 (R 1) r202.2) fun r203 =>
  bnd (ldC r203.1 r203.2) fun r204 =>
  bnd (oBin Tryd.prog .lss 3 false false r202.1 r204.1 r204.2) fun r205 =>
  vIf r205.1 (
    bnd (oMv (R 23) r205.2) fun r206 =>
    bnd (ixA 16 1 (R 18) r206.1 r206.2) fun r207 =>
    bnd (ldC r207.1 r207.2) fun r208 =>
    vIf r208.1 (
      bnd (oMv (R 22) r208.2) fun r209 =>
      bnd (oMv (R 11) r209.2) fun r210 =>
      bnd (oBuiltin Tryd.prog .len #[38] 3 #[false] [r210.1] r210.2) fun r211 =>
      bnd (oBin Tryd.prog .geq 3 false false r209.1 r211.1 r211.2) fun r212 =>
      bnd (oMv r212.1 r212.2) fun r213 =>
      bnd (bIf (wnt r213.1 false) (oMv (R 11) r213.2) (some (undef, r213.2))) fun r214 =>
      bnd (bIf (wnt r213.1 false) (oMv (R 22) r214.2) (some (undef, r214.2))) fun r215 =>
      bnd (bIf (wnt r213.1 false) (ixS 1 r214.1 r215.1 r215.2) (some (undef, r215.2))) fun r216 =>
      bnd (bIf (wnt r213.1 false) (ldC r216.1 r216.2) (some (undef, r216.2))) fun r217 =>
      bnd (bIf (wnt r213.1 false) (oMv (R 23) r217.2) (some (undef, r217.2))) fun r218 =>
      bnd (bIf (wnt r213.1 false) (oBin Tryd.prog .neq 3 false false r217.1 r218.1 r218.2) (some (undef, r218.2))) fun r219 =>
      bnd (oPick r213.1 (.bool true) r219.1 r219.2) fun r220 =>
      vIf r220.1 (
        bnd (oMv (.bool false) r220.2) fun r221 =>
        some (X.ret, (rput (rput (rput (rput (rput (rput (rput (rput (rput (rput (rput (rput (rput (rput (rput (rput (rput (rput (rput (rput R (some 190) r202.1) (some 191) r203.1) (some 192) r204.1) (some 193) r205.1) (some 196) r206.1) (some 197) r207.1) (some 198) r208.1) (some 199) r209.1) (some 200) r210.1) (some 201) r211.1) (some 202) r212.1) (some 203) r213.1) (some 204) r214.1) (some 205) r215.1) (some 206) r216.1) (some 207) r217.1) (some 208) r218.1) (some 209) r219.1) (some 210) r220.1) (some 2) r221.1), r221.2)) (
        bnd (oMv (R 22) r220.2) fun r222 =>
        bnd (oBin Tryd.prog .add 3 false true r222.1 (.int .i64 1) r222.2) fun r223 =>
        bnd (oMv r223.1 r223.2) fun r224 =>
        bnd (oMv (R 23) r224.2) fun r225 =>
        bnd (oBin Tryd.prog .add 3 false true r225.1 (.int .i64 1) r225.2) fun r226 =>
        bnd (oMv r226.1 r226.2) fun r227 =>
        some (X.normal, (rput (rput (rput (rput (rput (rput (rput (rput (rput (rput (rput (rput (rput (rput (rput (rput (rput (rput (rput (rput (rput (rput (rput (rput (rput R (some 190) r202.1) (some 191) r203.1) (some 192) r204.1) (some 193) r205.1) (some 196) r206.1) (some 197) r207.1) (some 198) r208.1) (some 199) r209.1) (some 200) r210.1) (some 201) r211.1) (some 202) r212.1) (some 203) r213.1) (some 204) r214.1) (some 205) r215.1) (some 206) r216.1) (some 207) r217.1) (some 208) r218.1) (some 209) r219.1) (some 210) r220.1) (some 211) r222.1) (some 212) r223.1) (some 22) r224.1) (some 194) r225.1) (some 195) r226.1) (some 23) r227.1), r227.2))) (
      bnd (oMv (R 23) r208.2) fun r228 =>
      bnd (oBin Tryd.prog .add 3 false true r228.1 (.int .i64 1) r228.2) fun r229 =>
      bnd (oMv r229.1 r229.2) fun r230 =>
      some (X.normal, (rput (rput (rput (rput (rput (rput (rput (rput (rput (rput R (some 190) r202.1) (some 191) r203.1) (some 192) r204.1) (some 193) r205.1) (some 196) r206.1) (some 197) r207.1) (some 198) r208.1) (some 194) r228.1) (some 195) r229.1) (some 23) r230.1), r230.2))) (
    some (X.exit 8, (rput (rput (rput (rput R (some 190) r202.1) (some 191) r203.1) (some 192) r204.1) (some 193) r205.1), r205.2))
noncomputable def law15_VenueShards_L3 (call : Eng.Callee) (R : Nat → Value) (W : AW) : Option LT :=
  bnd (oMv (R 10) W) fun r98 =>
  bnd (faO 3 (R 1) r98.2) fun r99 =>
  bnd (ldC r99.1 r99.2) fun r100 =>
  bnd (oBuiltin Tryd.prog .len #[34] 3 #[false] [r100.1] r100.2) fun r101 =>
  bnd (oBin Tryd.prog .lss 3 false false r98.1 r101.1 r101.2) fun r102 =>
  vIf r102.1 (
    bnd (ldA 4 (R 1) r102.2) fun r103 =>
    bnd (oMv (R 10) r103.2) fun r104 =>
    bnd (call (fnV 38) [r103.1, r104.1] r104.2) fun r105 =>
    bnd (oMv r105.1 r105.2) fun r106 =>
    bnd (oExtract r106.1 0 r106.2) fun r107 =>
    bnd (oExtract r106.1 1 r107.2) fun r108 =>
    bnd (oMv r107.1 r108.2) fun r109 =>
    bnd (oMv r108.1 r109.2) fun r110 =>
    bnd (ldA 4 (R 1) r110.2) fun r111 =>
    bnd (oMv (R 10) r111.2) fun r112 =>
    bnd (call (fnV 39) [r111.1, r112.1] r112.2) fun r113 =>
    bnd (oMv r113.1 r113.2) fun r114 =>
    bnd (oExtract r114.1 0 r114.2) fun r115 =>
    bnd (oExtract r114.1 1 r115.2) fun r116 =>
    bnd (oMv r115.1 r116.2) fun r117 =>
    bnd (oMv r116.1 r117.2) fun r118 =>
    bnd (ldA 4 (R 1) r118.2) fun r119 =>
    bnd (oMv (R 10) r119.2) fun r120 =>
    bnd (call (fnV 32) [r119.1, r120.1] r120.2) fun r121 =>
    bnd (oMv r121.1 r121.2) fun r122 =>
    bnd (oExtract r122.1 0 r122.2) fun r123 =>
    bnd (oExtract r122.1 1 r123.2) fun r124 =>
    bnd (oExtract r122.1 2 r124.2) fun r125 =>
    bnd (oMv r123.1 r125.2) fun r126 =>
    bnd (oMv r124.1 r126.2) fun r127 =>
    bnd (oMv r125.1 r127.2) fun r128 =>
    bnd (oMv r110.1 r128.2) fun r129 =>
    bnd (oBin Tryd.prog .neq 28 false true r129.1 (.int .i64 0) r129.2) fun r130 =>
    bnd (oMv r130.1 r130.2) fun r131 =>
    bnd (bIf (wnt r131.1 false) (oMv r118.1 r131.2) (some (undef, r131.2))) fun r132 =>
    bnd (bIf (wnt r131.1 false) (oBin Tryd.prog .neq 28 false true r132.1 (.int .i64 0) r132.2) (some (undef, r132.2))) fun r133 =>
    bnd (oPick r131.1 (.bool true) r133.1 r133.2) fun r134 =>
    bnd (oMv r134.1 r134.2) fun r135 =>
    bnd (bIf (wnt r135.1 false) (oMv r128.1 r135.2) (some (undef, r135.2))) fun r136 =>
    bnd (bIf (wnt r135.1 false) (oBin Tryd.prog .neq 28 false true r136.1 (.int .i64 0) r136.2) (some (undef, r136.2))) fun r137 =>
    bnd (oPick r135.1 (.bool true) r137.1 r137.2) fun r138 =>
    bnd (oMv r138.1 r138.2) fun r139 =>
    bnd (bIf (wnt r139.1 false) (oMv r117.1 r139.2) (some (undef, r139.2))) fun r140 =>
    bnd (bIf (wnt r139.1 false) (faO 0 (R 1) r140.2) (some (undef, r140.2))) fun r141 =>
    bnd (bIf (wnt r139.1 false) (ldC r141.1 r141.2) (some (undef, r141.2))) fun r142 =>
    bnd (bIf (wnt r139.1 false) (oMv (R 10) r142.2) (some (undef, r142.2))) fun r143 =>
    bnd (bIf (wnt r139.1 false) (oBin Tryd.prog .add 3 false false r142.1 r143.1 r143.2) (some (undef, r143.2))) fun r144 =>
    bnd (bIf (wnt r139.1 false) (oBin Tryd.prog .neq 3 false false r140.1 r144.1 r144.2) (some (undef, r144.2))) fun r145 =>
    bnd (oPick r139.1 (.bool true) r145.1 r145.2) fun r146 =>
    bnd (oMv r146.1 r146.2) fun r147 =>
    bnd (bIf (wnt r147.1 false) (oMv r126.1 r147.2) (some (undef, r147.2))) fun r148 =>
    bnd (bIf (wnt r147.1 false) (oBin Tryd.prog .lss 3 false true r148.1 (.int .i64 0) r148.2) (some (undef, r148.2))) fun r149 =>
    bnd (oPick r147.1 (.bool true) r149.1 r149.2) fun r150 =>
    bnd (oMv r150.1 r150.2) fun r151 =>
    bnd (bIf (wnt r151.1 false) (oMv r127.1 r151.2) (some (undef, r151.2))) fun r152 =>
    bnd (bIf (wnt r151.1 false) (oMv (R 3) r152.2) (some (undef, r152.2))) fun r153 =>
    bnd (bIf (wnt r151.1 false) (oBin Tryd.prog .gtr 3 false false r152.1 r153.1 r153.2) (some (undef, r153.2))) fun r154 =>
    bnd (oPick r151.1 (.bool true) r154.1 r154.2) fun r155 =>
    bnd (oMv r155.1 r155.2) fun r156 =>
    bnd (bIf (wnt r156.1 false) (oMv r109.1 r156.2) (some (undef, r156.2))) fun r157 =>
    bnd (bIf (wnt r156.1 false) (oBuiltin Tryd.prog .len #[38] 3 #[false] [r157.1] r157.2) (some (undef, r157.2))) fun r158 =>
    bnd (bIf (wnt r156.1 false) (faO 0 (R 1) r158.2) (some (undef, r158.2))) fun r159 =>
    bnd (bIf (wnt r156.1 false) (ldC r159.1 r159.2) (some (undef, r159.2))) fun r160 =>
    bnd (bIf (wnt r156.1 false) (oBin Tryd.prog .gtr 3 false false r158.1 r160.1 r160.2) (some (undef, r160.2))) fun r161 =>
    bnd (oPick r156.1 (.bool true) r161.1 r161.2) fun r162 =>
    vIf r162.1 (
      bnd (oMv (.bool false) r162.2) fun r163 =>
      some (X.ret, (rput (rput (rput (rput (rput (rput (rput (rput (rput (rput (rput (rput (rput (rput (rput (rput (rput (rput (rput (rput (rput (rput (rput (rput (rput (rput (rput (rput (rput (rput (rput (rput (rput (rput (rput (rput (rput (rput (rput (rput (rput (rput (rput (rput (rput (rput (rput (rput (rput (rput (rput (rput (rput (rput (rput (rput (rput (rput (rput (rput (rput (rput (rput (rput (rput (rput R (some 102) r98.1) (some 103) r99.1) (some 104) r100.1) (some 105) r101.1) (some 106) r102.1) (some 110) r103.1) (some 111) r104.1) (some 112) r105.1) (some 109) r106.1) (some 113) r107.1) (some 114) r108.1) (some 11) r109.1) (some 12) r110.1) (some 116) r111.1) (some 117) r112.1) (some 118) r113.1) (some 115) r114.1) (some 119) r115.1) (some 120) r116.1) (some 13) r117.1) (some 14) r118.1) (some 122) r119.1) (some 123) r120.1) (some 124) r121.1) (some 121) r122.1) (some 125) r123.1) (some 126) r124.1) (some 127) r125.1) (some 15) r126.1) (some 16) r127.1) (some 17) r128.1) (some 128) r129.1) (some 129) r130.1) (some 130) r131.1) (some 131) r132.1) (some 132) r133.1) (some 133) r134.1) (some 134) r135.1) (some 135) r136.1) (some 136) r137.1) (some 137) r138.1) (some 138) r139.1) (some 139) r140.1) (some 140) r141.1) (some 141) r142.1) (some 142) r143.1) (some 143) r144.1) (some 144) r145.1) (some 145) r146.1) (some 146) r147.1) (some 147) r148.1) (some 148) r149.1) (some 149) r150.1) (some 150) r151.1) (some 151) r152.1) (some 152) r153.1) (some 153) r154.1) (some 154) r155.1) (some 155) r156.1) (some 156) r157.1) (some 157) r158.1) (some 158) r159.1) (some 159) r160.1) (some 160) r161.1) (some 161) r162.1) (some 2) r163.1), r163.2)) (
      bnd (oAlloc Tryd.prog 72 r162.2) fun r164 =>
      bnd (oMv r126.1 r164.2) fun r165 =>
      bnd (oMv r165.1 r165.2) fun r166 =>
      bnd (loopO (law15_VenueShards_L3_L4 call) (rput (rput (rput (rput (rput (rput (rput (rput (rput (rput (rput (rput (rput (rput (rput (rput (rput (rput (rput (rput (rput (rput (rput (rput (rput (rput (rput (rput (rput (rput (rput (rput (rput (rput (rput (rput (rput (rput (rput (rput (rput (rput (rput (rput (rput (rput (rput (rput (rput (rput (rput (rput (rput (rput (rput (rput (rput (rput (rput (rput (rput (rput (rput (rput (rput (rput (rput (rput R (some 102) r98.1) (some 103) r99.1) (some 104) r100.1) (some 105) r101.1) (some 106) r102.1) (some 110) r103.1) (some 111) r104.1) (some 112) r105.1) (some 109) r106.1) (some 113) r107.1) (some 114) r108.1) (some 11) r109.1) (some 12) r110.1) (some 116) r111.1) (some 117) r112.1) (some 118) r113.1) (some 115) r114.1) (some 119) r115.1) (some 120) r116.1) (some 13) r117.1) (some 14) r118.1) (some 122) r119.1) (some 123) r120.1) (some 124) r121.1) (some 121) r122.1) (some 125) r123.1) (some 126) r124.1) (some 127) r125.1) (some 15) r126.1) (some 16) r127.1) (some 17) r128.1) (some 128) r129.1) (some 129) r130.1) (some 130) r131.1) (some 131) r132.1) (some 132) r133.1) (some 133) r134.1) (some 134) r135.1) (some 135) r136.1) (some 136) r137.1) (some 137) r138.1) (some 138) r139.1) (some 139) r140.1) (some 140) r141.1) (some 141) r142.1) (some 142) r143.1) (some 143) r144.1) (some 144) r145.1) (some 145) r146.1) (some 146) r147.1) (some 147) r148.1) (some 148) r149.1) (some 149) r150.1) (some 150) r151.1) (some 151) r152.1) (some 152) r153.1) (some 153) r154.1) (some 154) r155.1) (some 155) r156.1) (some 156) r157.1) (some 157) r158.1) (some 158) r159.1) (some 159) r160.1) (some 160) r161.1) (some 161) r162.1) (some 18) r164.1) (some 162) r165.1) (some 19) r166.1) r166.2) fun r199 =>
      kExit 6 r199.1 (
        bnd (oMv (.int .i64 0) r199.2.2) fun r200 =>
        bnd (oMv (.int .i64 0) r200.2) fun r201 =>
        bnd (loopO (law15_VenueShards_L3_L5 call) (rput (rput r199.2.1 (some 22) r200.1) (some 23) r201.1) r201.2) fun r231 =>
        kExit 8 r231.1 (
          bnd (oMv (r231.2.1 22) r231.2.2) fun r232 =>
          bnd (oMv (r231.2.1 11) r232.2) fun r233 =>
          bnd (oBuiltin Tryd.prog .len #[38] 3 #[false] [r233.1] r233.2) fun r234 =>
          bnd (oBin Tryd.prog .neq 3 false false r232.1 r234.1 r234.2) fun r235 =>
          vIf r235.1 (
            bnd (oMv (.bool false) r235.2) fun r236 =>
            some (X.ret, (rput (rput (rput (rput (rput r231.2.1 (some 213) r232.1) (some 214) r233.1) (some 215) r234.1) (some 216) r235.1) (some 2) r236.1), r236.2)) (
            bnd (oMv (r231.2.1 10) r235.2) fun r237 =>
            bnd (oBin Tryd.prog .add 3 false true r237.1 (.int .i64 1) r237.2) fun r238 =>
            bnd (oMv r238.1 r238.2) fun r239 =>
            some (X.normal, (rput (rput (rput (rput (rput (rput (rput r231.2.1 (some 213) r232.1) (some 214) r233.1) (some 215) r234.1) (some 216) r235.1) (some 107) r237.1) (some 108) r238.1) (some 10) r239.1), r239.2))) (kRetX r231.1 (
          some (X.ret, r231.2.1, r231.2.2)))) (kRetX r199.1 (
        some (X.ret, r199.2.1, r199.2.2))))) (
    some (X.exit 4, (rput (rput (rput (rput (rput R (some 102) r98.1) (some 103) r99.1) (some 104) r100.1) (some 105) r101.1) (some 106) r102.1), r102.2))
noncomputable def law15_VenueShards (call : Eng.Callee) (x0 : Value) (W : AW) : Option (Value × AW) :=
  bnd (oBox x0 W) fun r1 =>
  bnd (oMv (.bool false) r1.2) fun r2 =>
  bnd (ldA 4 r1.1 r2.2) fun r3 =>
  bnd (call (fnV 29) [r3.1] r3.2) fun r4 =>
  vIf r4.1 (
    bnd (call (fnV 30) [] r4.2) fun r5 =>
    bnd (oMv r5.1 r5.2) fun r6 =>
    oRes Tryd.prog [(r6.1, none)] r6.2) (
    bnd (ldA 4 r1.1 r4.2) fun r7 =>
    bnd (call (fnV 31) [r7.1] r7.2) fun r8 =>
    bnd (oMv r8.1 r8.2) fun r9 =>
    bnd (oExtract r9.1 0 r9.2) fun r10 =>
    bnd (oExtract r9.1 1 r10.2) fun r11 =>
    bnd (oMv r10.1 r11.2) fun r12 =>
    bnd (oMv r11.1 r12.2) fun r13 =>
    bnd (oMv r13.1 r13.2) fun r14 =>
    bnd (oBin Tryd.prog .neq 28 false true r14.1 (.int .i64 0) r14.2) fun r15 =>
    bnd (oMv r15.1 r15.2) fun r16 =>
    bnd (bIf (wnt r16.1 false) (oMv r12.1 r16.2) (some (undef, r16.2))) fun r17 =>
    bnd (bIf (wnt r16.1 false) (oBin Tryd.prog .gtr 3 false true r17.1 (.int .i64 200) r17.2) (some (undef, r17.2))) fun r18 =>
    bnd (oPick r16.1 (.bool true) r18.1 r18.2) fun r19 =>
    bnd (oMv r19.1 r19.2) fun r20 =>
    bnd (bIf (wnt r20.1 false) (faO 0 r1.1 r20.2) (some (undef, r20.2))) fun r21 =>
    bnd (bIf (wnt r20.1 false) (ldC r21.1 r21.2) (some (undef, r21.2))) fun r22 =>
    bnd (bIf (wnt r20.1 false) (oBin Tryd.prog .lss 3 false true r22.1 (.int .i64 1) r22.2) (some (undef, r22.2))) fun r23 =>
    bnd (oPick r20.1 (.bool true) r23.1 r23.2) fun r24 =>
    bnd (oMv r24.1 r24.2) fun r25 =>
    bnd (bIf (wnt r25.1 false) (faO 0 r1.1 r25.2) (some (undef, r25.2))) fun r26 =>
    bnd (bIf (wnt r25.1 false) (ldC r26.1 r26.2) (some (undef, r26.2))) fun r27 =>
    bnd (bIf (wnt r25.1 false) (oBin Tryd.prog .gtr 3 false true r27.1 (.int .i64 16) r27.2) (some (undef, r27.2))) fun r28 =>
    bnd (oPick r25.1 (.bool true) r28.1 r28.2) fun r29 =>
    vIf r29.1 (
      bnd (oMv r13.1 r29.2) fun r30 =>
      bnd (oBin Tryd.prog .neq 28 false true r30.1 (.int .i64 0) r30.2) fun r31 =>
      bnd (oMv r31.1 r31.2) fun r32 =>
      bnd (bIf (wnt r32.1 true) (call (fnV 30) [] r32.2) (some (undef, r32.2))) fun r33 =>
      bnd (oPick r32.1 r33.1 (.bool false) r33.2) fun r34 =>
      bnd (oMv r34.1 r34.2) fun r35 =>
      oRes Tryd.prog [(r35.1, none)] r35.2) (
      bnd (oAlloc Tryd.prog 69 r29.2) fun r36 =>
      bnd (oMv (.int .i64 0) r36.2) fun r37 =>
      bnd (loopO (law15_VenueShards_L1 call) (rput (rput (rput (rput (rput (rput (rput (rput (rput (rput (rput (rput (rput (rput (rput (rput (rput (rput (rput (rput (rput (rput (rput (rput (rput (rput (rput (rput (rput (argGo 0 [x0] PlanTab.blank) (some 1) r1.1) (some 2) r2.1) (some 24) r3.1) (some 25) r4.1) (some 28) r7.1) (some 29) r8.1) (some 27) r9.1) (some 30) r10.1) (some 31) r11.1) (some 3) r12.1) (some 4) r13.1) (some 32) r14.1) (some 33) r15.1) (some 34) r16.1) (some 35) r17.1) (some 36) r18.1) (some 37) r19.1) (some 38) r20.1) (some 39) r21.1) (some 40) r22.1) (some 41) r23.1) (some 42) r24.1) (some 43) r25.1) (some 44) r26.1) (some 45) r27.1) (some 46) r28.1) (some 47) r29.1) (some 5) r36.1) (some 6) r37.1) r37.2) fun r71 =>
      kExit 0 r71.1 (
        bnd (oMv (.int .i64 0) r71.2.2) fun r72 =>
        bnd (loopO (law15_VenueShards_L2 call) (rput r71.2.1 (some 9) r72.1) r72.2) fun r96 =>
        kExit 2 r96.1 (
          bnd (oMv (.int .i64 0) r96.2.2) fun r97 =>
          bnd (loopO (law15_VenueShards_L3 call) (rput r96.2.1 (some 10) r97.1) r97.2) fun r240 =>
          kExit 4 r240.1 (
            bnd (call (fnV 30) [] r240.2.2) fun r241 =>
            bnd (oMv r241.1 r241.2) fun r242 =>
            oRes Tryd.prog [(r242.1, none)] r242.2) (kRetX r240.1 (
            oRes Tryd.prog [((r240.2.1 2), none)] r240.2.2))) (kRetX r96.1 (
          oRes Tryd.prog [((r96.2.1 2), none)] r96.2.2))) (kRetX r71.1 (
        oRes Tryd.prog [((r71.2.1 2), none)] r71.2.2))))
theorem law15_VenueShards_eq (call : Eng.Callee) (x0 : Value) (W : AW) : kFun Tryd.prog call 218 (cod 11) (rss 11) [x0] W = law15_VenueShards call x0 W := by kernel_rfl
theorem law15_VenueShards_om {x0 : Value} {W : AW} {r : Value × AW} (h : law15_VenueShards omS x0 W = some r) : omS (.func (.func 11) #[] #[]) [x0] W = some (gc W r) := om_of (nt := 218) (n := 1) (by kernel_rfl) (by kernel_rfl) rfl ((law15_VenueShards_eq omS x0 W).trans h)
noncomputable def law15_Far_L1_L2 (call : Eng.Callee) (R : Nat → Value) (W : AW) : Option LT :=
  bnd (oMv (R 6) W) fun r34 =>
  bnd (faO 1 (R 5) r34.2) fun r35 =>
  bnd (ldC r35.1 r35.2) fun r36 =>
  bnd (oBuiltin Tryd.prog .len #[38] 3 #[false] [r36.1] r36.2) fun r37 =>
  bnd (oBin Tryd.prog .lss 3 false false r34.1 r37.1 r37.2) fun r38 =>
  vIf r38.1 (
    bnd (faO 1 (R 5) r38.2) fun r39 =>
    bnd (ldC r39.1 r39.2) fun r40 =>
    bnd (oMv (R 6) r40.2) fun r41 =>
    bnd (ixS 1 r40.1 r41.1 r41.2) fun r42 =>
    bnd (ldC r42.1 r42.2) fun r43 =>
    bnd (oBin Tryd.prog .gtr 3 false true r43.1 (.int .i64 0) r43.2) fun r44 =>
    bnd (oMv r44.1 r44.2) fun r45 =>
    bnd (bIf (wnt r45.1 true) (faO 1 (R 5) r45.2) (some (undef, r45.2))) fun r46 =>
    bnd (bIf (wnt r45.1 true) (ldC r46.1 r46.2) (some (undef, r46.2))) fun r47 =>
    bnd (bIf (wnt r45.1 true) (oMv (R 6) r47.2) (some (undef, r47.2))) fun r48 =>
    bnd (bIf (wnt r45.1 true) (ixS 1 r47.1 r48.1 r48.2) (some (undef, r48.2))) fun r49 =>
    bnd (bIf (wnt r45.1 true) (ldC r49.1 r49.2) (some (undef, r49.2))) fun r50 =>
    bnd (bIf (wnt r45.1 true) (oBin Tryd.prog .leq 3 false true r50.1 (.int .i64 100) r50.2) (some (undef, r50.2))) fun r51 =>
    bnd (oPick r45.1 r51.1 (.bool false) r51.2) fun r52 =>
    vIf r52.1 (
      bnd (oMv (R 3) r52.2) fun r53 =>
      bnd (faO 1 (R 5) r53.2) fun r54 =>
      bnd (ldC r54.1 r54.2) fun r55 =>
      bnd (oMv (R 6) r55.2) fun r56 =>
      bnd (ixS 1 r55.1 r56.1 r56.2) fun r57 =>
      bnd (ldC r57.1 r57.2) fun r58 =>
      bnd (oBin Tryd.prog .add 3 false false r53.1 r58.1 r58.2) fun r59 =>
      bnd (oMv r59.1 r59.2) fun r60 =>
      bnd (oMv (R 6) r60.2) fun r61 =>
      bnd (oBin Tryd.prog .add 3 false true r61.1 (.int .i64 1) r61.2) fun r62 =>
      bnd (oMv r62.1 r62.2) fun r63 =>
      some (X.normal, (rput (rput (rput (rput (rput (rput (rput (rput (rput (rput (rput (rput (rput (rput (rput (rput (rput (rput (rput (rput (rput (rput (rput (rput (rput (rput (rput (rput (rput (rput R (some 33) r34.1) (some 34) r35.1) (some 35) r36.1) (some 36) r37.1) (some 37) r38.1) (some 40) r39.1) (some 41) r40.1) (some 42) r41.1) (some 43) r42.1) (some 44) r43.1) (some 45) r44.1) (some 46) r45.1) (some 47) r46.1) (some 48) r47.1) (some 49) r48.1) (some 50) r49.1) (some 51) r50.1) (some 52) r51.1) (some 53) r52.1) (some 54) r53.1) (some 55) r54.1) (some 56) r55.1) (some 57) r56.1) (some 58) r57.1) (some 59) r58.1) (some 60) r59.1) (some 3) r60.1) (some 38) r61.1) (some 39) r62.1) (some 6) r63.1), r63.2)) (
      bnd (oMv (R 6) r52.2) fun r64 =>
      bnd (oBin Tryd.prog .add 3 false true r64.1 (.int .i64 1) r64.2) fun r65 =>
      bnd (oMv r65.1 r65.2) fun r66 =>
      some (X.normal, (rput (rput (rput (rput (rput (rput (rput (rput (rput (rput (rput (rput (rput (rput (rput (rput (rput (rput (rput (rput (rput (rput R (some 33) r34.1) (some 34) r35.1) (some 35) r36.1) (some 36) r37.1) (some 37) r38.1) (some 40) r39.1) (some 41) r40.1) (some 42) r41.1) (some 43) r42.1) (some 44) r43.1) (some 45) r44.1) (some 46) r45.1) (some 47) r46.1) (some 48) r47.1) (some 49) r48.1) (some 50) r49.1) (some 51) r50.1) (some 52) r51.1) (some 53) r52.1) (some 38) r64.1) (some 39) r65.1) (some 6) r66.1), r66.2))) (
    some (X.exit 2, (rput (rput (rput (rput (rput R (some 33) r34.1) (some 34) r35.1) (some 35) r36.1) (some 36) r37.1) (some 37) r38.1), r38.2))
noncomputable def law15_Far_L1 (call : Eng.Callee) (R : Nat → Value) (W : AW) : Option LT :=
  bnd (oMv (R 4) W) fun r10 =>
  bnd (faO 3 (R 1) r10.2) fun r11 =>
  bnd (ldC r11.1 r11.2) fun r12 =>
  bnd (oBuiltin Tryd.prog .len #[34] 3 #[false] [r12.1] r12.2) fun r13 =>
  bnd (oBin Tryd.prog .lss 3 false false r10.1 r13.1 r13.2) fun r14 =>
  vIf r14.1 (
    bnd (faO 3 (R 1) r14.2) fun r15 =>
    bnd (ldC r15.1 r15.2) fun r16 =>
    bnd (oMv (R 4) r16.2) fun r17 =>
    bnd (ixS 3 r16.1 r17.1 r17.2) fun r18 =>
    bnd (ldA 3 r18.1 r18.2) fun r19 =>
    bnd (oAlloc Tryd.prog 62 r19.2) fun r20 =>
    bnd (stV 3 r20.1 r19.1 r20.2) fun r21 =>
    bnd (faO 1 r20.1 r21.2) fun r22 =>
    bnd (ldC r22.1 r22.2) fun r23 =>
    bnd (oBuiltin Tryd.prog .len #[38] 3 #[false] [r23.1] r23.2) fun r24 =>
    bnd (oBin Tryd.prog .gtr 3 false true r24.1 (.int .i64 20) r24.2) fun r25 =>
    bnd (oMv r25.1 r25.2) fun r26 =>
    bnd (bIf (wnt r26.1 false) (faO 0 r20.1 r26.2) (some (undef, r26.2))) fun r27 =>
    bnd (bIf (wnt r26.1 false) (ldC r27.1 r27.2) (some (undef, r27.2))) fun r28 =>
    bnd (bIf (wnt r26.1 false) (oBuiltin Tryd.prog .len #[9] 3 #[false] [r28.1] r28.2) (some (undef, r28.2))) fun r29 =>
    bnd (bIf (wnt r26.1 false) (oBin Tryd.prog .gtr 3 false true r29.1 (.int .i64 100) r29.2) (some (undef, r29.2))) fun r30 =>
    bnd (oPick r26.1 (.bool true) r30.1 r30.2) fun r31 =>
    vIf r31.1 (
      bnd (oMv (.bool true) r31.2) fun r32 =>
      some (X.ret, (rput (rput (rput (rput (rput (rput (rput (rput (rput (rput (rput (rput (rput (rput (rput (rput (rput (rput (rput (rput (rput (rput R (some 11) r10.1) (some 12) r11.1) (some 13) r12.1) (some 14) r13.1) (some 15) r14.1) (some 18) r15.1) (some 19) r16.1) (some 20) r17.1) (some 21) r18.1) (some 22) r19.1) (some 5) r20.1) (some 23) r22.1) (some 24) r23.1) (some 25) r24.1) (some 26) r25.1) (some 27) r26.1) (some 28) r27.1) (some 29) r28.1) (some 30) r29.1) (some 31) r30.1) (some 32) r31.1) (some 2) r32.1), r32.2)) (
      bnd (oMv (.int .i64 0) r31.2) fun r33 =>
      bnd (loopO (law15_Far_L1_L2 call) (rput (rput (rput (rput (rput (rput (rput (rput (rput (rput (rput (rput (rput (rput (rput (rput (rput (rput (rput (rput (rput (rput R (some 11) r10.1) (some 12) r11.1) (some 13) r12.1) (some 14) r13.1) (some 15) r14.1) (some 18) r15.1) (some 19) r16.1) (some 20) r17.1) (some 21) r18.1) (some 22) r19.1) (some 5) r20.1) (some 23) r22.1) (some 24) r23.1) (some 25) r24.1) (some 26) r25.1) (some 27) r26.1) (some 28) r27.1) (some 29) r28.1) (some 30) r29.1) (some 31) r30.1) (some 32) r31.1) (some 6) r33.1) r33.2) fun r67 =>
      kExit 2 r67.1 (
        bnd (oMv (r67.2.1 4) r67.2.2) fun r68 =>
        bnd (oBin Tryd.prog .add 3 false true r68.1 (.int .i64 1) r68.2) fun r69 =>
        bnd (oMv r69.1 r69.2) fun r70 =>
        some (X.normal, (rput (rput (rput r67.2.1 (some 16) r68.1) (some 17) r69.1) (some 4) r70.1), r70.2)) (none))) (
    some (X.exit 0, (rput (rput (rput (rput (rput R (some 11) r10.1) (some 12) r11.1) (some 13) r12.1) (some 14) r13.1) (some 15) r14.1), r14.2))
noncomputable def law15_Far (call : Eng.Callee) (x0 : Value) (W : AW) : Option (Value × AW) :=
  bnd (oBox x0 W) fun r1 =>
  bnd (oMv (.bool false) r1.2) fun r2 =>
  bnd (faO 3 r1.1 r2.2) fun r3 =>
  bnd (ldC r3.1 r3.2) fun r4 =>
  bnd (oBuiltin Tryd.prog .len #[34] 3 #[false] [r4.1] r4.2) fun r5 =>
  bnd (oBin Tryd.prog .gtr 3 false true r5.1 (.int .i64 10) r5.2) fun r6 =>
  vIf r6.1 (
    bnd (oMv (.bool true) r6.2) fun r7 =>
    oRes Tryd.prog [(r7.1, none)] r7.2) (
    bnd (oMv (.int .i64 0) r6.2) fun r8 =>
    bnd (oMv (.int .i64 0) r8.2) fun r9 =>
    bnd (loopO (law15_Far_L1 call) (rput (rput (rput (rput (rput (rput (rput (rput (argGo 0 [x0] PlanTab.blank) (some 1) r1.1) (some 2) r2.1) (some 7) r3.1) (some 8) r4.1) (some 9) r5.1) (some 10) r6.1) (some 3) r8.1) (some 4) r9.1) r9.2) fun r71 =>
    kExit 0 r71.1 (
      bnd (oMv (r71.2.1 3) r71.2.2) fun r72 =>
      bnd (oBin Tryd.prog .gtr 3 false true r72.1 (.int .i64 200) r72.2) fun r73 =>
      bnd (oMv r73.1 r73.2) fun r74 =>
      oRes Tryd.prog [(r74.1, none)] r74.2) (kRetX r71.1 (
      oRes Tryd.prog [((r71.2.1 2), none)] r71.2.2)))
theorem law15_Far_eq (call : Eng.Callee) (x0 : Value) (W : AW) : kFun Tryd.prog call 63 (cod 29) (rss 29) [x0] W = law15_Far call x0 W := by kernel_rfl
theorem law15_Far_om {x0 : Value} {W : AW} {r : Value × AW} (h : law15_Far omS x0 W = some r) : omS (.func (.func 29) #[] #[]) [x0] W = some (gc W r) := om_of (nt := 63) (n := 1) (by kernel_rfl) (by kernel_rfl) rfl ((law15_Far_eq omS x0 W).trans h)
noncomputable def venue_Seats_Y1a (call : Eng.Callee) (R : Nat → Value) (W : AW) : Option LT :=
  bnd (oAlloc Tryd.prog 92 W) fun r18 =>
  bnd (stV 4 r18.1 (R 17) r18.2) fun r19 =>
  some (X.normal, (rput R (some 6) r18.1), r19.2)
theorem venue_Seats_Y1a_eq (call : Eng.Callee) (R : Nat → Value) (W : AW) : kCode Tryd.prog call false 23 (cAt [1, 1, 0, 1, 0, 0] (cod 31)) LT R W ret3 = venue_Seats_Y1a call R W := by kernel_rfl
noncomputable def venue_Seats_Y1b (call : Eng.Callee) (R : Nat → Value) (W : AW) : Option LT :=
  bnd (ldC (R 2) W) fun r20 =>
  bnd (faO 3 (R 6) r20.2) fun r21 =>
  bnd (ldC r21.1 r21.2) fun r22 =>
  bnd (oBin Tryd.prog .add 3 false false r20.1 r22.1 r22.2) fun r23 =>
  bnd (stV 1 (R 2) r23.1 r23.2) fun r24 =>
  some (X.normal, (rput (rput (rput (rput R (some 18) r20.1) (some 19) r21.1) (some 20) r22.1) (some 21) r23.1), r24.2)
theorem venue_Seats_Y1b_eq (call : Eng.Callee) (R : Nat → Value) (W : AW) : kCode Tryd.prog call false 23 (cAt [1, 1, 0, 1, 0, 1] (cod 31)) LT R W ret3 = venue_Seats_Y1b call R W := by kernel_rfl
noncomputable def venue_Seats (call : Eng.Callee) (x0 : Value) (W : AW) : Option (Value × AW) :=
  bnd (oBox x0 W) fun r1 =>
  bnd (oAlloc Tryd.prog 3 r1.2) fun r2 =>
  bnd (oMv (.int .i64 0) r2.2) fun r3 =>
  bnd (ldA 4 r1.1 r3.2) fun r4 =>
  bnd (call (fnV 42) [r4.1] r4.2) fun r5 =>
  bnd (oMv r5.1 r5.2) fun r6 =>
  bnd (oExtract r6.1 0 r6.2) fun r7 =>
  bnd (oExtract r6.1 1 r7.2) fun r8 =>
  bnd (oMv r7.1 r8.2) fun r9 =>
  bnd (oMv r8.1 r9.2) fun r10 =>
  bnd (oMv r10.1 r10.2) fun r11 =>
  bnd (oBin Tryd.prog .neq 28 false true r11.1 (.int .i64 0) r11.2) fun r12 =>
  vIf r12.1 (
    bnd (oMv r10.1 r12.2) fun r13 =>
    bnd (stV 1 r2.1 (.int .i64 0) r13.2) fun r14 =>
    bnd (oMv r13.1 r14.2) fun r15 =>
    oRes Tryd.prog [(r2.1, some 3), (r15.1, none)] r15.2) (
    bnd (ldA 4 r1.1 r12.2) fun r16 =>
    bnd (call (fnV 55) [r16.1] r16.2) fun r17 =>
    bnd (oRange call r17.1 (.loop .ready none (rput (rput (rput (rput (rput (rput (rput (rput (rput (rput (rput (rput (rput (rput (argGo 0 [x0] PlanTab.blank) (some 1) r1.1) (some 2) r2.1) (some 3) r3.1) (some 8) r4.1) (some 9) r5.1) (some 7) r6.1) (some 10) r7.1) (some 11) r8.1) (some 4) r9.1) (some 5) r10.1) (some 12) r11.1) (some 13) r12.1) (some 15) r16.1) (some 16) r17.1) 23 #[17] (cAt [1, 1, 0, 1, 0, 0] (cod 31)) (cAt [1, 1, 0, 1, 0, 1] (cod 31))) r17.2) fun r25 =>
    kNorm r25.1 (
      bnd (ldC r2.1 r25.2) fun r26 =>
      bnd (stV 1 r2.1 r26.1 r26.2) fun r27 =>
      bnd (oMv (.int .i64 0) r27.2) fun r28 =>
      oRes Tryd.prog [(r2.1, some 3), (r28.1, none)] r28.2) (none))
theorem venue_Seats_eq (call : Eng.Callee) (x0 : Value) (W : AW) : kFun Tryd.prog call 23 (cod 31) (rss 31) [x0] W = venue_Seats call x0 W := by kernel_rfl
theorem venue_Seats_om {x0 : Value} {W : AW} {r : Value × AW} (h : venue_Seats omS x0 W = some r) : omS (.func (.func 31) #[] #[]) [x0] W = some (gc W r) := om_of (nt := 23) (n := 1) (by kernel_rfl) (by kernel_rfl) rfl ((venue_Seats_eq omS x0 W).trans h)
noncomputable def venue_Of_Y1a (call : Eng.Callee) (R : Nat → Value) (W : AW) : Option LT :=
  bnd (oAlloc Tryd.prog 92 W) fun r21 =>
  bnd (stV 4 r21.1 (R 20) r21.2) fun r22 =>
  some (X.normal, (rput R (some 9) r21.1), r22.2)
theorem venue_Of_Y1a_eq (call : Eng.Callee) (R : Nat → Value) (W : AW) : kCode Tryd.prog call false 37 (cAt [1, 1, 0, 1, 0, 0] (cod 32)) LT R W ret3 = venue_Of_Y1a call R W := by kernel_rfl
noncomputable def venue_Of_Y1b (call : Eng.Callee) (R : Nat → Value) (W : AW) : Option LT :=
  bnd (faO 0 (R 9) W) fun r23 =>
  bnd (ldC r23.1 r23.2) fun r24 =>
  bnd (ldC (R 3) r24.2) fun r25 =>
  bnd (oBin Tryd.prog .neq 3 false false r24.1 r25.1 r25.2) fun r26 =>
  vIf r26.1 (
    some (X.normal, (rput (rput (rput (rput R (some 21) r23.1) (some 22) r24.1) (some 23) r25.1) (some 24) r26.1), r26.2)) (
    bnd (ldC (R 5) r26.2) fun r27 =>
    bnd (oBin Tryd.prog .eql 3 false true r27.1 (.int .i64 0) r27.2) fun r28 =>
    vIf r28.1 (
      bnd (faO 2 (R 9) r28.2) fun r29 =>
      bnd (ldC r29.1 r29.2) fun r30 =>
      bnd (stV 1 (R 4) r30.1 r30.2) fun r31 =>
      bnd (ldC (R 5) r31.2) fun r32 =>
      bnd (faO 3 (R 9) r32.2) fun r33 =>
      bnd (ldC r33.1 r33.2) fun r34 =>
      bnd (oBin Tryd.prog .add 3 false false r32.1 r34.1 r34.2) fun r35 =>
      bnd (stV 1 (R 5) r35.1 r35.2) fun r36 =>
      some (X.normal, (rput (rput (rput (rput (rput (rput (rput (rput (rput (rput (rput (rput R (some 21) r23.1) (some 22) r24.1) (some 23) r25.1) (some 24) r26.1) (some 25) r27.1) (some 26) r28.1) (some 27) r29.1) (some 28) r30.1) (some 29) r32.1) (some 30) r33.1) (some 31) r34.1) (some 32) r35.1), r36.2)) (
      bnd (ldC (R 5) r28.2) fun r37 =>
      bnd (faO 3 (R 9) r37.2) fun r38 =>
      bnd (ldC r38.1 r38.2) fun r39 =>
      bnd (oBin Tryd.prog .add 3 false false r37.1 r39.1 r39.2) fun r40 =>
      bnd (stV 1 (R 5) r40.1 r40.2) fun r41 =>
      some (X.normal, (rput (rput (rput (rput (rput (rput (rput (rput (rput (rput R (some 21) r23.1) (some 22) r24.1) (some 23) r25.1) (some 24) r26.1) (some 25) r27.1) (some 26) r28.1) (some 29) r37.1) (some 30) r38.1) (some 31) r39.1) (some 32) r40.1), r41.2)))
theorem venue_Of_Y1b_eq (call : Eng.Callee) (R : Nat → Value) (W : AW) : kCode Tryd.prog call false 37 (cAt [1, 1, 0, 1, 0, 1] (cod 32)) LT R W ret3 = venue_Of_Y1b call R W := by kernel_rfl
noncomputable def venue_Of (call : Eng.Callee) (x0 x1 : Value) (W : AW) : Option (Value × AW) :=
  bnd (oBox x0 W) fun r1 =>
  bnd (oBox x1 r1.2) fun r2 =>
  bnd (oAlloc Tryd.prog 3 r2.2) fun r3 =>
  bnd (oAlloc Tryd.prog 3 r3.2) fun r4 =>
  bnd (oMv (.int .i64 0) r4.2) fun r5 =>
  bnd (ldA 4 r1.1 r5.2) fun r6 =>
  bnd (call (fnV 42) [r6.1] r6.2) fun r7 =>
  bnd (oMv r7.1 r7.2) fun r8 =>
  bnd (oExtract r8.1 0 r8.2) fun r9 =>
  bnd (oExtract r8.1 1 r9.2) fun r10 =>
  bnd (oMv r9.1 r10.2) fun r11 =>
  bnd (oMv r10.1 r11.2) fun r12 =>
  bnd (oMv r12.1 r12.2) fun r13 =>
  bnd (oBin Tryd.prog .neq 28 false true r13.1 (.int .i64 0) r13.2) fun r14 =>
  vIf r14.1 (
    bnd (oMv r12.1 r14.2) fun r15 =>
    bnd (stV 1 r3.1 (.int .i64 0) r15.2) fun r16 =>
    bnd (stV 1 r4.1 (.int .i64 0) r16.2) fun r17 =>
    bnd (oMv r15.1 r17.2) fun r18 =>
    oRes Tryd.prog [(r3.1, some 3), (r4.1, some 3), (r18.1, none)] r18.2) (
    bnd (ldA 4 r1.1 r14.2) fun r19 =>
    bnd (call (fnV 55) [r19.1] r19.2) fun r20 =>
    bnd (oRange call r20.1 (.loop .ready none (rput (rput (rput (rput (rput (rput (rput (rput (rput (rput (rput (rput (rput (rput (rput (rput (argGo 0 [x0, x1] PlanTab.blank) (some 2) r1.1) (some 3) r2.1) (some 4) r3.1) (some 5) r4.1) (some 6) r5.1) (some 11) r6.1) (some 12) r7.1) (some 10) r8.1) (some 13) r9.1) (some 14) r10.1) (some 7) r11.1) (some 8) r12.1) (some 15) r13.1) (some 16) r14.1) (some 18) r19.1) (some 19) r20.1) 37 #[20] (cAt [1, 1, 0, 1, 0, 0] (cod 32)) (cAt [1, 1, 0, 1, 0, 1] (cod 32))) r20.2) fun r42 =>
    kNorm r42.1 (
      bnd (ldC r4.1 r42.2) fun r43 =>
      bnd (oBin Tryd.prog .eql 3 false true r43.1 (.int .i64 0) r43.2) fun r44 =>
      vIf r44.1 (
        bnd (stV 1 r3.1 (.int .i64 0) r44.2) fun r45 =>
        bnd (stV 1 r4.1 (.int .i64 0) r45.2) fun r46 =>
        bnd (oMv (.int .i64 4) r46.2) fun r47 =>
        oRes Tryd.prog [(r3.1, some 3), (r4.1, some 3), (r47.1, none)] r47.2) (
        bnd (ldC r3.1 r44.2) fun r48 =>
        bnd (ldC r4.1 r48.2) fun r49 =>
        bnd (stV 1 r3.1 r48.1 r49.2) fun r50 =>
        bIf (agV true (ldC r4.1 r50.2) r49.1 && true) (bnd (stV 1 r4.1 r49.1 r50.2) fun r51 =>
        bnd (oMv (.int .i64 0) r51.2) fun r52 =>
        oRes Tryd.prog [(r3.1, some 3), (r4.1, some 3), (r52.1, none)] r52.2) none)) (none))
theorem venue_Of_eq (call : Eng.Callee) (x0 x1 : Value) (W : AW) : kFun Tryd.prog call 37 (cod 32) (rss 32) [x0, x1] W = venue_Of call x0 x1 W := by kernel_rfl
theorem venue_Of_om {x0 x1 : Value} {W : AW} {r : Value × AW} (h : venue_Of omS x0 x1 W = some r) : omS (.func (.func 32) #[] #[]) [x0, x1] W = some (gc W r) := om_of (nt := 37) (n := 2) (by kernel_rfl) (by kernel_rfl) rfl ((venue_Of_eq omS x0 x1 W).trans h)
noncomputable def venue_Shard (call : Eng.Callee) (x0 x1 : Value) (W : AW) : Option (Value × AW) :=
  bnd (oBox x0 W) fun r1 =>
  bnd (oMv (.int .i64 0) r1.2) fun r2 =>
  bnd (oMv (.int .i64 0) r2.2) fun r3 =>
  bnd (ldA 4 r1.1 r3.2) fun r4 =>
  bnd (oMv x1 r4.2) fun r5 =>
  bnd (call (fnV 57) [r4.1, r5.1] r5.2) fun r6 =>
  bnd (oMv r6.1 r6.2) fun r7 =>
  bnd (oExtract r7.1 0 r7.2) fun r8 =>
  bnd (oExtract r7.1 1 r8.2) fun r9 =>
  bnd (oAlloc Tryd.prog 92 r9.2) fun r10 =>
  bnd (stV 4 r10.1 r8.1 r10.2) fun r11 =>
  bnd (oMv r9.1 r11.2) fun r12 =>
  bnd (oMv r12.1 r12.2) fun r13 =>
  bnd (oBin Tryd.prog .neq 28 false true r13.1 (.int .i64 0) r13.2) fun r14 =>
  vIf r14.1 (
    bnd (oMv r12.1 r14.2) fun r15 =>
    bnd (oMv (.int .i64 0) r15.2) fun r16 =>
    bnd (oMv r15.1 r16.2) fun r17 =>
    oRes Tryd.prog [(r16.1, none), (r17.1, none)] r17.2) (
    bnd (oMv x1 r14.2) fun r18 =>
    bnd (faO 0 r1.1 r18.2) fun r19 =>
    bnd (ldC r19.1 r19.2) fun r20 =>
    bnd (oBin Tryd.prog .rem 3 false false r18.1 r20.1 r20.2) fun r21 =>
    bnd (oMv r21.1 r21.2) fun r22 =>
    bnd (oMv (.int .i64 0) r22.2) fun r23 =>
    oRes Tryd.prog [(r22.1, none), (r23.1, none)] r23.2)
theorem venue_Shard_eq (call : Eng.Callee) (x0 x1 : Value) (W : AW) : kFun Tryd.prog call 21 (cod 37) (rss 37) [x0, x1] W = venue_Shard call x0 x1 W := by kernel_rfl
theorem venue_Shard_om {x0 x1 : Value} {W : AW} {r : Value × AW} (h : venue_Shard omS x0 x1 W = some r) : omS (.func (.func 37) #[] #[]) [x0, x1] W = some (gc W r) := om_of (nt := 21) (n := 2) (by kernel_rfl) (by kernel_rfl) rfl ((venue_Shard_eq omS x0 x1 W).trans h)
noncomputable def venue_Cover_L1 (call : Eng.Callee) (R : Nat → Value) (W : AW) : Option LT :=
  bnd (oBin Tryd.prog .lss 3 false false (R 25) (R 24) W) fun r25 =>
  vIf r25.1 (
    bnd (oMv (R 25) r25.2) fun r26 =>
    bnd (oMv r26.1 r26.2) fun r27 =>
    bnd (oMv (R 9) r27.2) fun r28 =>
    bnd (oMv (R 6) r28.2) fun r29 =>
    bnd (oMv r27.1 r29.2) fun r30 =>
    bnd (oBin Tryd.prog .add 3 false false r29.1 r30.1 r30.2) fun r31 =>
    bnd (faO 0 (R 2) r31.2) fun r32 =>
    bnd (ldC r32.1 r32.2) fun r33 =>
    bnd (oBin Tryd.prog .rem 3 false false r31.1 r33.1 r33.2) fun r34 =>
    bnd (oBuildSlice Tryd.prog 38 1 [(0, r34.1)] r34.2) fun r35 =>
    bnd (aAppend Tryd.prog r35.2 #[38, 38] r28.1 r35.1) fun r36 =>
    bnd (oMv r36.1 r36.2) fun r37 =>
    bnd (oBin Tryd.prog .add 3 false true (R 25) (.int .i64 1) r37.2) fun r38 =>
    bnd (oMv r38.1 r38.2) fun r39 =>
    some (X.normal, (rput (rput (rput (rput (rput (rput (rput (rput (rput (rput (rput (rput (rput (rput (rput R (some 26) r25.1) (some 27) r26.1) (some 10) r27.1) (some 28) r28.1) (some 29) r29.1) (some 30) r30.1) (some 31) r31.1) (some 32) r32.1) (some 33) r33.1) (some 34) r34.1) (some 35) r35.1) (some 36) r36.1) (some 9) r37.1) (some 37) r38.1) (some 25) r39.1), r39.2)) (
    some (X.exit 0, (rput R (some 26) r25.1), r25.2))
noncomputable def venue_Cover (call : Eng.Callee) (x0 x1 : Value) (W : AW) : Option (Value × AW) :=
  bnd (oBox x0 W) fun r1 =>
  bnd (oMv (.slice none 0 0) r1.2) fun r2 =>
  bnd (oMv (.int .i64 0) r2.2) fun r3 =>
  bnd (ldA 4 r1.1 r3.2) fun r4 =>
  bnd (oMv x1 r4.2) fun r5 =>
  bnd (call (fnV 32) [r4.1, r5.1] r5.2) fun r6 =>
  bnd (oMv r6.1 r6.2) fun r7 =>
  bnd (oExtract r7.1 0 r7.2) fun r8 =>
  bnd (oExtract r7.1 1 r8.2) fun r9 =>
  bnd (oExtract r7.1 2 r9.2) fun r10 =>
  bnd (oMv r8.1 r10.2) fun r11 =>
  bnd (oMv r9.1 r11.2) fun r12 =>
  bnd (oMv r10.1 r12.2) fun r13 =>
  bnd (oMv r13.1 r13.2) fun r14 =>
  bnd (oBin Tryd.prog .neq 28 false true r14.1 (.int .i64 0) r14.2) fun r15 =>
  vIf r15.1 (
    bnd (oMv r13.1 r15.2) fun r16 =>
    bnd (oMv (.slice none 0 0) r16.2) fun r17 =>
    bnd (oMv r16.1 r17.2) fun r18 =>
    oRes Tryd.prog [(r17.1, none), (r18.1, none)] r18.2) (
    bnd (oMv (.slice none 0 0) r15.2) fun r19 =>
    bnd (oMv r12.1 r19.2) fun r20 =>
    bnd (faO 0 r1.1 r20.2) fun r21 =>
    bnd (ldC r21.1 r21.2) fun r22 =>
    bnd (oBuiltin Tryd.prog .min #[3, 3] 3 #[false, false] [r20.1, r22.1] r22.2) fun r23 =>
    bnd (oMv (.int .i64 0) r23.2) fun r24 =>
    bnd (loopO (venue_Cover_L1 call) (rput (rput (rput (rput (rput (rput (rput (rput (rput (rput (rput (rput (rput (rput (rput (rput (rput (rput (rput (rput (rput (argGo 0 [x0, x1] PlanTab.blank) (some 2) r1.1) (some 4) r2.1) (some 5) r3.1) (some 12) r4.1) (some 13) r5.1) (some 14) r6.1) (some 11) r7.1) (some 15) r8.1) (some 16) r9.1) (some 17) r10.1) (some 6) r11.1) (some 7) r12.1) (some 8) r13.1) (some 18) r14.1) (some 19) r15.1) (some 9) r19.1) (some 21) r20.1) (some 22) r21.1) (some 23) r22.1) (some 24) r23.1) (some 25) r24.1) r24.2) fun r40 =>
    kExit 0 r40.1 (
      bnd (oMv (r40.2.1 9) r40.2.2) fun r41 =>
      bnd (call (fnV 58) [r41.1] r41.2) fun r42 =>
      bnd (oMv (r40.2.1 9) r42.2) fun r43 =>
      bnd (oMv r43.1 r43.2) fun r44 =>
      bnd (oMv (.int .i64 0) r44.2) fun r45 =>
      oRes Tryd.prog [(r44.1, none), (r45.1, none)] r45.2) (none))
theorem venue_Cover_eq (call : Eng.Callee) (x0 x1 : Value) (W : AW) : kFun Tryd.prog call 41 (cod 38) (rss 38) [x0, x1] W = venue_Cover call x0 x1 W := by kernel_rfl
theorem venue_Cover_om {x0 x1 : Value} {W : AW} {r : Value × AW} (h : venue_Cover omS x0 x1 W = some r) : omS (.func (.func 38) #[] #[]) [x0, x1] W = some (gc W r) := om_of (nt := 41) (n := 2) (by kernel_rfl) (by kernel_rfl) rfl ((venue_Cover_eq omS x0 x1 W).trans h)
noncomputable def venue_Lock (call : Eng.Callee) (x0 x1 : Value) (W : AW) : Option (Value × AW) :=
  bnd (oBox x0 W) fun r1 =>
  bnd (oMv (.int .i64 0) r1.2) fun r2 =>
  bnd (oMv (.int .i64 0) r2.2) fun r3 =>
  bnd (ldA 4 r1.1 r3.2) fun r4 =>
  bnd (oMv x1 r4.2) fun r5 =>
  bnd (call (fnV 32) [r4.1, r5.1] r5.2) fun r6 =>
  bnd (oMv r6.1 r6.2) fun r7 =>
  bnd (oExtract r7.1 0 r7.2) fun r8 =>
  bnd (oExtract r7.1 1 r8.2) fun r9 =>
  bnd (oExtract r7.1 2 r9.2) fun r10 =>
  bnd (oMv r8.1 r10.2) fun r11 =>
  bnd (oMv r9.1 r11.2) fun r12 =>
  bnd (oMv r10.1 r12.2) fun r13 =>
  bnd (oMv r13.1 r13.2) fun r14 =>
  bnd (oBin Tryd.prog .neq 28 false true r14.1 (.int .i64 0) r14.2) fun r15 =>
  vIf r15.1 (
    bnd (oMv r13.1 r15.2) fun r16 =>
    bnd (oMv (.int .i64 0) r16.2) fun r17 =>
    bnd (oMv r16.1 r17.2) fun r18 =>
    oRes Tryd.prog [(r17.1, none), (r18.1, none)] r18.2) (
    bnd (faO 0 r1.1 r15.2) fun r19 =>
    bnd (ldC r19.1 r19.2) fun r20 =>
    bnd (oMv x1 r20.2) fun r21 =>
    bnd (oBin Tryd.prog .add 3 false false r20.1 r21.1 r21.2) fun r22 =>
    bnd (oMv r22.1 r22.2) fun r23 =>
    bnd (oMv (.int .i64 0) r23.2) fun r24 =>
    oRes Tryd.prog [(r23.1, none), (r24.1, none)] r24.2)
theorem venue_Lock_eq (call : Eng.Callee) (x0 x1 : Value) (W : AW) : kFun Tryd.prog call 23 (cod 39) (rss 39) [x0, x1] W = venue_Lock call x0 x1 W := by kernel_rfl
theorem venue_Lock_om {x0 x1 : Value} {W : AW} {r : Value × AW} (h : venue_Lock omS x0 x1 W = some r) : omS (.func (.func 39) #[] #[]) [x0, x1] W = some (gc W r) := om_of (nt := 23) (n := 2) (by kernel_rfl) (by kernel_rfl) rfl ((venue_Lock_eq omS x0 x1 W).trans h)
noncomputable def venue_Check_L1_L2 (call : Eng.Callee) (R : Nat → Value) (W : AW) : Option LT :=
  bnd (oBin Tryd.prog .lss 3 false false (R 55) (R 54) W) fun r63 =>
  vIf r63.1 (
    bnd (ixS 1 (R 53) (R 55) r63.2) fun r64 =>
    bnd (ldC r64.1 r64.2) fun r65 =>
    bnd (oMv r65.1 r65.2) fun r66 =>
    bnd (oMv (R 4) r66.2) fun r67 =>
    bnd (oMv r66.1 r67.2) fun r68 =>
    bnd (oBin Tryd.prog .add 3 false false r67.1 r68.1 r68.2) fun r69 =>
    bnd (oMv r69.1 r69.2) fun r70 =>
    bnd (oBin Tryd.prog .add 3 false true (R 55) (.int .i64 1) r70.2) fun r71 =>
    bnd (oMv r71.1 r71.2) fun r72 =>
    some (X.normal, (rput (rput (rput (rput (rput (rput (rput (rput (rput (rput R (some 56) r63.1) (some 57) r64.1) (some 58) r65.1) (some 9) r66.1) (some 59) r67.1) (some 60) r68.1) (some 61) r69.1) (some 4) r70.1) (some 62) r71.1) (some 55) r72.1), r72.2)) (
    some (X.exit 3, (rput R (some 56) r63.1), r63.2))
noncomputable def venue_Check_L1 (call : Eng.Callee) (R : Nat → Value) (W : AW) : Option LT :=
  bnd (oBin Tryd.prog .lss 3 false false (R 37) (R 36) W) fun r39 =>
  vIf r39.1 (
    bnd (oMv (R 37) r39.2) fun r40 =>
    bnd (ixS 3 (R 35) (R 37) r40.2) fun r41 =>
    bnd (ldA 3 r41.1 r41.2) fun r42 =>
    bnd (oAlloc Tryd.prog 62 r42.2) fun r43 =>
    bnd (oMv r40.1 r43.2) fun r44 =>
    bnd (stV 3 r43.1 r42.1 r44.2) fun r45 =>
    bnd (ldA 3 r43.1 r45.2) fun r46 =>
    bnd (faO 3 (R 1) r46.2) fun r47 =>
    bnd (ldC r47.1 r47.2) fun r48 =>
    bnd (oMv r44.1 r48.2) fun r49 =>
    bnd (oSlice Tryd.prog 34 r48.1 none (some r49.1) none r49.2) fun r50 =>
    bnd (call (fnV 60) [r46.1, r50.1] r50.2) fun r51 =>
    bnd (oMv r51.1 r51.2) fun r52 =>
    bnd (oMv r52.1 r52.2) fun r53 =>
    bnd (oBin Tryd.prog .neq 28 false true r53.1 (.int .i64 0) r53.2) fun r54 =>
    vIf r54.1 (
      bnd (oMv r44.1 r54.2) fun r55 =>
      bnd (oMv r52.1 r55.2) fun r56 =>
      bnd (oMv r55.1 r56.2) fun r57 =>
      bnd (oMv r56.1 r57.2) fun r58 =>
      some (X.ret, (rput (rput (rput (rput (rput (rput (rput (rput (rput (rput (rput (rput (rput (rput (rput (rput (rput (rput (rput R (some 38) r39.1) (some 39) r40.1) (some 40) r41.1) (some 41) r42.1) (some 6) r43.1) (some 5) r44.1) (some 42) r46.1) (some 43) r47.1) (some 44) r48.1) (some 45) r49.1) (some 46) r50.1) (some 47) r51.1) (some 7) r52.1) (some 48) r53.1) (some 49) r54.1) (some 50) r55.1) (some 51) r56.1) (some 2) r57.1) (some 3) r58.1), r58.2)) (
      bnd (faO 1 r43.1 r54.2) fun r59 =>
      bnd (ldC r59.1 r59.2) fun r60 =>
      bnd (oBuiltin Tryd.prog .len #[38] 3 #[false] [r60.1] r60.2) fun r61 =>
      bnd (oMv (.int .i64 0) r61.2) fun r62 =>
      bnd (loopO (venue_Check_L1_L2 call) (rput (rput (rput (rput (rput (rput (rput (rput (rput (rput (rput (rput (rput (rput (rput (rput (rput (rput (rput R (some 38) r39.1) (some 39) r40.1) (some 40) r41.1) (some 41) r42.1) (some 6) r43.1) (some 5) r44.1) (some 42) r46.1) (some 43) r47.1) (some 44) r48.1) (some 45) r49.1) (some 46) r50.1) (some 47) r51.1) (some 7) r52.1) (some 48) r53.1) (some 49) r54.1) (some 52) r59.1) (some 53) r60.1) (some 54) r61.1) (some 55) r62.1) r62.2) fun r73 =>
      kExit 3 r73.1 (
        bnd (oBin Tryd.prog .add 3 false true (r73.2.1 37) (.int .i64 1) r73.2.2) fun r74 =>
        bnd (oMv r74.1 r74.2) fun r75 =>
        some (X.normal, (rput (rput r73.2.1 (some 63) r74.1) (some 37) r75.1), r75.2)) (none))) (
    some (X.exit 1, (rput R (some 38) r39.1), r39.2))
noncomputable def venue_Check (call : Eng.Callee) (x0 : Value) (W : AW) : Option (Value × AW) :=
  bnd (oBox x0 W) fun r1 =>
  bnd (oMv (.int .i64 0) r1.2) fun r2 =>
  bnd (oMv (.int .i64 0) r2.2) fun r3 =>
  bnd (faO 0 r1.1 r3.2) fun r4 =>
  bnd (ldC r4.1 r4.2) fun r5 =>
  bnd (call (fnV 56) [r5.1, (.int .i64 1), (.int .i64 16)] r5.2) fun r6 =>
  bnd (oMv r6.1 r6.2) fun r7 =>
  bnd (bIf (wnt r7.1 false) (faO 1 r1.1 r7.2) (some (undef, r7.2))) fun r8 =>
  bnd (bIf (wnt r7.1 false) (ldC r8.1 r8.2) (some (undef, r8.2))) fun r9 =>
  bnd (bIf (wnt r7.1 false) (call (fnV 59) [r9.1, (.int .i64 1), (.int .i64 1000000000)] r9.2) (some (undef, r9.2))) fun r10 =>
  bnd (oPick r7.1 (.bool true) r10.1 r10.2) fun r11 =>
  bnd (oMv r11.1 r11.2) fun r12 =>
  bnd (bIf (wnt r12.1 false) (faO 2 r1.1 r12.2) (some (undef, r12.2))) fun r13 =>
  bnd (bIf (wnt r12.1 false) (ldC r13.1 r13.2) (some (undef, r13.2))) fun r14 =>
  bnd (bIf (wnt r12.1 false) (call (fnV 59) [r14.1, (.int .i64 1), (.int .i64 1000000000)] r14.2) (some (undef, r14.2))) fun r15 =>
  bnd (oPick r12.1 (.bool true) r15.1 r15.2) fun r16 =>
  bnd (oMv r16.1 r16.2) fun r17 =>
  vIf r17.1 (
    bnd (oMv (.int .i64 (-1)) r17.2) fun r18 =>
    bnd (oMv (.int .i64 7) r18.2) fun r19 =>
    oRes Tryd.prog [(r18.1, none), (r19.1, none)] r19.2) (
    bnd (faO 3 r1.1 r17.2) fun r20 =>
    bnd (ldC r20.1 r20.2) fun r21 =>
    bnd (oBuiltin Tryd.prog .len #[34] 3 #[false] [r21.1] r21.2) fun r22 =>
    bnd (oBin Tryd.prog .eql 3 false true r22.1 (.int .i64 0) r22.2) fun r23 =>
    bnd (oMv r23.1 r23.2) fun r24 =>
    vIf r24.1 (
      bnd (oMv (.int .i64 (-1)) r24.2) fun r25 =>
      bnd (oMv (.int .i64 6) r25.2) fun r26 =>
      oRes Tryd.prog [(r25.1, none), (r26.1, none)] r26.2) (
      bnd (faO 3 r1.1 r24.2) fun r27 =>
      bnd (ldC r27.1 r27.2) fun r28 =>
      bnd (oBuiltin Tryd.prog .len #[34] 3 #[false] [r28.1] r28.2) fun r29 =>
      bnd (oBin Tryd.prog .gtr 3 false true r29.1 (.int .i64 8) r29.2) fun r30 =>
      bnd (oMv r30.1 r30.2) fun r31 =>
      vIf r31.1 (
        bnd (oMv (.int .i64 (-1)) r31.2) fun r32 =>
        bnd (oMv (.int .i64 3) r32.2) fun r33 =>
        oRes Tryd.prog [(r32.1, none), (r33.1, none)] r33.2) (
        bnd (oMv (.int .i64 0) r31.2) fun r34 =>
        bnd (faO 3 r1.1 r34.2) fun r35 =>
        bnd (ldC r35.1 r35.2) fun r36 =>
        bnd (oBuiltin Tryd.prog .len #[34] 3 #[false] [r36.1] r36.2) fun r37 =>
        bnd (oMv (.int .i64 0) r37.2) fun r38 =>
        bnd (loopO (venue_Check_L1 call) (rput (rput (rput (rput (rput (rput (rput (rput (rput (rput (rput (rput (rput (rput (rput (rput (rput (rput (rput (rput (rput (rput (rput (rput (rput (rput (rput (rput (rput (rput (rput (rput (argGo 0 [x0] PlanTab.blank) (some 1) r1.1) (some 2) r2.1) (some 3) r3.1) (some 11) r4.1) (some 12) r5.1) (some 13) r6.1) (some 14) r7.1) (some 15) r8.1) (some 16) r9.1) (some 17) r10.1) (some 18) r11.1) (some 19) r12.1) (some 20) r13.1) (some 21) r14.1) (some 22) r15.1) (some 23) r16.1) (some 10) r17.1) (some 25) r20.1) (some 26) r21.1) (some 27) r22.1) (some 28) r23.1) (some 24) r24.1) (some 30) r27.1) (some 31) r28.1) (some 32) r29.1) (some 33) r30.1) (some 29) r31.1) (some 4) r34.1) (some 34) r35.1) (some 35) r36.1) (some 36) r37.1) (some 37) r38.1) r38.2) fun r76 =>
        kExit 1 r76.1 (
          bnd (oMv (r76.2.1 4) r76.2.2) fun r77 =>
          bnd (oBin Tryd.prog .gtr 3 false true r77.1 (.int .i64 4096) r77.2) fun r78 =>
          vIf r78.1 (
            bnd (oMv (.int .i64 (-1)) r78.2) fun r79 =>
            bnd (oMv (.int .i64 3) r79.2) fun r80 =>
            oRes Tryd.prog [(r79.1, none), (r80.1, none)] r80.2) (
            bnd (oMv (.int .i64 0) r78.2) fun r81 =>
            bnd (oMv (.int .i64 0) r81.2) fun r82 =>
            oRes Tryd.prog [(r81.1, none), (r82.1, none)] r82.2)) (kRetX r76.1 (
          oRes Tryd.prog [((r76.2.1 2), none), ((r76.2.1 3), none)] r76.2.2)))))
theorem venue_Check_eq (call : Eng.Callee) (x0 : Value) (W : AW) : kFun Tryd.prog call 66 (cod 42) (rss 42) [x0] W = venue_Check call x0 W := by kernel_rfl
theorem venue_Check_om {x0 : Value} {W : AW} {r : Value × AW} (h : venue_Check omS x0 W = some r) : omS (.func (.func 42) #[] #[]) [x0] W = some (gc W r) := om_of (nt := 66) (n := 1) (by kernel_rfl) (by kernel_rfl) rfl ((venue_Check_eq omS x0 W).trans h)
noncomputable def venue_rows (call : Eng.Callee) (x0 : Value) (W : AW) : Option (Value × AW) :=
  bnd (oBox x0 W) fun r1 =>
  bnd (oMv .nilFunc r1.2) fun r2 =>
  bnd (oMkFunc (.func 73) #[] #[r1.1] r2.2) fun r3 =>
  bnd (oMv r3.1 r3.2) fun r4 =>
  oRes Tryd.prog [(r4.1, none)] r4.2
theorem venue_rows_eq (call : Eng.Callee) (x0 : Value) (W : AW) : kFun Tryd.prog call 4 (cod 55) (rss 55) [x0] W = venue_rows call x0 W := by kernel_rfl
theorem venue_rows_om {x0 : Value} {W : AW} {r : Value × AW} (h : venue_rows omS x0 W = some r) : omS (.func (.func 55) #[] #[]) [x0] W = some (gc W r) := om_of (nt := 4) (n := 1) (by kernel_rfl) (by kernel_rfl) rfl ((venue_rows_eq omS x0 W).trans h)
noncomputable def venue_outsideint (call : Eng.Callee) (x0 x1 x2 : Value) (W : AW) : Option (Value × AW) :=
  bnd (oMv (.bool false) W) fun r1 =>
  bnd (oMv x0 r1.2) fun r2 =>
  bnd (oMv x1 r2.2) fun r3 =>
  bnd (oBin Tryd.prog .lss 3 false false r2.1 r3.1 r3.2) fun r4 =>
  bnd (oMv r4.1 r4.2) fun r5 =>
  bnd (bIf (wnt r5.1 false) (oMv x0 r5.2) (some (undef, r5.2))) fun r6 =>
  bnd (bIf (wnt r5.1 false) (oMv x2 r6.2) (some (undef, r6.2))) fun r7 =>
  bnd (bIf (wnt r5.1 false) (oBin Tryd.prog .gtr 3 false false r6.1 r7.1 r7.2) (some (undef, r7.2))) fun r8 =>
  bnd (oPick r5.1 (.bool true) r8.1 r8.2) fun r9 =>
  bnd (oMv r9.1 r9.2) fun r10 =>
  oRes Tryd.prog [(r10.1, none)] r10.2
theorem venue_outsideint_eq (call : Eng.Callee) (x0 x1 x2 : Value) (W : AW) : kFun Tryd.prog call 15 (cod 56) (rss 56) [x0, x1, x2] W = venue_outsideint call x0 x1 x2 W := by kernel_rfl
theorem venue_outsideint_om {x0 x1 x2 : Value} {W : AW} {r : Value × AW} (h : venue_outsideint omS x0 x1 x2 W = some r) : omS (.func (.func 56) #[] #[]) [x0, x1, x2] W = some (gc W r) := om_of (nt := 15) (n := 3) (by kernel_rfl) (by kernel_rfl) rfl ((venue_outsideint_eq omS x0 x1 x2 W).trans h)
noncomputable def venue_find_Y1a (call : Eng.Callee) (R : Nat → Value) (W : AW) : Option LT :=
  bnd (oAlloc Tryd.prog 92 W) fun r20 =>
  bnd (stV 4 r20.1 (R 20) r20.2) fun r21 =>
  some (X.normal, (rput R (some 8) r20.1), r21.2)
theorem venue_find_Y1a_eq (call : Eng.Callee) (R : Nat → Value) (W : AW) : kCode Tryd.prog call false 36 (cAt [1, 1, 0, 1, 0, 0] (cod 57)) LT R W ret3 = venue_find_Y1a call R W := by kernel_rfl
noncomputable def venue_find_Y1b (call : Eng.Callee) (R : Nat → Value) (W : AW) : Option LT :=
  bnd (ldC (R 3) W) fun r22 =>
  bnd (faO 2 (R 8) r22.2) fun r23 =>
  bnd (ldC r23.1 r23.2) fun r24 =>
  bnd (oBin Tryd.prog .geq 3 false false r22.1 r24.1 r24.2) fun r25 =>
  bnd (oMv r25.1 r25.2) fun r26 =>
  bnd (bIf (wnt r26.1 true) (ldC (R 3) r26.2) (some (undef, r26.2))) fun r27 =>
  bnd (bIf (wnt r26.1 true) (faO 2 (R 8) r27.2) (some (undef, r27.2))) fun r28 =>
  bnd (bIf (wnt r26.1 true) (ldC r28.1 r28.2) (some (undef, r28.2))) fun r29 =>
  bnd (bIf (wnt r26.1 true) (faO 3 (R 8) r29.2) (some (undef, r29.2))) fun r30 =>
  bnd (bIf (wnt r26.1 true) (ldC r30.1 r30.2) (some (undef, r30.2))) fun r31 =>
  bnd (bIf (wnt r26.1 true) (oBin Tryd.prog .add 3 false false r29.1 r31.1 r31.2) (some (undef, r31.2))) fun r32 =>
  bnd (bIf (wnt r26.1 true) (oBin Tryd.prog .lss 3 false false r27.1 r32.1 r32.2) (some (undef, r32.2))) fun r33 =>
  bnd (oPick r26.1 r33.1 (.bool false) r33.2) fun r34 =>
  vIf r34.1 (
    bnd (ldA 4 (R 8) r34.2) fun r35 =>
    bnd (stV 4 (R 4) r35.1 r35.2) fun r36 =>
    bnd (stV 1 (R 5) (.int .i64 0) r36.2) fun r37 =>
    some (X.ret, (rput (rput (rput (rput (rput (rput (rput (rput (rput (rput (rput (rput (rput (rput R (some 21) r22.1) (some 22) r23.1) (some 23) r24.1) (some 24) r25.1) (some 25) r26.1) (some 26) r27.1) (some 27) r28.1) (some 28) r29.1) (some 29) r30.1) (some 30) r31.1) (some 31) r32.1) (some 32) r33.1) (some 33) r34.1) (some 34) r35.1), r37.2)) (
    some (X.normal, (rput (rput (rput (rput (rput (rput (rput (rput (rput (rput (rput (rput (rput R (some 21) r22.1) (some 22) r23.1) (some 23) r24.1) (some 24) r25.1) (some 25) r26.1) (some 26) r27.1) (some 27) r28.1) (some 28) r29.1) (some 29) r30.1) (some 30) r31.1) (some 31) r32.1) (some 32) r33.1) (some 33) r34.1), r34.2))
theorem venue_find_Y1b_eq (call : Eng.Callee) (R : Nat → Value) (W : AW) : kCode Tryd.prog call false 36 (cAt [1, 1, 0, 1, 0, 1] (cod 57)) LT R W ret3 = venue_find_Y1b call R W := by kernel_rfl
noncomputable def venue_find (call : Eng.Callee) (x0 x1 : Value) (W : AW) : Option (Value × AW) :=
  bnd (oBox x0 W) fun r1 =>
  bnd (oBox x1 r1.2) fun r2 =>
  bnd (oAlloc Tryd.prog 92 r2.2) fun r3 =>
  bnd (oAlloc Tryd.prog 28 r3.2) fun r4 =>
  bnd (ldA 4 r1.1 r4.2) fun r5 =>
  bnd (call (fnV 42) [r5.1] r5.2) fun r6 =>
  bnd (oMv r6.1 r6.2) fun r7 =>
  bnd (oExtract r7.1 0 r7.2) fun r8 =>
  bnd (oExtract r7.1 1 r8.2) fun r9 =>
  bnd (oMv r8.1 r9.2) fun r10 =>
  bnd (oMv r9.1 r10.2) fun r11 =>
  bnd (oMv r11.1 r11.2) fun r12 =>
  bnd (oBin Tryd.prog .neq 28 false true r12.1 (.int .i64 0) r12.2) fun r13 =>
  vIf r13.1 (
    bnd (oBuild Tryd.prog 92 [] r13.2) fun r14 =>
    bnd (oMv r11.1 r14.2) fun r15 =>
    bnd (stV 4 r3.1 r14.1 r15.2) fun r16 =>
    bnd (stV 1 r4.1 r15.1 r16.2) fun r17 =>
    oRes Tryd.prog [(r3.1, some 92), (r4.1, some 28)] r17.2) (
    bnd (ldA 4 r1.1 r13.2) fun r18 =>
    bnd (call (fnV 55) [r18.1] r18.2) fun r19 =>
    bnd (oRange call r19.1 (.loop .ready none (rput (rput (rput (rput (rput (rput (rput (rput (rput (rput (rput (rput (rput (rput (rput (argGo 0 [x0, x1] PlanTab.blank) (some 2) r1.1) (some 3) r2.1) (some 4) r3.1) (some 5) r4.1) (some 10) r5.1) (some 11) r6.1) (some 9) r7.1) (some 12) r8.1) (some 13) r9.1) (some 6) r10.1) (some 7) r11.1) (some 14) r12.1) (some 15) r13.1) (some 18) r18.1) (some 19) r19.1) 36 #[20] (cAt [1, 1, 0, 1, 0, 0] (cod 57)) (cAt [1, 1, 0, 1, 0, 1] (cod 57))) r19.2) fun r38 =>
    kNorm r38.1 (
      bnd (oBuild Tryd.prog 92 [] r38.2) fun r39 =>
      bnd (stV 4 r3.1 r39.1 r39.2) fun r40 =>
      bnd (stV 1 r4.1 (.int .i64 4) r40.2) fun r41 =>
      oRes Tryd.prog [(r3.1, some 92), (r4.1, some 28)] r41.2) (kRetX r38.1 (
      oRes Tryd.prog [(r3.1, some 92), (r4.1, some 28)] r38.2)))
theorem venue_find_eq (call : Eng.Callee) (x0 x1 : Value) (W : AW) : kFun Tryd.prog call 36 (cod 57) (rss 57) [x0, x1] W = venue_find call x0 x1 W := by kernel_rfl
theorem venue_find_om {x0 x1 : Value} {W : AW} {r : Value × AW} (h : venue_find omS x0 x1 W = some r) : omS (.func (.func 57) #[] #[]) [x0, x1] W = some (gc W r) := om_of (nt := 36) (n := 2) (by kernel_rfl) (by kernel_rfl) rfl ((venue_find_eq omS x0 x1 W).trans h)
noncomputable def venue_outsideint64 (call : Eng.Callee) (x0 x1 x2 : Value) (W : AW) : Option (Value × AW) :=
  bnd (oMv (.bool false) W) fun r1 =>
  bnd (oMv x0 r1.2) fun r2 =>
  bnd (oMv x1 r2.2) fun r3 =>
  bnd (oBin Tryd.prog .lss 2 false false r2.1 r3.1 r3.2) fun r4 =>
  bnd (oMv r4.1 r4.2) fun r5 =>
  bnd (bIf (wnt r5.1 false) (oMv x0 r5.2) (some (undef, r5.2))) fun r6 =>
  bnd (bIf (wnt r5.1 false) (oMv x2 r6.2) (some (undef, r6.2))) fun r7 =>
  bnd (bIf (wnt r5.1 false) (oBin Tryd.prog .gtr 2 false false r6.1 r7.1 r7.2) (some (undef, r7.2))) fun r8 =>
  bnd (oPick r5.1 (.bool true) r8.1 r8.2) fun r9 =>
  bnd (oMv r9.1 r9.2) fun r10 =>
  oRes Tryd.prog [(r10.1, none)] r10.2
theorem venue_outsideint64_eq (call : Eng.Callee) (x0 x1 x2 : Value) (W : AW) : kFun Tryd.prog call 15 (cod 59) (rss 59) [x0, x1, x2] W = venue_outsideint64 call x0 x1 x2 W := by kernel_rfl
theorem venue_outsideint64_om {x0 x1 x2 : Value} {W : AW} {r : Value × AW} (h : venue_outsideint64 omS x0 x1 x2 W = some r) : omS (.func (.func 59) #[] #[]) [x0, x1, x2] W = some (gc W r) := om_of (nt := 15) (n := 3) (by kernel_rfl) (by kernel_rfl) rfl ((venue_outsideint64_eq omS x0 x1 x2 W).trans h)
noncomputable def venue_check (call : Eng.Callee) (x0 x1 : Value) (W : AW) : Option (Value × AW) :=
  bnd (oBox x0 W) fun r1 =>
  bnd (oMv (.int .i64 0) r1.2) fun r2 =>
  bnd (faO 0 r1.1 r2.2) fun r3 =>
  bnd (ldC r3.1 r3.2) fun r4 =>
  bnd (call (fnV 76) [r4.1] r4.2) fun r5 =>
  bnd (oUn Tryd.prog .not r5.1 r5.2) fun r6 =>
  bnd (oMv r6.1 r6.2) fun r7 =>
  vIf r7.1 (
    bnd (oMv (.int .i64 6) r7.2) fun r8 =>
    oRes Tryd.prog [(r8.1, none)] r8.2) (
    bnd (oMv x1 r7.2) fun r9 =>
    bnd (oMkFunc (.func 78) #[] #[r1.1] r9.2) fun r10 =>
    bnd (call (fnV 77) [r9.1, r10.1] r10.2) fun r11 =>
    bnd (oMv r11.1 r11.2) fun r12 =>
    vIf r12.1 (
      bnd (oMv (.int .i64 8) r12.2) fun r13 =>
      oRes Tryd.prog [(r13.1, none)] r13.2) (
      bnd (faO 1 r1.1 r12.2) fun r14 =>
      bnd (ldC r14.1 r14.2) fun r15 =>
      bnd (oBuiltin Tryd.prog .len #[38] 3 #[false] [r15.1] r15.2) fun r16 =>
      bnd (oBin Tryd.prog .eql 3 false true r16.1 (.int .i64 0) r16.2) fun r17 =>
      bnd (oMv r17.1 r17.2) fun r18 =>
      vIf r18.1 (
        bnd (oMv (.int .i64 6) r18.2) fun r19 =>
        oRes Tryd.prog [(r19.1, none)] r19.2) (
        bnd (faO 1 r1.1 r18.2) fun r20 =>
        bnd (ldC r20.1 r20.2) fun r21 =>
        bnd (oBuiltin Tryd.prog .len #[38] 3 #[false] [r21.1] r21.2) fun r22 =>
        bnd (oBin Tryd.prog .gtr 3 false true r22.1 (.int .i64 16) r22.2) fun r23 =>
        bnd (oMv r23.1 r23.2) fun r24 =>
        vIf r24.1 (
          bnd (oMv (.int .i64 3) r24.2) fun r25 =>
          oRes Tryd.prog [(r25.1, none)] r25.2) (
          bnd (faO 1 r1.1 r24.2) fun r26 =>
          bnd (ldC r26.1 r26.2) fun r27 =>
          bnd (call (fnV 79) [r27.1, (fnV 80)] r27.2) fun r28 =>
          bnd (oMv r28.1 r28.2) fun r29 =>
          vIf r29.1 (
            bnd (oMv (.int .i64 7) r29.2) fun r30 =>
            oRes Tryd.prog [(r30.1, none)] r30.2) (
            bnd (faO 2 r1.1 r29.2) fun r31 =>
            bnd (ldC r31.1 r31.2) fun r32 =>
            bnd (call (fnV 56) [r32.1, (.int .i64 0), (.int .i64 64)] r32.2) fun r33 =>
            bnd (oMv r33.1 r33.2) fun r34 =>
            vIf r34.1 (
              bnd (oMv (.int .i64 7) r34.2) fun r35 =>
              oRes Tryd.prog [(r35.1, none)] r35.2) (
              bnd (oMv (.int .i64 0) r34.2) fun r36 =>
              oRes Tryd.prog [(r36.1, none)] r36.2))))))
theorem venue_check_eq (call : Eng.Callee) (x0 x1 : Value) (W : AW) : kFun Tryd.prog call 32 (cod 60) (rss 60) [x0, x1] W = venue_check call x0 x1 W := by kernel_rfl
theorem venue_check_om {x0 x1 : Value} {W : AW} {r : Value × AW} (h : venue_check omS x0 x1 W = some r) : omS (.func (.func 60) #[] #[]) [x0, x1] W = some (gc W r) := om_of (nt := 32) (n := 2) (by kernel_rfl) (by kernel_rfl) rfl ((venue_check_eq omS x0 x1 W).trans h)
noncomputable def venue_rows_1_L1_L2 (call : Eng.Callee) (R : Nat → Value) (W : AW) : Option LT :=
  bnd (oBin Tryd.prog .lss 3 false false (R 19) (R 18) W) fun r17 =>
  vIf r17.1 (
    bnd (oMv (R 19) r17.2) fun r18 =>
    bnd (ixS 1 (R 17) (R 19) r18.2) fun r19 =>
    bnd (ldC r19.1 r19.2) fun r20 =>
    bnd (oMv r18.1 r20.2) fun r21 =>
    bnd (oMv r20.1 r21.2) fun r22 =>
    bnd (oMv (R 0) r22.2) fun r23 =>
    bnd (oMv (R 4) r23.2) fun r24 =>
    bnd (oMv r21.1 r24.2) fun r25 =>
    bnd (oMv (R 3) r25.2) fun r26 =>
    bnd (oMv r22.1 r26.2) fun r27 =>
    bnd (oBuild Tryd.prog 92 [(0, r24.1), (1, r25.1), (2, r26.1), (3, r27.1)] r27.2) fun r28 =>
    bnd (call r23.1 [r28.1] r28.2) fun r29 =>
    bnd (oUn Tryd.prog .not r29.1 r29.2) fun r30 =>
    vIf r30.1 (
      some (X.ret, (rput (rput (rput (rput (rput (rput (rput (rput (rput (rput (rput (rput (rput (rput R (some 20) r17.1) (some 21) r18.1) (some 22) r19.1) (some 23) r20.1) (some 6) r21.1) (some 7) r22.1) (some 24) r23.1) (some 25) r24.1) (some 26) r25.1) (some 27) r26.1) (some 28) r27.1) (some 29) r28.1) (some 30) r29.1) (some 31) r30.1), r30.2)) (
      bnd (oMv (R 3) r30.2) fun r31 =>
      bnd (oMv r22.1 r31.2) fun r32 =>
      bnd (oBin Tryd.prog .add 3 false false r31.1 r32.1 r32.2) fun r33 =>
      bnd (oMv r33.1 r33.2) fun r34 =>
      bnd (oBin Tryd.prog .add 3 false true (R 19) (.int .i64 1) r34.2) fun r35 =>
      bnd (oMv r35.1 r35.2) fun r36 =>
      some (X.normal, (rput (rput (rput (rput (rput (rput (rput (rput (rput (rput (rput (rput (rput (rput (rput (rput (rput (rput (rput (rput R (some 20) r17.1) (some 21) r18.1) (some 22) r19.1) (some 23) r20.1) (some 6) r21.1) (some 7) r22.1) (some 24) r23.1) (some 25) r24.1) (some 26) r25.1) (some 27) r26.1) (some 28) r27.1) (some 29) r28.1) (some 30) r29.1) (some 31) r30.1) (some 32) r31.1) (some 33) r32.1) (some 34) r33.1) (some 3) r34.1) (some 35) r35.1) (some 19) r36.1), r36.2))) (
    some (X.exit 2, (rput R (some 20) r17.1), r17.2))
noncomputable def venue_rows_1_L1 (call : Eng.Callee) (R : Nat → Value) (W : AW) : Option LT :=
  bnd (oBin Tryd.prog .lss 3 false false (R 11) (R 10) W) fun r6 =>
  vIf r6.1 (
    bnd (oMv (R 11) r6.2) fun r7 =>
    bnd (ixS 3 (R 9) (R 11) r7.2) fun r8 =>
    bnd (ldA 3 r8.1 r8.2) fun r9 =>
    bnd (oAlloc Tryd.prog 62 r9.2) fun r10 =>
    bnd (oMv r7.1 r10.2) fun r11 =>
    bnd (stV 3 r10.1 r9.1 r11.2) fun r12 =>
    bnd (faO 1 r10.1 r12.2) fun r13 =>
    bnd (ldC r13.1 r13.2) fun r14 =>
    bnd (oBuiltin Tryd.prog .len #[38] 3 #[false] [r14.1] r14.2) fun r15 =>
    bnd (oMv (.int .i64 0) r15.2) fun r16 =>
    bnd (loopO (venue_rows_1_L1_L2 call) (rput (rput (rput (rput (rput (rput (rput (rput (rput (rput R (some 12) r6.1) (some 13) r7.1) (some 14) r8.1) (some 15) r9.1) (some 5) r10.1) (some 4) r11.1) (some 16) r13.1) (some 17) r14.1) (some 18) r15.1) (some 19) r16.1) r16.2) fun r37 =>
    kExit 2 r37.1 (
      bnd (oBin Tryd.prog .add 3 false true (r37.2.1 11) (.int .i64 1) r37.2.2) fun r38 =>
      bnd (oMv r38.1 r38.2) fun r39 =>
      some (X.normal, (rput (rput r37.2.1 (some 36) r38.1) (some 11) r39.1), r39.2)) (kRetX r37.1 (
      some (X.ret, r37.2.1, r37.2.2)))) (
    some (X.exit 0, (rput R (some 12) r6.1), r6.2))
noncomputable def venue_rows_1 (call : Eng.Callee) (x0 x1 : Value) (W : AW) : Option (Value × AW) :=
  bnd (oMv (.int .i64 0) W) fun r1 =>
  bnd (faO 3 x1 r1.2) fun r2 =>
  bnd (ldC r2.1 r2.2) fun r3 =>
  bnd (oBuiltin Tryd.prog .len #[34] 3 #[false] [r3.1] r3.2) fun r4 =>
  bnd (oMv (.int .i64 0) r4.2) fun r5 =>
  bnd (loopO (venue_rows_1_L1 call) (rput (rput (rput (rput (rput (argGo 0 [x0, x1] PlanTab.blank) (some 3) r1.1) (some 8) r2.1) (some 9) r3.1) (some 10) r4.1) (some 11) r5.1) r5.2) fun r40 =>
  kExit 0 r40.1 (
    oRes Tryd.prog [] r40.2.2) (kRetX r40.1 (
    oRes Tryd.prog [] r40.2.2))
theorem venue_rows_1_eq (call : Eng.Callee) (x0 x1 : Value) (W : AW) : kFun Tryd.prog call 37 (cod 73) (rss 73) [x0, x1] W = venue_rows_1 call x0 x1 W := by kernel_rfl
theorem venue_rows_1_om {x0 x1 : Value} {W : AW} {r : Value × AW} (h : venue_rows_1 omS x0 x1 W = some r) : omS (.func (.func 73) #[] #[x1]) [x0] W = some (gc W r) := om_of (nt := 37) (n := 2) (by kernel_rfl) (by kernel_rfl) rfl ((venue_rows_1_eq omS x0 x1 W).trans h)
noncomputable def slices_ContainsFuncapi_VnSectionapi_VnSection (call : Eng.Callee) (x0 x1 : Value) (W : AW) : Option (Value × AW) :=
  bnd (oMv (.bool false) W) fun r1 =>
  bnd (oMv x0 r1.2) fun r2 =>
  bnd (oMv x1 r2.2) fun r3 =>
  bnd (call (fnV 99) [r2.1, r3.1] r3.2) fun r4 =>
  bnd (oBin Tryd.prog .geq 3 false true r4.1 (.int .i64 0) r4.2) fun r5 =>
  bnd (oMv r5.1 r5.2) fun r6 =>
  oRes Tryd.prog [(r6.1, none)] r6.2
theorem slices_ContainsFuncapi_VnSectionapi_VnSection_eq (call : Eng.Callee) (x0 x1 : Value) (W : AW) : kFun Tryd.prog call 9 (cod 77) (rss 77) [x0, x1] W = slices_ContainsFuncapi_VnSectionapi_VnSection call x0 x1 W := by kernel_rfl
theorem slices_ContainsFuncapi_VnSectionapi_VnSection_om {x0 x1 : Value} {W : AW} {r : Value × AW} (h : slices_ContainsFuncapi_VnSectionapi_VnSection omS x0 x1 W = some r) : omS (.func (.func 77) #[] #[]) [x0, x1] W = some (gc W r) := om_of (nt := 9) (n := 2) (by kernel_rfl) (by kernel_rfl) rfl ((slices_ContainsFuncapi_VnSectionapi_VnSection_eq omS x0 x1 W).trans h)
noncomputable def venue_check_1 (call : Eng.Callee) (x0 x1 : Value) (W : AW) : Option (Value × AW) :=
  bnd (oBox x0 W) fun r1 =>
  bnd (oMv (.bool false) r1.2) fun r2 =>
  bnd (faO 0 r1.1 r2.2) fun r3 =>
  bnd (ldC r3.1 r3.2) fun r4 =>
  bnd (faO 0 x1 r4.2) fun r5 =>
  bnd (ldC r5.1 r5.2) fun r6 =>
  bnd (oBin Tryd.prog .eql 9 false false r4.1 r6.1 r6.2) fun r7 =>
  bnd (oMv r7.1 r7.2) fun r8 =>
  oRes Tryd.prog [(r8.1, none)] r8.2
theorem venue_check_1_eq (call : Eng.Callee) (x0 x1 : Value) (W : AW) : kFun Tryd.prog call 9 (cod 78) (rss 78) [x0, x1] W = venue_check_1 call x0 x1 W := by kernel_rfl
theorem venue_check_1_om {x0 x1 : Value} {W : AW} {r : Value × AW} (h : venue_check_1 omS x0 x1 W = some r) : omS (.func (.func 78) #[] #[x1]) [x0] W = some (gc W r) := om_of (nt := 9) (n := 2) (by kernel_rfl) (by kernel_rfl) rfl ((venue_check_1_eq omS x0 x1 W).trans h)
noncomputable def slices_ContainsFuncintint (call : Eng.Callee) (x0 x1 : Value) (W : AW) : Option (Value × AW) :=
  bnd (oMv (.bool false) W) fun r1 =>
  bnd (oMv x0 r1.2) fun r2 =>
  bnd (oMv x1 r2.2) fun r3 =>
  bnd (call (fnV 100) [r2.1, r3.1] r3.2) fun r4 =>
  bnd (oBin Tryd.prog .geq 3 false true r4.1 (.int .i64 0) r4.2) fun r5 =>
  bnd (oMv r5.1 r5.2) fun r6 =>
  oRes Tryd.prog [(r6.1, none)] r6.2
theorem slices_ContainsFuncintint_eq (call : Eng.Callee) (x0 x1 : Value) (W : AW) : kFun Tryd.prog call 9 (cod 79) (rss 79) [x0, x1] W = slices_ContainsFuncintint call x0 x1 W := by kernel_rfl
theorem slices_ContainsFuncintint_om {x0 x1 : Value} {W : AW} {r : Value × AW} (h : slices_ContainsFuncintint omS x0 x1 W = some r) : omS (.func (.func 79) #[] #[]) [x0, x1] W = some (gc W r) := om_of (nt := 9) (n := 2) (by kernel_rfl) (by kernel_rfl) rfl ((slices_ContainsFuncintint_eq omS x0 x1 W).trans h)
noncomputable def venue_check_2 (call : Eng.Callee) (x0 : Value) (W : AW) : Option (Value × AW) :=
  bnd (oMv (.bool false) W) fun r1 =>
  bnd (oMv x0 r1.2) fun r2 =>
  bnd (call (fnV 56) [r2.1, (.int .i64 1), (.int .i64 64)] r2.2) fun r3 =>
  bnd (oMv r3.1 r3.2) fun r4 =>
  oRes Tryd.prog [(r4.1, none)] r4.2
theorem venue_check_2_eq (call : Eng.Callee) (x0 : Value) (W : AW) : kFun Tryd.prog call 5 (cod 80) (rss 80) [x0] W = venue_check_2 call x0 W := by kernel_rfl
theorem venue_check_2_om {x0 : Value} {W : AW} {r : Value × AW} (h : venue_check_2 omS x0 W = some r) : omS (.func (.func 80) #[] #[]) [x0] W = some (gc W r) := om_of (nt := 5) (n := 1) (by kernel_rfl) (by kernel_rfl) rfl ((venue_check_2_eq omS x0 W).trans h)
noncomputable def slices_IndexFuncapi_VnSectionapi_VnSection_L1 (call : Eng.Callee) (R : Nat → Value) (W : AW) : Option LT :=
  bnd (oBin Tryd.prog .lss 3 false false (R 8) (R 7) W) fun r5 =>
  vIf r5.1 (
    bnd (oMv (R 8) r5.2) fun r6 =>
    bnd (oMv r6.1 r6.2) fun r7 =>
    bnd (oMv (R 1) r7.2) fun r8 =>
    bnd (oMv (R 0) r8.2) fun r9 =>
    bnd (oMv r7.1 r9.2) fun r10 =>
    bnd (ixS 3 r9.1 r10.1 r10.2) fun r11 =>
    bnd (ldA 3 r11.1 r11.2) fun r12 =>
    bnd (call r8.1 [r12.1] r12.2) fun r13 =>
    vIf r13.1 (
      bnd (oMv r7.1 r13.2) fun r14 =>
      bnd (oMv r14.1 r14.2) fun r15 =>
      some (X.ret, (rput (rput (rput (rput (rput (rput (rput (rput (rput (rput (rput R (some 9) r5.1) (some 10) r6.1) (some 5) r7.1) (some 11) r8.1) (some 12) r9.1) (some 13) r10.1) (some 14) r11.1) (some 15) r12.1) (some 16) r13.1) (some 17) r14.1) (some 4) r15.1), r15.2)) (
      bnd (oBin Tryd.prog .add 3 false true (R 8) (.int .i64 1) r13.2) fun r16 =>
      bnd (oMv r16.1 r16.2) fun r17 =>
      some (X.normal, (rput (rput (rput (rput (rput (rput (rput (rput (rput (rput (rput R (some 9) r5.1) (some 10) r6.1) (some 5) r7.1) (some 11) r8.1) (some 12) r9.1) (some 13) r10.1) (some 14) r11.1) (some 15) r12.1) (some 16) r13.1) (some 18) r16.1) (some 8) r17.1), r17.2))) (
    some (X.exit 0, (rput R (some 9) r5.1), r5.2))
noncomputable def slices_IndexFuncapi_VnSectionapi_VnSection (call : Eng.Callee) (x0 x1 : Value) (W : AW) : Option (Value × AW) :=
  bnd (oMv (.int .i64 0) W) fun r1 =>
  bnd (oMv x0 r1.2) fun r2 =>
  bnd (oBuiltin Tryd.prog .len #[34] 3 #[false] [r2.1] r2.2) fun r3 =>
  bnd (oMv (.int .i64 0) r3.2) fun r4 =>
  bnd (loopO (slices_IndexFuncapi_VnSectionapi_VnSection_L1 call) (rput (rput (rput (rput (argGo 0 [x0, x1] PlanTab.blank) (some 4) r1.1) (some 6) r2.1) (some 7) r3.1) (some 8) r4.1) r4.2) fun r18 =>
  kExit 0 r18.1 (
    bnd (oMv (.int .i64 (-1)) r18.2.2) fun r19 =>
    oRes Tryd.prog [(r19.1, none)] r19.2) (kRetX r18.1 (
    oRes Tryd.prog [((r18.2.1 4), none)] r18.2.2))
theorem slices_IndexFuncapi_VnSectionapi_VnSection_eq (call : Eng.Callee) (x0 x1 : Value) (W : AW) : kFun Tryd.prog call 19 (cod 99) (rss 99) [x0, x1] W = slices_IndexFuncapi_VnSectionapi_VnSection call x0 x1 W := by kernel_rfl
theorem slices_IndexFuncapi_VnSectionapi_VnSection_om {x0 x1 : Value} {W : AW} {r : Value × AW} (h : slices_IndexFuncapi_VnSectionapi_VnSection omS x0 x1 W = some r) : omS (.func (.func 99) #[] #[]) [x0, x1] W = some (gc W r) := om_of (nt := 19) (n := 2) (by kernel_rfl) (by kernel_rfl) rfl ((slices_IndexFuncapi_VnSectionapi_VnSection_eq omS x0 x1 W).trans h)
noncomputable def slices_IndexFuncintint_L1 (call : Eng.Callee) (R : Nat → Value) (W : AW) : Option LT :=
  bnd (oBin Tryd.prog .lss 3 false false (R 8) (R 7) W) fun r5 =>
  vIf r5.1 (
    bnd (oMv (R 8) r5.2) fun r6 =>
    bnd (oMv r6.1 r6.2) fun r7 =>
    bnd (oMv (R 1) r7.2) fun r8 =>
    bnd (oMv (R 0) r8.2) fun r9 =>
    bnd (oMv r7.1 r9.2) fun r10 =>
    bnd (ixS 1 r9.1 r10.1 r10.2) fun r11 =>
    bnd (ldC r11.1 r11.2) fun r12 =>
    bnd (call r8.1 [r12.1] r12.2) fun r13 =>
    vIf r13.1 (
      bnd (oMv r7.1 r13.2) fun r14 =>
      bnd (oMv r14.1 r14.2) fun r15 =>
      some (X.ret, (rput (rput (rput (rput (rput (rput (rput (rput (rput (rput (rput R (some 9) r5.1) (some 10) r6.1) (some 5) r7.1) (some 11) r8.1) (some 12) r9.1) (some 13) r10.1) (some 14) r11.1) (some 15) r12.1) (some 16) r13.1) (some 17) r14.1) (some 4) r15.1), r15.2)) (
      bnd (oBin Tryd.prog .add 3 false true (R 8) (.int .i64 1) r13.2) fun r16 =>
      bnd (oMv r16.1 r16.2) fun r17 =>
      some (X.normal, (rput (rput (rput (rput (rput (rput (rput (rput (rput (rput (rput R (some 9) r5.1) (some 10) r6.1) (some 5) r7.1) (some 11) r8.1) (some 12) r9.1) (some 13) r10.1) (some 14) r11.1) (some 15) r12.1) (some 16) r13.1) (some 18) r16.1) (some 8) r17.1), r17.2))) (
    some (X.exit 0, (rput R (some 9) r5.1), r5.2))
noncomputable def slices_IndexFuncintint (call : Eng.Callee) (x0 x1 : Value) (W : AW) : Option (Value × AW) :=
  bnd (oMv (.int .i64 0) W) fun r1 =>
  bnd (oMv x0 r1.2) fun r2 =>
  bnd (oBuiltin Tryd.prog .len #[38] 3 #[false] [r2.1] r2.2) fun r3 =>
  bnd (oMv (.int .i64 0) r3.2) fun r4 =>
  bnd (loopO (slices_IndexFuncintint_L1 call) (rput (rput (rput (rput (argGo 0 [x0, x1] PlanTab.blank) (some 4) r1.1) (some 6) r2.1) (some 7) r3.1) (some 8) r4.1) r4.2) fun r18 =>
  kExit 0 r18.1 (
    bnd (oMv (.int .i64 (-1)) r18.2.2) fun r19 =>
    oRes Tryd.prog [(r19.1, none)] r19.2) (kRetX r18.1 (
    oRes Tryd.prog [((r18.2.1 4), none)] r18.2.2))
theorem slices_IndexFuncintint_eq (call : Eng.Callee) (x0 x1 : Value) (W : AW) : kFun Tryd.prog call 19 (cod 100) (rss 100) [x0, x1] W = slices_IndexFuncintint call x0 x1 W := by kernel_rfl
theorem slices_IndexFuncintint_om {x0 x1 : Value} {W : AW} {r : Value × AW} (h : slices_IndexFuncintint omS x0 x1 W = some r) : omS (.func (.func 100) #[] #[]) [x0, x1] W = some (gc W r) := om_of (nt := 19) (n := 2) (by kernel_rfl) (by kernel_rfl) rfl ((slices_IndexFuncintint_eq omS x0 x1 W).trans h)
noncomputable def words_Name (call : Eng.Callee) (x0 : Value) (W : AW) : Option (Value × AW) :=
  bnd (oMv (.bool false) W) fun r1 =>
  bnd (oMv x0 r1.2) fun r2 =>
  bnd (oBin Tryd.prog .eql 9 false true r2.1 (strV []) r2.2) fun r3 =>
  bnd (oMv r3.1 r3.2) fun r4 =>
  bnd (bIf (wnt r4.1 false) (oMv x0 r4.2) (some (undef, r4.2))) fun r5 =>
  bnd (bIf (wnt r4.1 false) (oBuiltin Tryd.prog .len #[9] 3 #[false] [r5.1] r5.2) (some (undef, r5.2))) fun r6 =>
  bnd (bIf (wnt r4.1 false) (oBin Tryd.prog .gtr 3 false true r6.1 (.int .i64 16) r6.2) (some (undef, r6.2))) fun r7 =>
  bnd (oPick r4.1 (.bool true) r7.1 r7.2) fun r8 =>
  bnd (oMv r8.1 r8.2) fun r9 =>
  bnd (bIf (wnt r9.1 false) (oMv x0 r9.2) (some (undef, r9.2))) fun r10 =>
  bnd (bIf (wnt r9.1 false) (oIndex Tryd.prog 9 r10.1 (.int .i64 0) r10.2) (some (undef, r10.2))) fun r11 =>
  bnd (bIf (wnt r9.1 false) (oBin Tryd.prog .lss 5 false true r11.1 (.int .u8 97) r11.2) (some (undef, r11.2))) fun r12 =>
  bnd (oPick r9.1 (.bool true) r12.1 r12.2) fun r13 =>
  bnd (oMv r13.1 r13.2) fun r14 =>
  bnd (bIf (wnt r14.1 false) (oMv x0 r14.2) (some (undef, r14.2))) fun r15 =>
  bnd (bIf (wnt r14.1 false) (oIndex Tryd.prog 9 r15.1 (.int .i64 0) r15.2) (some (undef, r15.2))) fun r16 =>
  bnd (bIf (wnt r14.1 false) (oBin Tryd.prog .gtr 5 false true r16.1 (.int .u8 122) r16.2) (some (undef, r16.2))) fun r17 =>
  bnd (oPick r14.1 (.bool true) r17.1 r17.2) fun r18 =>
  vIf r18.1 (
    bnd (oMv (.bool false) r18.2) fun r19 =>
    oRes Tryd.prog [(r19.1, none)] r19.2) (
    bnd (oMv x0 r18.2) fun r20 =>
    bnd (call (fnV 98) [r20.1, (strV [97, 98, 99, 100, 101, 102, 103, 104, 105, 106, 107, 108, 109, 110, 111, 112, 113, 114, 115, 116, 117, 118, 119, 120, 121, 122, 48, 49, 50, 51, 52, 53, 54, 55, 56, 57, 45])] r20.2) fun r21 =>
    bnd (oBin Tryd.prog .eql 9 false true r21.1 (strV []) r21.2) fun r22 =>
    bnd (oMv r22.1 r22.2) fun r23 =>
    oRes Tryd.prog [(r23.1, none)] r23.2)
theorem words_Name_eq (call : Eng.Callee) (x0 : Value) (W : AW) : kFun Tryd.prog call 23 (cod 76) (rss 76) [x0] W = words_Name call x0 W := by kernel_rfl
theorem words_Name_om {x0 : Value} {W : AW} {r : Value × AW} (h : words_Name omS x0 W = some r) : omS (.func (.func 76) #[] #[]) [x0] W = some (gc W r) := om_of (nt := 23) (n := 1) (by kernel_rfl) (by kernel_rfl) rfl ((words_Name_eq omS x0 W).trans h)
noncomputable def strings_Trim (call : Eng.Callee) (x0 x1 : Value) (W : AW) : Option (Value × AW) :=
  bnd (oMv (strV []) W) fun r1 =>
  bnd (oMv x0 r1.2) fun r2 =>
  bnd (oBin Tryd.prog .eql 9 false true r2.1 (strV []) r2.2) fun r3 =>
  bnd (oMv r3.1 r3.2) fun r4 =>
  bnd (bIf (wnt r4.1 false) (oMv x1 r4.2) (some (undef, r4.2))) fun r5 =>
  bnd (bIf (wnt r4.1 false) (oBin Tryd.prog .eql 9 false true r5.1 (strV []) r5.2) (some (undef, r5.2))) fun r6 =>
  bnd (oPick r4.1 (.bool true) r6.1 r6.2) fun r7 =>
  vIf r7.1 (
    bnd (oMv x0 r7.2) fun r8 =>
    bnd (oMv r8.1 r8.2) fun r9 =>
    oRes Tryd.prog [(r9.1, none)] r9.2) (
    bnd (oMv x1 r7.2) fun r10 =>
    bnd (oBuiltin Tryd.prog .len #[9] 3 #[false] [r10.1] r10.2) fun r11 =>
    bnd (oBin Tryd.prog .eql 3 false true r11.1 (.int .i64 1) r11.2) fun r12 =>
    bnd (oMv r12.1 r12.2) fun r13 =>
    bnd (bIf (wnt r13.1 true) (oMv x1 r13.2) (some (undef, r13.2))) fun r14 =>
    bnd (bIf (wnt r13.1 true) (oIndex Tryd.prog 9 r14.1 (.int .i64 0) r14.2) (some (undef, r14.2))) fun r15 =>
    bnd (bIf (wnt r13.1 true) (oBin Tryd.prog .lss 5 false true r15.1 (.int .u8 128) r15.2) (some (undef, r15.2))) fun r16 =>
    bnd (oPick r13.1 r16.1 (.bool false) r16.2) fun r17 =>
    vIf r17.1 (
      bnd (oMv x0 r17.2) fun r18 =>
      bnd (oMv x1 r18.2) fun r19 =>
      bnd (oIndex Tryd.prog 9 r19.1 (.int .i64 0) r19.2) fun r20 =>
      bnd (oMv x1 r20.2) fun r21 =>
      bnd (oIndex Tryd.prog 9 r21.1 (.int .i64 0) r21.2) fun r22 =>
      bnd (call (fnV 116) [r18.1, r20.1] r22.2) fun r23 =>
      bnd (call (fnV 115) [r23.1, r22.1] r23.2) fun r24 =>
      bnd (oMv r24.1 r24.2) fun r25 =>
      oRes Tryd.prog [(r25.1, none)] r25.2) (
      bnd (oMv x1 r17.2) fun r26 =>
      bnd (call (fnV 117) [r26.1] r26.2) fun r27 =>
      bnd (oMv r27.1 r27.2) fun r28 =>
      bnd (oExtract r28.1 0 r28.2) fun r29 =>
      bnd (oExtract r28.1 1 r29.2) fun r30 =>
      bnd (oAlloc Tryd.prog 156 r30.2) fun r31 =>
      bnd (stV 256 r31.1 r29.1 r31.2) fun r32 =>
      bnd (oMv r30.1 r32.2) fun r33 =>
      bnd (oMv r33.1 r33.2) fun r34 =>
      vIf r34.1 (
        bnd (oMv x0 r34.2) fun r35 =>
        bnd (call (fnV 119) [r35.1, r31.1] r35.2) fun r36 =>
        bnd (call (fnV 118) [r36.1, r31.1] r36.2) fun r37 =>
        bnd (oMv r37.1 r37.2) fun r38 =>
        oRes Tryd.prog [(r38.1, none)] r38.2) (
        bnd (oMv x0 r34.2) fun r39 =>
        bnd (oMv x1 r39.2) fun r40 =>
        bnd (call (fnV 121) [r39.1, r40.1] r40.2) fun r41 =>
        bnd (oMv x1 r41.2) fun r42 =>
        bnd (call (fnV 120) [r41.1, r42.1] r42.2) fun r43 =>
        bnd (oMv r43.1 r43.2) fun r44 =>
        oRes Tryd.prog [(r44.1, none)] r44.2)))
theorem strings_Trim_eq (call : Eng.Callee) (x0 x1 : Value) (W : AW) : kFun Tryd.prog call 43 (cod 98) (rss 98) [x0, x1] W = strings_Trim call x0 x1 W := by kernel_rfl
theorem strings_Trim_om {x0 x1 : Value} {W : AW} {r : Value × AW} (h : strings_Trim omS x0 x1 W = some r) : omS (.func (.func 98) #[] #[]) [x0, x1] W = some (gc W r) := om_of (nt := 43) (n := 2) (by kernel_rfl) (by kernel_rfl) rfl ((strings_Trim_eq omS x0 x1 W).trans h)
noncomputable def strings_makeASCIISet_L1 (call : Eng.Callee) (R : Nat → Value) (W : AW) : Option LT :=
  bnd (oMv (R 4) W) fun r4 =>
  bnd (oMv (R 0) r4.2) fun r5 =>
  bnd (oBuiltin Tryd.prog .len #[9] 3 #[false] [r5.1] r5.2) fun r6 =>
  bnd (oBin Tryd.prog .lss 3 false false r4.1 r6.1 r6.2) fun r7 =>
  vIf r7.1 (
    bnd (oMv (R 0) r7.2) fun r8 =>
    bnd (oMv (R 4) r8.2) fun r9 =>
    bnd (oIndex Tryd.prog 9 r8.1 r9.1 r9.2) fun r10 =>
    bnd (oMv r10.1 r10.2) fun r11 =>
    bnd (oMv r11.1 r11.2) fun r12 =>
    bnd (oBin Tryd.prog .geq 5 false true r12.1 (.int .u8 128) r12.2) fun r13 =>
    vIf r13.1 (
      bnd (ldA 256 (R 2) r13.2) fun r14 =>
      bnd (stV 256 (R 2) r14.1 r14.2) fun r15 =>
      bnd (oMv (.bool false) r15.2) fun r16 =>
      some (X.ret, (rput (rput (rput (rput (rput (rput (rput (rput (rput (rput (rput (rput R (some 6) r4.1) (some 7) r5.1) (some 8) r6.1) (some 9) r7.1) (some 12) r8.1) (some 13) r9.1) (some 14) r10.1) (some 5) r11.1) (some 15) r12.1) (some 16) r13.1) (some 17) r14.1) (some 3) r16.1), r16.2)) (
      bnd (oMv r11.1 r13.2) fun r17 =>
      bnd (ixA 256 1 (R 2) r17.1 r17.2) fun r18 =>
      bnd (stV 1 r18.1 (.bool true) r18.2) fun r19 =>
      bnd (oMv (R 4) r19.2) fun r20 =>
      bnd (oBin Tryd.prog .add 3 false true r20.1 (.int .i64 1) r20.2) fun r21 =>
      bnd (oMv r21.1 r21.2) fun r22 =>
      some (X.normal, (rput (rput (rput (rput (rput (rput (rput (rput (rput (rput (rput (rput (rput (rput (rput R (some 6) r4.1) (some 7) r5.1) (some 8) r6.1) (some 9) r7.1) (some 12) r8.1) (some 13) r9.1) (some 14) r10.1) (some 5) r11.1) (some 15) r12.1) (some 16) r13.1) (some 18) r17.1) (some 19) r18.1) (some 10) r20.1) (some 11) r21.1) (some 4) r22.1), r22.2))) (
    some (X.exit 0, (rput (rput (rput (rput R (some 6) r4.1) (some 7) r5.1) (some 8) r6.1) (some 9) r7.1), r7.2))
noncomputable def strings_makeASCIISet (call : Eng.Callee) (x0 : Value) (W : AW) : Option (Value × AW) :=
  bnd (oAlloc Tryd.prog 156 W) fun r1 =>
  bnd (oMv (.bool false) r1.2) fun r2 =>
  bnd (oMv (.int .i64 0) r2.2) fun r3 =>
  bnd (loopO (strings_makeASCIISet_L1 call) (rput (rput (rput (argGo 0 [x0] PlanTab.blank) (some 2) r1.1) (some 3) r2.1) (some 4) r3.1) r3.2) fun r23 =>
  kExit 0 r23.1 (
    bnd (ldA 256 (r23.2.1 2) r23.2.2) fun r24 =>
    bnd (stV 256 (r23.2.1 2) r24.1 r24.2) fun r25 =>
    bnd (oMv (.bool true) r25.2) fun r26 =>
    oRes Tryd.prog [((r23.2.1 2), some 156), (r26.1, none)] r26.2) (kRetX r23.1 (
    oRes Tryd.prog [((r23.2.1 2), some 156), ((r23.2.1 3), none)] r23.2.2))
theorem strings_makeASCIISet_eq (call : Eng.Callee) (x0 : Value) (W : AW) : kFun Tryd.prog call 21 (cod 117) (rss 117) [x0] W = strings_makeASCIISet call x0 W := by kernel_rfl
theorem strings_makeASCIISet_om {x0 : Value} {W : AW} {r : Value × AW} (h : strings_makeASCIISet omS x0 W = some r) : omS (.func (.func 117) #[] #[]) [x0] W = some (gc W r) := om_of (nt := 21) (n := 1) (by kernel_rfl) (by kernel_rfl) rfl ((strings_makeASCIISet_eq omS x0 W).trans h)
noncomputable def strings_trimLeftASCII_L1 (call : Eng.Callee) (R : Nat → Value) (W : AW) : Option LT :=
  bnd (oMv (R 0) W) fun r2 =>
  bnd (oBuiltin Tryd.prog .len #[9] 3 #[false] [r2.1] r2.2) fun r3 =>
  bnd (oBin Tryd.prog .gtr 3 false true r3.1 (.int .i64 0) r3.2) fun r4 =>
  vIf r4.1 (
    bnd (oMv (R 1) r4.2) fun r5 =>
    bnd (oMv (R 0) r5.2) fun r6 =>
    bnd (oIndex Tryd.prog 9 r6.1 (.int .i64 0) r6.2) fun r7 =>
    bnd (call (fnV 128) [r5.1, r7.1] r7.2) fun r8 =>
    bnd (oUn Tryd.prog .not r8.1 r8.2) fun r9 =>
    vIf r9.1 (
      some (X.exit 0, (rput (rput (rput (rput (rput (rput (rput (rput R (some 5) r2.1) (some 6) r3.1) (some 7) r4.1) (some 8) r5.1) (some 9) r6.1) (some 10) r7.1) (some 11) r8.1) (some 12) r9.1), r9.2)) (
      bnd (oMv (R 0) r9.2) fun r10 =>
      bnd (oSlice Tryd.prog 9 r10.1 (some (.int .i64 1)) none none r10.2) fun r11 =>
      bnd (oMv r11.1 r11.2) fun r12 =>
      some (X.normal, (rput (rput (rput (rput (rput (rput (rput (rput (rput (rput (rput R (some 5) r2.1) (some 6) r3.1) (some 7) r4.1) (some 8) r5.1) (some 9) r6.1) (some 10) r7.1) (some 11) r8.1) (some 12) r9.1) (some 13) r10.1) (some 14) r11.1) (some 0) r12.1), r12.2))) (
    some (X.exit 0, (rput (rput (rput R (some 5) r2.1) (some 6) r3.1) (some 7) r4.1), r4.2))
noncomputable def strings_trimLeftASCII (call : Eng.Callee) (x0 x1 : Value) (W : AW) : Option (Value × AW) :=
  bnd (oMv (strV []) W) fun r1 =>
  bnd (loopO (strings_trimLeftASCII_L1 call) (rput (argGo 0 [x0, x1] PlanTab.blank) (some 4) r1.1) r1.2) fun r13 =>
  kExit 0 r13.1 (
    bnd (oMv (r13.2.1 0) r13.2.2) fun r14 =>
    bnd (oMv r14.1 r14.2) fun r15 =>
    oRes Tryd.prog [(r15.1, none)] r15.2) (none)
theorem strings_trimLeftASCII_eq (call : Eng.Callee) (x0 x1 : Value) (W : AW) : kFun Tryd.prog call 16 (cod 118) (rss 118) [x0, x1] W = strings_trimLeftASCII call x0 x1 W := by kernel_rfl
theorem strings_trimLeftASCII_om {x0 x1 : Value} {W : AW} {r : Value × AW} (h : strings_trimLeftASCII omS x0 x1 W = some r) : omS (.func (.func 118) #[] #[]) [x0, x1] W = some (gc W r) := om_of (nt := 16) (n := 2) (by kernel_rfl) (by kernel_rfl) rfl ((strings_trimLeftASCII_eq omS x0 x1 W).trans h)
noncomputable def strings_trimRightASCII_L1 (call : Eng.Callee) (R : Nat → Value) (W : AW) : Option LT :=
  bnd (oMv (R 0) W) fun r2 =>
  bnd (oBuiltin Tryd.prog .len #[9] 3 #[false] [r2.1] r2.2) fun r3 =>
  bnd (oBin Tryd.prog .gtr 3 false true r3.1 (.int .i64 0) r3.2) fun r4 =>
  vIf r4.1 (
    bnd (oMv (R 1) r4.2) fun r5 =>
    bnd (oMv (R 0) r5.2) fun r6 =>
    bnd (oMv (R 0) r6.2) fun r7 =>
    bnd (oBuiltin Tryd.prog .len #[9] 3 #[false] [r7.1] r7.2) fun r8 =>
    bnd (oBin Tryd.prog .sub 3 false true r8.1 (.int .i64 1) r8.2) fun r9 =>
    bnd (oIndex Tryd.prog 9 r6.1 r9.1 r9.2) fun r10 =>
    bnd (call (fnV 128) [r5.1, r10.1] r10.2) fun r11 =>
    bnd (oUn Tryd.prog .not r11.1 r11.2) fun r12 =>
    vIf r12.1 (
      some (X.exit 0, (rput (rput (rput (rput (rput (rput (rput (rput (rput (rput (rput R (some 5) r2.1) (some 6) r3.1) (some 7) r4.1) (some 8) r5.1) (some 9) r6.1) (some 10) r7.1) (some 11) r8.1) (some 12) r9.1) (some 13) r10.1) (some 14) r11.1) (some 15) r12.1), r12.2)) (
      bnd (oMv (R 0) r12.2) fun r13 =>
      bnd (oMv (R 0) r13.2) fun r14 =>
      bnd (oBuiltin Tryd.prog .len #[9] 3 #[false] [r14.1] r14.2) fun r15 =>
      bnd (oBin Tryd.prog .sub 3 false true r15.1 (.int .i64 1) r15.2) fun r16 =>
      bnd (oSlice Tryd.prog 9 r13.1 none (some r16.1) none r16.2) fun r17 =>
      bnd (oMv r17.1 r17.2) fun r18 =>
      some (X.normal, (rput (rput (rput (rput (rput (rput (rput (rput (rput (rput (rput (rput (rput (rput (rput (rput (rput R (some 5) r2.1) (some 6) r3.1) (some 7) r4.1) (some 8) r5.1) (some 9) r6.1) (some 10) r7.1) (some 11) r8.1) (some 12) r9.1) (some 13) r10.1) (some 14) r11.1) (some 15) r12.1) (some 16) r13.1) (some 17) r14.1) (some 18) r15.1) (some 19) r16.1) (some 20) r17.1) (some 0) r18.1), r18.2))) (
    some (X.exit 0, (rput (rput (rput R (some 5) r2.1) (some 6) r3.1) (some 7) r4.1), r4.2))
noncomputable def strings_trimRightASCII (call : Eng.Callee) (x0 x1 : Value) (W : AW) : Option (Value × AW) :=
  bnd (oMv (strV []) W) fun r1 =>
  bnd (loopO (strings_trimRightASCII_L1 call) (rput (argGo 0 [x0, x1] PlanTab.blank) (some 4) r1.1) r1.2) fun r19 =>
  kExit 0 r19.1 (
    bnd (oMv (r19.2.1 0) r19.2.2) fun r20 =>
    bnd (oMv r20.1 r20.2) fun r21 =>
    oRes Tryd.prog [(r21.1, none)] r21.2) (none)
theorem strings_trimRightASCII_eq (call : Eng.Callee) (x0 x1 : Value) (W : AW) : kFun Tryd.prog call 22 (cod 119) (rss 119) [x0, x1] W = strings_trimRightASCII call x0 x1 W := by kernel_rfl
theorem strings_trimRightASCII_om {x0 x1 : Value} {W : AW} {r : Value × AW} (h : strings_trimRightASCII omS x0 x1 W = some r) : omS (.func (.func 119) #[] #[]) [x0, x1] W = some (gc W r) := om_of (nt := 22) (n := 2) (by kernel_rfl) (by kernel_rfl) rfl ((strings_trimRightASCII_eq omS x0 x1 W).trans h)
noncomputable def strings_asciiSet_contains (call : Eng.Callee) (x0 x1 : Value) (W : AW) : Option (Value × AW) :=
  bnd (oMv (.bool false) W) fun r1 =>
  bnd (oMv x0 r1.2) fun r2 =>
  bnd (oMv x1 r2.2) fun r3 =>
  bnd (oNilCheck r2.1 r3.2) fun r4 =>
  bnd (ixA 256 1 r4.1 r3.1 r4.2) fun r5 =>
  bnd (ldC r5.1 r5.2) fun r6 =>
  bnd (oMv r6.1 r6.2) fun r7 =>
  oRes Tryd.prog [(r7.1, none)] r7.2
theorem strings_asciiSet_contains_eq (call : Eng.Callee) (x0 x1 : Value) (W : AW) : kFun Tryd.prog call 10 (cod 128) (rss 128) [x0, x1] W = strings_asciiSet_contains call x0 x1 W := by kernel_rfl
theorem strings_asciiSet_contains_om {x0 x1 : Value} {W : AW} {r : Value × AW} (h : strings_asciiSet_contains omS x0 x1 W = some r) : omS (.func (.func 128) #[] #[]) [x0, x1] W = some (gc W r) := om_of (nt := 10) (n := 2) (by kernel_rfl) (by kernel_rfl) rfl ((strings_asciiSet_contains_eq omS x0 x1 W).trans h)
end Go.Proofs.YtfcfglpkgcheiaaDoor
