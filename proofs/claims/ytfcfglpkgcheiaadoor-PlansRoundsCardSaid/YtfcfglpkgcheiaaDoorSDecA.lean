/- Texts of the program told in continuations: written by a program, shown by the kernel. -/
import Derived.Test.YtfcfglpkgcheiaaDoorSBase
import Derived.KernelRfl
namespace Go.Proofs.YtfcfglpkgcheiaaDoor
open Go Go.Eng
set_option linter.unusedVariables false
set_option maxRecDepth 100000
noncomputable def plans_Target (call : Eng.Callee) (x0 : Value) (W : AW) : Option (Value × AW) :=
  bnd (oBox x0 W) fun r1 =>
  bnd (oMv (.int .i64 0) r1.2) fun r2 =>
  bnd (oMv (.int .i64 0) r2.2) fun r3 =>
  bnd (oMv (.int .i64 0) r3.2) fun r4 =>
  bnd (ldA 12 r1.1 r4.2) fun r5 =>
  bnd (call (fnV 14) [r5.1] r5.2) fun r6 =>
  bnd (oMv r6.1 r6.2) fun r7 =>
  bnd (oMv r7.1 r7.2) fun r8 =>
  bnd (oBin Tryd.prog .neq 28 false true r8.1 (.int .i64 0) r8.2) fun r9 =>
  vIf r9.1 (
    bnd (oMv r7.1 r9.2) fun r10 =>
    bnd (oMv (.int .i64 0) r10.2) fun r11 =>
    bnd (oMv (.int .i64 0) r11.2) fun r12 =>
    bnd (oMv r10.1 r12.2) fun r13 =>
    oRes Tryd.prog [(r11.1, none), (r12.1, none), (r13.1, none)] r13.2) (
    bnd (oMv (.int .i64 (-1)) r9.2) fun r14 =>
    bnd (oMv (.int .i64 (-1)) r14.2) fun r15 =>
    bnd (faO 0 r1.1 r15.2) fun r16 =>
    bnd (ldC r16.1 r16.2) fun r17 =>
    bnd (ixA 13 1 (glbV 0) r17.1 r17.2) fun r18 =>
    bnd (ldC r18.1 r18.2) fun r19 =>
    bnd (oMv r19.1 r19.2) fun r20 =>
    bnd (oMv r20.1 r20.2) fun r21 =>
    bnd (oBin Tryd.prog .and 3 false true r21.1 (.int .i64 4) r21.2) fun r22 =>
    bnd (oBin Tryd.prog .neq 3 false true r22.1 (.int .i64 0) r22.2) fun r23 =>
    bnd (oMv r23.1 r23.2) fun r24 =>
    vIf r24.1 (
      bnd (faO 3 r1.1 r24.2) fun r25 =>
      bnd (ldC r25.1 r25.2) fun r26 =>
      bnd (oMv r26.1 r26.2) fun r27 =>
      bnd (oMv r27.1 r27.2) fun r28 =>
      bnd (oMv r15.1 r28.2) fun r29 =>
      bnd (oMv r28.1 r29.2) fun r30 =>
      bnd (oMv r29.1 r30.2) fun r31 =>
      bnd (oMv (.int .i64 0) r31.2) fun r32 =>
      oRes Tryd.prog [(r30.1, none), (r31.1, none), (r32.1, none)] r32.2) (
      bnd (oMv r20.1 r24.2) fun r33 =>
      bnd (oBin Tryd.prog .and 3 false true r33.1 (.int .i64 64) r33.2) fun r34 =>
      bnd (oBin Tryd.prog .neq 3 false true r34.1 (.int .i64 0) r34.2) fun r35 =>
      bnd (oMv r35.1 r35.2) fun r36 =>
      vIf r36.1 (
        bnd (faO 7 r1.1 r36.2) fun r37 =>
        bnd (faO 0 r37.1 r37.2) fun r38 =>
        bnd (ldC r38.1 r38.2) fun r39 =>
        bnd (oConv Tryd.prog 22 3 r39.1 r39.2) fun r40 =>
        bnd (oMv r40.1 r40.2) fun r41 =>
        bnd (oMv r41.1 r41.2) fun r42 =>
        bnd (oMv r15.1 r42.2) fun r43 =>
        bnd (oMv r42.1 r43.2) fun r44 =>
        bnd (oMv r43.1 r44.2) fun r45 =>
        bnd (oMv (.int .i64 0) r45.2) fun r46 =>
        oRes Tryd.prog [(r44.1, none), (r45.1, none), (r46.1, none)] r46.2) (
        bnd (oMv r20.1 r36.2) fun r47 =>
        bnd (oBin Tryd.prog .and 3 false true r47.1 (.int .i64 8) r47.2) fun r48 =>
        bnd (oBin Tryd.prog .neq 3 false true r48.1 (.int .i64 0) r48.2) fun r49 =>
        bnd (oMv r49.1 r49.2) fun r50 =>
        vIf r50.1 (
          bnd (faO 4 r1.1 r50.2) fun r51 =>
          bnd (ldC r51.1 r51.2) fun r52 =>
          bnd (oMv r52.1 r52.2) fun r53 =>
          bnd (oMv r14.1 r53.2) fun r54 =>
          bnd (oMv r53.1 r54.2) fun r55 =>
          bnd (oMv r54.1 r55.2) fun r56 =>
          bnd (oMv r55.1 r56.2) fun r57 =>
          bnd (oMv (.int .i64 0) r57.2) fun r58 =>
          oRes Tryd.prog [(r56.1, none), (r57.1, none), (r58.1, none)] r58.2) (
          bnd (oMv r14.1 r50.2) fun r59 =>
          bnd (oMv r15.1 r59.2) fun r60 =>
          bnd (oMv r59.1 r60.2) fun r61 =>
          bnd (oMv r60.1 r61.2) fun r62 =>
          bnd (oMv (.int .i64 0) r62.2) fun r63 =>
          oRes Tryd.prog [(r61.1, none), (r62.1, none), (r63.1, none)] r63.2))))
theorem plans_Target_eq (call : Eng.Callee) (x0 : Value) (W : AW) : kFun Tryd.prog call 38 (cod 12) (rss 12) [x0] W = plans_Target call x0 W := by kernel_rfl
theorem plans_Target_om {x0 : Value} {W : AW} {r : Value × AW} (h : plans_Target omS x0 W = some r) : omS (.func (.func 12) #[] #[]) [x0] W = some (gc W r) := om_of (nt := 38) (n := 1) (by kernel_rfl) (by kernel_rfl) rfl ((plans_Target_eq omS x0 W).trans h)
noncomputable def ref22_Target (call : Eng.Callee) (x0 : Value) (W : AW) : Option (Value × AW) :=
  bnd (oBox x0 W) fun r1 =>
  bnd (oMv (.int .i64 0) r1.2) fun r2 =>
  bnd (oMv (.int .i64 0) r2.2) fun r3 =>
  bnd (oMv (.int .i64 0) r3.2) fun r4 =>
  bnd (ldA 12 r1.1 r4.2) fun r5 =>
  bnd (call (fnV 15) [r5.1] r5.2) fun r6 =>
  bnd (oMv r6.1 r6.2) fun r7 =>
  bnd (oMv r7.1 r7.2) fun r8 =>
  bnd (oBin Tryd.prog .neq 28 false true r8.1 (.int .i64 0) r8.2) fun r9 =>
  vIf r9.1 (
    bnd (oMv r7.1 r9.2) fun r10 =>
    bnd (oMv (.int .i64 0) r10.2) fun r11 =>
    bnd (oMv (.int .i64 0) r11.2) fun r12 =>
    bnd (oMv r10.1 r12.2) fun r13 =>
    oRes Tryd.prog [(r11.1, none), (r12.1, none), (r13.1, none)] r13.2) (
    bnd (faO 0 r1.1 r9.2) fun r14 =>
    bnd (ldC r14.1 r14.2) fun r15 =>
    bnd (oBin Tryd.prog .eql 3 false true r15.1 (.int .i64 2) r15.2) fun r16 =>
    bnd (oMv r16.1 r16.2) fun r17 =>
    vIf r17.1 (
      vIf r17.1 (
        bnd (faO 3 r1.1 r17.2) fun r18 =>
        bnd (ldC r18.1 r18.2) fun r19 =>
        bnd (oMv r19.1 r19.2) fun r20 =>
        bnd (oMv (.int .i64 (-1)) r20.2) fun r21 =>
        bnd (oMv (.int .i64 0) r21.2) fun r22 =>
        oRes Tryd.prog [(r20.1, none), (r21.1, none), (r22.1, none)] r22.2) (
        bnd (oBin Tryd.prog .eql 3 false true r15.1 (.int .i64 6) r17.2) fun r23 =>
        bnd (oMv r23.1 r23.2) fun r24 =>
        vIf r24.1 (
          vIf r24.1 (
            bnd (faO 7 r1.1 r24.2) fun r25 =>
            bnd (faO 0 r25.1 r25.2) fun r26 =>
            bnd (ldC r26.1 r26.2) fun r27 =>
            bnd (oConv Tryd.prog 22 3 r27.1 r27.2) fun r28 =>
            bnd (oMv r28.1 r28.2) fun r29 =>
            bnd (oMv (.int .i64 (-1)) r29.2) fun r30 =>
            bnd (oMv (.int .i64 0) r30.2) fun r31 =>
            oRes Tryd.prog [(r29.1, none), (r30.1, none), (r31.1, none)] r31.2) (
            bnd (oBin Tryd.prog .eql 3 false true r15.1 (.int .i64 3) r24.2) fun r32 =>
            bnd (oMv r32.1 r32.2) fun r33 =>
            vIf r33.1 (
              vIf r33.1 (
                bnd (faO 4 r1.1 r33.2) fun r34 =>
                bnd (ldC r34.1 r34.2) fun r35 =>
                bnd (oMv (.int .i64 (-1)) r35.2) fun r36 =>
                bnd (oMv r35.1 r36.2) fun r37 =>
                bnd (oMv (.int .i64 0) r37.2) fun r38 =>
                oRes Tryd.prog [(r36.1, none), (r37.1, none), (r38.1, none)] r38.2) (
                bnd (oMv (.int .i64 (-1)) r33.2) fun r39 =>
                bnd (oMv (.int .i64 (-1)) r39.2) fun r40 =>
                bnd (oMv (.int .i64 0) r40.2) fun r41 =>
                oRes Tryd.prog [(r39.1, none), (r40.1, none), (r41.1, none)] r41.2)) (
              bnd (oBin Tryd.prog .eql 3 false true r15.1 (.int .i64 10) r33.2) fun r42 =>
              bnd (oMv r42.1 r42.2) fun r43 =>
              vIf r43.1 (
                vIf r43.1 (
                  bnd (faO 4 r1.1 r43.2) fun r44 =>
                  bnd (ldC r44.1 r44.2) fun r45 =>
                  bnd (oMv (.int .i64 (-1)) r45.2) fun r46 =>
                  bnd (oMv r45.1 r46.2) fun r47 =>
                  bnd (oMv (.int .i64 0) r47.2) fun r48 =>
                  oRes Tryd.prog [(r46.1, none), (r47.1, none), (r48.1, none)] r48.2) (
                  bnd (oMv (.int .i64 (-1)) r43.2) fun r49 =>
                  bnd (oMv (.int .i64 (-1)) r49.2) fun r50 =>
                  bnd (oMv (.int .i64 0) r50.2) fun r51 =>
                  oRes Tryd.prog [(r49.1, none), (r50.1, none), (r51.1, none)] r51.2)) (
                bnd (oBin Tryd.prog .eql 3 false true r15.1 (.int .i64 11) r43.2) fun r52 =>
                bnd (oMv r52.1 r52.2) fun r53 =>
                vIf r53.1 (
                  bnd (faO 4 r1.1 r53.2) fun r54 =>
                  bnd (ldC r54.1 r54.2) fun r55 =>
                  bnd (oMv (.int .i64 (-1)) r55.2) fun r56 =>
                  bnd (oMv r55.1 r56.2) fun r57 =>
                  bnd (oMv (.int .i64 0) r57.2) fun r58 =>
                  oRes Tryd.prog [(r56.1, none), (r57.1, none), (r58.1, none)] r58.2) (
                  bnd (oMv (.int .i64 (-1)) r53.2) fun r59 =>
                  bnd (oMv (.int .i64 (-1)) r59.2) fun r60 =>
                  bnd (oMv (.int .i64 0) r60.2) fun r61 =>
                  oRes Tryd.prog [(r59.1, none), (r60.1, none), (r61.1, none)] r61.2))))) (
          bnd (oBin Tryd.prog .eql 3 false true r15.1 (.int .i64 7) r24.2) fun r62 =>
          bnd (oMv r62.1 r62.2) fun r63 =>
          vIf r63.1 (
            vIf r63.1 (
              bnd (faO 7 r1.1 r63.2) fun r64 =>
              bnd (faO 0 r64.1 r64.2) fun r65 =>
              bnd (ldC r65.1 r65.2) fun r66 =>
              bnd (oConv Tryd.prog 22 3 r66.1 r66.2) fun r67 =>
              bnd (oMv r67.1 r67.2) fun r68 =>
              bnd (oMv (.int .i64 (-1)) r68.2) fun r69 =>
              bnd (oMv (.int .i64 0) r69.2) fun r70 =>
              oRes Tryd.prog [(r68.1, none), (r69.1, none), (r70.1, none)] r70.2) (
              bnd (oBin Tryd.prog .eql 3 false true r15.1 (.int .i64 3) r63.2) fun r71 =>
              bnd (oMv r71.1 r71.2) fun r72 =>
              vIf r72.1 (
                vIf r72.1 (
                  bnd (faO 4 r1.1 r72.2) fun r73 =>
                  bnd (ldC r73.1 r73.2) fun r74 =>
                  bnd (oMv (.int .i64 (-1)) r74.2) fun r75 =>
                  bnd (oMv r74.1 r75.2) fun r76 =>
                  bnd (oMv (.int .i64 0) r76.2) fun r77 =>
                  oRes Tryd.prog [(r75.1, none), (r76.1, none), (r77.1, none)] r77.2) (
                  bnd (oMv (.int .i64 (-1)) r72.2) fun r78 =>
                  bnd (oMv (.int .i64 (-1)) r78.2) fun r79 =>
                  bnd (oMv (.int .i64 0) r79.2) fun r80 =>
                  oRes Tryd.prog [(r78.1, none), (r79.1, none), (r80.1, none)] r80.2)) (
                bnd (oBin Tryd.prog .eql 3 false true r15.1 (.int .i64 10) r72.2) fun r81 =>
                bnd (oMv r81.1 r81.2) fun r82 =>
                vIf r82.1 (
                  vIf r82.1 (
                    bnd (faO 4 r1.1 r82.2) fun r83 =>
                    bnd (ldC r83.1 r83.2) fun r84 =>
                    bnd (oMv (.int .i64 (-1)) r84.2) fun r85 =>
                    bnd (oMv r84.1 r85.2) fun r86 =>
                    bnd (oMv (.int .i64 0) r86.2) fun r87 =>
                    oRes Tryd.prog [(r85.1, none), (r86.1, none), (r87.1, none)] r87.2) (
                    bnd (oMv (.int .i64 (-1)) r82.2) fun r88 =>
                    bnd (oMv (.int .i64 (-1)) r88.2) fun r89 =>
                    bnd (oMv (.int .i64 0) r89.2) fun r90 =>
                    oRes Tryd.prog [(r88.1, none), (r89.1, none), (r90.1, none)] r90.2)) (
                  bnd (oBin Tryd.prog .eql 3 false true r15.1 (.int .i64 11) r82.2) fun r91 =>
                  bnd (oMv r91.1 r91.2) fun r92 =>
                  vIf r92.1 (
                    bnd (faO 4 r1.1 r92.2) fun r93 =>
                    bnd (ldC r93.1 r93.2) fun r94 =>
                    bnd (oMv (.int .i64 (-1)) r94.2) fun r95 =>
                    bnd (oMv r94.1 r95.2) fun r96 =>
                    bnd (oMv (.int .i64 0) r96.2) fun r97 =>
                    oRes Tryd.prog [(r95.1, none), (r96.1, none), (r97.1, none)] r97.2) (
                    bnd (oMv (.int .i64 (-1)) r92.2) fun r98 =>
                    bnd (oMv (.int .i64 (-1)) r98.2) fun r99 =>
                    bnd (oMv (.int .i64 0) r99.2) fun r100 =>
                    oRes Tryd.prog [(r98.1, none), (r99.1, none), (r100.1, none)] r100.2))))) (
            bnd (oBin Tryd.prog .eql 3 false true r15.1 (.int .i64 9) r63.2) fun r101 =>
            bnd (oMv r101.1 r101.2) fun r102 =>
            vIf r102.1 (
              bnd (faO 7 r1.1 r102.2) fun r103 =>
              bnd (faO 0 r103.1 r103.2) fun r104 =>
              bnd (ldC r104.1 r104.2) fun r105 =>
              bnd (oConv Tryd.prog 22 3 r105.1 r105.2) fun r106 =>
              bnd (oMv r106.1 r106.2) fun r107 =>
              bnd (oMv (.int .i64 (-1)) r107.2) fun r108 =>
              bnd (oMv (.int .i64 0) r108.2) fun r109 =>
              oRes Tryd.prog [(r107.1, none), (r108.1, none), (r109.1, none)] r109.2) (
              bnd (oBin Tryd.prog .eql 3 false true r15.1 (.int .i64 3) r102.2) fun r110 =>
              bnd (oMv r110.1 r110.2) fun r111 =>
              vIf r111.1 (
                vIf r111.1 (
                  bnd (faO 4 r1.1 r111.2) fun r112 =>
                  bnd (ldC r112.1 r112.2) fun r113 =>
                  bnd (oMv (.int .i64 (-1)) r113.2) fun r114 =>
                  bnd (oMv r113.1 r114.2) fun r115 =>
                  bnd (oMv (.int .i64 0) r115.2) fun r116 =>
                  oRes Tryd.prog [(r114.1, none), (r115.1, none), (r116.1, none)] r116.2) (
                  bnd (oMv (.int .i64 (-1)) r111.2) fun r117 =>
                  bnd (oMv (.int .i64 (-1)) r117.2) fun r118 =>
                  bnd (oMv (.int .i64 0) r118.2) fun r119 =>
                  oRes Tryd.prog [(r117.1, none), (r118.1, none), (r119.1, none)] r119.2)) (
                bnd (oBin Tryd.prog .eql 3 false true r15.1 (.int .i64 10) r111.2) fun r120 =>
                bnd (oMv r120.1 r120.2) fun r121 =>
                vIf r121.1 (
                  vIf r121.1 (
                    bnd (faO 4 r1.1 r121.2) fun r122 =>
                    bnd (ldC r122.1 r122.2) fun r123 =>
                    bnd (oMv (.int .i64 (-1)) r123.2) fun r124 =>
                    bnd (oMv r123.1 r124.2) fun r125 =>
                    bnd (oMv (.int .i64 0) r125.2) fun r126 =>
                    oRes Tryd.prog [(r124.1, none), (r125.1, none), (r126.1, none)] r126.2) (
                    bnd (oMv (.int .i64 (-1)) r121.2) fun r127 =>
                    bnd (oMv (.int .i64 (-1)) r127.2) fun r128 =>
                    bnd (oMv (.int .i64 0) r128.2) fun r129 =>
                    oRes Tryd.prog [(r127.1, none), (r128.1, none), (r129.1, none)] r129.2)) (
                  bnd (oBin Tryd.prog .eql 3 false true r15.1 (.int .i64 11) r121.2) fun r130 =>
                  bnd (oMv r130.1 r130.2) fun r131 =>
                  vIf r131.1 (
                    bnd (faO 4 r1.1 r131.2) fun r132 =>
                    bnd (ldC r132.1 r132.2) fun r133 =>
                    bnd (oMv (.int .i64 (-1)) r133.2) fun r134 =>
                    bnd (oMv r133.1 r134.2) fun r135 =>
                    bnd (oMv (.int .i64 0) r135.2) fun r136 =>
                    oRes Tryd.prog [(r134.1, none), (r135.1, none), (r136.1, none)] r136.2) (
                    bnd (oMv (.int .i64 (-1)) r131.2) fun r137 =>
                    bnd (oMv (.int .i64 (-1)) r137.2) fun r138 =>
                    bnd (oMv (.int .i64 0) r138.2) fun r139 =>
                    oRes Tryd.prog [(r137.1, none), (r138.1, none), (r139.1, none)] r139.2)))))))) (
      bnd (oBin Tryd.prog .eql 3 false true r15.1 (.int .i64 5) r17.2) fun r140 =>
      bnd (oMv r140.1 r140.2) fun r141 =>
      vIf r141.1 (
        vIf r141.1 (
          bnd (faO 3 r1.1 r141.2) fun r142 =>
          bnd (ldC r142.1 r142.2) fun r143 =>
          bnd (oMv r143.1 r143.2) fun r144 =>
          bnd (oMv (.int .i64 (-1)) r144.2) fun r145 =>
          bnd (oMv (.int .i64 0) r145.2) fun r146 =>
          oRes Tryd.prog [(r144.1, none), (r145.1, none), (r146.1, none)] r146.2) (
          bnd (oBin Tryd.prog .eql 3 false true r15.1 (.int .i64 6) r141.2) fun r147 =>
          bnd (oMv r147.1 r147.2) fun r148 =>
          vIf r148.1 (
            vIf r148.1 (
              bnd (faO 7 r1.1 r148.2) fun r149 =>
              bnd (faO 0 r149.1 r149.2) fun r150 =>
              bnd (ldC r150.1 r150.2) fun r151 =>
              bnd (oConv Tryd.prog 22 3 r151.1 r151.2) fun r152 =>
              bnd (oMv r152.1 r152.2) fun r153 =>
              bnd (oMv (.int .i64 (-1)) r153.2) fun r154 =>
              bnd (oMv (.int .i64 0) r154.2) fun r155 =>
              oRes Tryd.prog [(r153.1, none), (r154.1, none), (r155.1, none)] r155.2) (
              bnd (oBin Tryd.prog .eql 3 false true r15.1 (.int .i64 3) r148.2) fun r156 =>
              bnd (oMv r156.1 r156.2) fun r157 =>
              vIf r157.1 (
                vIf r157.1 (
                  bnd (faO 4 r1.1 r157.2) fun r158 =>
                  bnd (ldC r158.1 r158.2) fun r159 =>
                  bnd (oMv (.int .i64 (-1)) r159.2) fun r160 =>
                  bnd (oMv r159.1 r160.2) fun r161 =>
                  bnd (oMv (.int .i64 0) r161.2) fun r162 =>
                  oRes Tryd.prog [(r160.1, none), (r161.1, none), (r162.1, none)] r162.2) (
                  bnd (oMv (.int .i64 (-1)) r157.2) fun r163 =>
                  bnd (oMv (.int .i64 (-1)) r163.2) fun r164 =>
                  bnd (oMv (.int .i64 0) r164.2) fun r165 =>
                  oRes Tryd.prog [(r163.1, none), (r164.1, none), (r165.1, none)] r165.2)) (
                bnd (oBin Tryd.prog .eql 3 false true r15.1 (.int .i64 10) r157.2) fun r166 =>
                bnd (oMv r166.1 r166.2) fun r167 =>
                vIf r167.1 (
                  vIf r167.1 (
                    bnd (faO 4 r1.1 r167.2) fun r168 =>
                    bnd (ldC r168.1 r168.2) fun r169 =>
                    bnd (oMv (.int .i64 (-1)) r169.2) fun r170 =>
                    bnd (oMv r169.1 r170.2) fun r171 =>
                    bnd (oMv (.int .i64 0) r171.2) fun r172 =>
                    oRes Tryd.prog [(r170.1, none), (r171.1, none), (r172.1, none)] r172.2) (
                    bnd (oMv (.int .i64 (-1)) r167.2) fun r173 =>
                    bnd (oMv (.int .i64 (-1)) r173.2) fun r174 =>
                    bnd (oMv (.int .i64 0) r174.2) fun r175 =>
                    oRes Tryd.prog [(r173.1, none), (r174.1, none), (r175.1, none)] r175.2)) (
                  bnd (oBin Tryd.prog .eql 3 false true r15.1 (.int .i64 11) r167.2) fun r176 =>
                  bnd (oMv r176.1 r176.2) fun r177 =>
                  vIf r177.1 (
                    bnd (faO 4 r1.1 r177.2) fun r178 =>
                    bnd (ldC r178.1 r178.2) fun r179 =>
                    bnd (oMv (.int .i64 (-1)) r179.2) fun r180 =>
                    bnd (oMv r179.1 r180.2) fun r181 =>
                    bnd (oMv (.int .i64 0) r181.2) fun r182 =>
                    oRes Tryd.prog [(r180.1, none), (r181.1, none), (r182.1, none)] r182.2) (
                    bnd (oMv (.int .i64 (-1)) r177.2) fun r183 =>
                    bnd (oMv (.int .i64 (-1)) r183.2) fun r184 =>
                    bnd (oMv (.int .i64 0) r184.2) fun r185 =>
                    oRes Tryd.prog [(r183.1, none), (r184.1, none), (r185.1, none)] r185.2))))) (
            bnd (oBin Tryd.prog .eql 3 false true r15.1 (.int .i64 7) r148.2) fun r186 =>
            bnd (oMv r186.1 r186.2) fun r187 =>
            vIf r187.1 (
              vIf r187.1 (
                bnd (faO 7 r1.1 r187.2) fun r188 =>
                bnd (faO 0 r188.1 r188.2) fun r189 =>
                bnd (ldC r189.1 r189.2) fun r190 =>
                bnd (oConv Tryd.prog 22 3 r190.1 r190.2) fun r191 =>
                bnd (oMv r191.1 r191.2) fun r192 =>
                bnd (oMv (.int .i64 (-1)) r192.2) fun r193 =>
                bnd (oMv (.int .i64 0) r193.2) fun r194 =>
                oRes Tryd.prog [(r192.1, none), (r193.1, none), (r194.1, none)] r194.2) (
                bnd (oBin Tryd.prog .eql 3 false true r15.1 (.int .i64 3) r187.2) fun r195 =>
                bnd (oMv r195.1 r195.2) fun r196 =>
                vIf r196.1 (
                  vIf r196.1 (
                    bnd (faO 4 r1.1 r196.2) fun r197 =>
                    bnd (ldC r197.1 r197.2) fun r198 =>
                    bnd (oMv (.int .i64 (-1)) r198.2) fun r199 =>
                    bnd (oMv r198.1 r199.2) fun r200 =>
                    bnd (oMv (.int .i64 0) r200.2) fun r201 =>
                    oRes Tryd.prog [(r199.1, none), (r200.1, none), (r201.1, none)] r201.2) (
                    bnd (oMv (.int .i64 (-1)) r196.2) fun r202 =>
                    bnd (oMv (.int .i64 (-1)) r202.2) fun r203 =>
                    bnd (oMv (.int .i64 0) r203.2) fun r204 =>
                    oRes Tryd.prog [(r202.1, none), (r203.1, none), (r204.1, none)] r204.2)) (
                  bnd (oBin Tryd.prog .eql 3 false true r15.1 (.int .i64 10) r196.2) fun r205 =>
                  bnd (oMv r205.1 r205.2) fun r206 =>
                  vIf r206.1 (
                    vIf r206.1 (
                      bnd (faO 4 r1.1 r206.2) fun r207 =>
                      bnd (ldC r207.1 r207.2) fun r208 =>
                      bnd (oMv (.int .i64 (-1)) r208.2) fun r209 =>
                      bnd (oMv r208.1 r209.2) fun r210 =>
                      bnd (oMv (.int .i64 0) r210.2) fun r211 =>
                      oRes Tryd.prog [(r209.1, none), (r210.1, none), (r211.1, none)] r211.2) (
                      bnd (oMv (.int .i64 (-1)) r206.2) fun r212 =>
                      bnd (oMv (.int .i64 (-1)) r212.2) fun r213 =>
                      bnd (oMv (.int .i64 0) r213.2) fun r214 =>
                      oRes Tryd.prog [(r212.1, none), (r213.1, none), (r214.1, none)] r214.2)) (
                    bnd (oBin Tryd.prog .eql 3 false true r15.1 (.int .i64 11) r206.2) fun r215 =>
                    bnd (oMv r215.1 r215.2) fun r216 =>
                    vIf r216.1 (
                      bnd (faO 4 r1.1 r216.2) fun r217 =>
                      bnd (ldC r217.1 r217.2) fun r218 =>
                      bnd (oMv (.int .i64 (-1)) r218.2) fun r219 =>
                      bnd (oMv r218.1 r219.2) fun r220 =>
                      bnd (oMv (.int .i64 0) r220.2) fun r221 =>
                      oRes Tryd.prog [(r219.1, none), (r220.1, none), (r221.1, none)] r221.2) (
                      bnd (oMv (.int .i64 (-1)) r216.2) fun r222 =>
                      bnd (oMv (.int .i64 (-1)) r222.2) fun r223 =>
                      bnd (oMv (.int .i64 0) r223.2) fun r224 =>
                      oRes Tryd.prog [(r222.1, none), (r223.1, none), (r224.1, none)] r224.2))))) (
              bnd (oBin Tryd.prog .eql 3 false true r15.1 (.int .i64 9) r187.2) fun r225 =>
              bnd (oMv r225.1 r225.2) fun r226 =>
              vIf r226.1 (
                bnd (faO 7 r1.1 r226.2) fun r227 =>
                bnd (faO 0 r227.1 r227.2) fun r228 =>
                bnd (ldC r228.1 r228.2) fun r229 =>
                bnd (oConv Tryd.prog 22 3 r229.1 r229.2) fun r230 =>
                bnd (oMv r230.1 r230.2) fun r231 =>
                bnd (oMv (.int .i64 (-1)) r231.2) fun r232 =>
                bnd (oMv (.int .i64 0) r232.2) fun r233 =>
                oRes Tryd.prog [(r231.1, none), (r232.1, none), (r233.1, none)] r233.2) (
                bnd (oBin Tryd.prog .eql 3 false true r15.1 (.int .i64 3) r226.2) fun r234 =>
                bnd (oMv r234.1 r234.2) fun r235 =>
                vIf r235.1 (
                  vIf r235.1 (
                    bnd (faO 4 r1.1 r235.2) fun r236 =>
                    bnd (ldC r236.1 r236.2) fun r237 =>
                    bnd (oMv (.int .i64 (-1)) r237.2) fun r238 =>
                    bnd (oMv r237.1 r238.2) fun r239 =>
                    bnd (oMv (.int .i64 0) r239.2) fun r240 =>
                    oRes Tryd.prog [(r238.1, none), (r239.1, none), (r240.1, none)] r240.2) (
                    bnd (oMv (.int .i64 (-1)) r235.2) fun r241 =>
                    bnd (oMv (.int .i64 (-1)) r241.2) fun r242 =>
                    bnd (oMv (.int .i64 0) r242.2) fun r243 =>
                    oRes Tryd.prog [(r241.1, none), (r242.1, none), (r243.1, none)] r243.2)) (
                  bnd (oBin Tryd.prog .eql 3 false true r15.1 (.int .i64 10) r235.2) fun r244 =>
                  bnd (oMv r244.1 r244.2) fun r245 =>
                  vIf r245.1 (
                    vIf r245.1 (
                      bnd (faO 4 r1.1 r245.2) fun r246 =>
                      bnd (ldC r246.1 r246.2) fun r247 =>
                      bnd (oMv (.int .i64 (-1)) r247.2) fun r248 =>
                      bnd (oMv r247.1 r248.2) fun r249 =>
                      bnd (oMv (.int .i64 0) r249.2) fun r250 =>
                      oRes Tryd.prog [(r248.1, none), (r249.1, none), (r250.1, none)] r250.2) (
                      bnd (oMv (.int .i64 (-1)) r245.2) fun r251 =>
                      bnd (oMv (.int .i64 (-1)) r251.2) fun r252 =>
                      bnd (oMv (.int .i64 0) r252.2) fun r253 =>
                      oRes Tryd.prog [(r251.1, none), (r252.1, none), (r253.1, none)] r253.2)) (
                    bnd (oBin Tryd.prog .eql 3 false true r15.1 (.int .i64 11) r245.2) fun r254 =>
                    bnd (oMv r254.1 r254.2) fun r255 =>
                    vIf r255.1 (
                      bnd (faO 4 r1.1 r255.2) fun r256 =>
                      bnd (ldC r256.1 r256.2) fun r257 =>
                      bnd (oMv (.int .i64 (-1)) r257.2) fun r258 =>
                      bnd (oMv r257.1 r258.2) fun r259 =>
                      bnd (oMv (.int .i64 0) r259.2) fun r260 =>
                      oRes Tryd.prog [(r258.1, none), (r259.1, none), (r260.1, none)] r260.2) (
                      bnd (oMv (.int .i64 (-1)) r255.2) fun r261 =>
                      bnd (oMv (.int .i64 (-1)) r261.2) fun r262 =>
                      bnd (oMv (.int .i64 0) r262.2) fun r263 =>
                      oRes Tryd.prog [(r261.1, none), (r262.1, none), (r263.1, none)] r263.2)))))))) (
        bnd (oBin Tryd.prog .eql 3 false true r15.1 (.int .i64 4) r141.2) fun r264 =>
        bnd (oMv r264.1 r264.2) fun r265 =>
        vIf r265.1 (
          vIf r265.1 (
            bnd (faO 3 r1.1 r265.2) fun r266 =>
            bnd (ldC r266.1 r266.2) fun r267 =>
            bnd (oMv r267.1 r267.2) fun r268 =>
            bnd (oMv (.int .i64 (-1)) r268.2) fun r269 =>
            bnd (oMv (.int .i64 0) r269.2) fun r270 =>
            oRes Tryd.prog [(r268.1, none), (r269.1, none), (r270.1, none)] r270.2) (
            bnd (oBin Tryd.prog .eql 3 false true r15.1 (.int .i64 6) r265.2) fun r271 =>
            bnd (oMv r271.1 r271.2) fun r272 =>
            vIf r272.1 (
              vIf r272.1 (
                bnd (faO 7 r1.1 r272.2) fun r273 =>
                bnd (faO 0 r273.1 r273.2) fun r274 =>
                bnd (ldC r274.1 r274.2) fun r275 =>
                bnd (oConv Tryd.prog 22 3 r275.1 r275.2) fun r276 =>
                bnd (oMv r276.1 r276.2) fun r277 =>
                bnd (oMv (.int .i64 (-1)) r277.2) fun r278 =>
                bnd (oMv (.int .i64 0) r278.2) fun r279 =>
                oRes Tryd.prog [(r277.1, none), (r278.1, none), (r279.1, none)] r279.2) (
                bnd (oBin Tryd.prog .eql 3 false true r15.1 (.int .i64 3) r272.2) fun r280 =>
                bnd (oMv r280.1 r280.2) fun r281 =>
                vIf r281.1 (
                  vIf r281.1 (
                    bnd (faO 4 r1.1 r281.2) fun r282 =>
                    bnd (ldC r282.1 r282.2) fun r283 =>
                    bnd (oMv (.int .i64 (-1)) r283.2) fun r284 =>
                    bnd (oMv r283.1 r284.2) fun r285 =>
                    bnd (oMv (.int .i64 0) r285.2) fun r286 =>
                    oRes Tryd.prog [(r284.1, none), (r285.1, none), (r286.1, none)] r286.2) (
                    bnd (oMv (.int .i64 (-1)) r281.2) fun r287 =>
                    bnd (oMv (.int .i64 (-1)) r287.2) fun r288 =>
                    bnd (oMv (.int .i64 0) r288.2) fun r289 =>
                    oRes Tryd.prog [(r287.1, none), (r288.1, none), (r289.1, none)] r289.2)) (
                  bnd (oBin Tryd.prog .eql 3 false true r15.1 (.int .i64 10) r281.2) fun r290 =>
                  bnd (oMv r290.1 r290.2) fun r291 =>
                  vIf r291.1 (
                    vIf r291.1 (
                      bnd (faO 4 r1.1 r291.2) fun r292 =>
                      bnd (ldC r292.1 r292.2) fun r293 =>
                      bnd (oMv (.int .i64 (-1)) r293.2) fun r294 =>
                      bnd (oMv r293.1 r294.2) fun r295 =>
                      bnd (oMv (.int .i64 0) r295.2) fun r296 =>
                      oRes Tryd.prog [(r294.1, none), (r295.1, none), (r296.1, none)] r296.2) (
                      bnd (oMv (.int .i64 (-1)) r291.2) fun r297 =>
                      bnd (oMv (.int .i64 (-1)) r297.2) fun r298 =>
                      bnd (oMv (.int .i64 0) r298.2) fun r299 =>
                      oRes Tryd.prog [(r297.1, none), (r298.1, none), (r299.1, none)] r299.2)) (
                    bnd (oBin Tryd.prog .eql 3 false true r15.1 (.int .i64 11) r291.2) fun r300 =>
                    bnd (oMv r300.1 r300.2) fun r301 =>
                    vIf r301.1 (
                      bnd (faO 4 r1.1 r301.2) fun r302 =>
                      bnd (ldC r302.1 r302.2) fun r303 =>
                      bnd (oMv (.int .i64 (-1)) r303.2) fun r304 =>
                      bnd (oMv r303.1 r304.2) fun r305 =>
                      bnd (oMv (.int .i64 0) r305.2) fun r306 =>
                      oRes Tryd.prog [(r304.1, none), (r305.1, none), (r306.1, none)] r306.2) (
                      bnd (oMv (.int .i64 (-1)) r301.2) fun r307 =>
                      bnd (oMv (.int .i64 (-1)) r307.2) fun r308 =>
                      bnd (oMv (.int .i64 0) r308.2) fun r309 =>
                      oRes Tryd.prog [(r307.1, none), (r308.1, none), (r309.1, none)] r309.2))))) (
              bnd (oBin Tryd.prog .eql 3 false true r15.1 (.int .i64 7) r272.2) fun r310 =>
              bnd (oMv r310.1 r310.2) fun r311 =>
              vIf r311.1 (
                vIf r311.1 (
                  bnd (faO 7 r1.1 r311.2) fun r312 =>
                  bnd (faO 0 r312.1 r312.2) fun r313 =>
                  bnd (ldC r313.1 r313.2) fun r314 =>
                  bnd (oConv Tryd.prog 22 3 r314.1 r314.2) fun r315 =>
                  bnd (oMv r315.1 r315.2) fun r316 =>
                  bnd (oMv (.int .i64 (-1)) r316.2) fun r317 =>
                  bnd (oMv (.int .i64 0) r317.2) fun r318 =>
                  oRes Tryd.prog [(r316.1, none), (r317.1, none), (r318.1, none)] r318.2) (
                  bnd (oBin Tryd.prog .eql 3 false true r15.1 (.int .i64 3) r311.2) fun r319 =>
                  bnd (oMv r319.1 r319.2) fun r320 =>
                  vIf r320.1 (
                    vIf r320.1 (
                      bnd (faO 4 r1.1 r320.2) fun r321 =>
                      bnd (ldC r321.1 r321.2) fun r322 =>
                      bnd (oMv (.int .i64 (-1)) r322.2) fun r323 =>
                      bnd (oMv r322.1 r323.2) fun r324 =>
                      bnd (oMv (.int .i64 0) r324.2) fun r325 =>
                      oRes Tryd.prog [(r323.1, none), (r324.1, none), (r325.1, none)] r325.2) (
                      bnd (oMv (.int .i64 (-1)) r320.2) fun r326 =>
                      bnd (oMv (.int .i64 (-1)) r326.2) fun r327 =>
                      bnd (oMv (.int .i64 0) r327.2) fun r328 =>
                      oRes Tryd.prog [(r326.1, none), (r327.1, none), (r328.1, none)] r328.2)) (
                    bnd (oBin Tryd.prog .eql 3 false true r15.1 (.int .i64 10) r320.2) fun r329 =>
                    bnd (oMv r329.1 r329.2) fun r330 =>
                    vIf r330.1 (
                      vIf r330.1 (
                        bnd (faO 4 r1.1 r330.2) fun r331 =>
                        bnd (ldC r331.1 r331.2) fun r332 =>
                        bnd (oMv (.int .i64 (-1)) r332.2) fun r333 =>
                        bnd (oMv r332.1 r333.2) fun r334 =>
                        bnd (oMv (.int .i64 0) r334.2) fun r335 =>
                        oRes Tryd.prog [(r333.1, none), (r334.1, none), (r335.1, none)] r335.2) (
                        bnd (oMv (.int .i64 (-1)) r330.2) fun r336 =>
                        bnd (oMv (.int .i64 (-1)) r336.2) fun r337 =>
                        bnd (oMv (.int .i64 0) r337.2) fun r338 =>
                        oRes Tryd.prog [(r336.1, none), (r337.1, none), (r338.1, none)] r338.2)) (
                      bnd (oBin Tryd.prog .eql 3 false true r15.1 (.int .i64 11) r330.2) fun r339 =>
                      bnd (oMv r339.1 r339.2) fun r340 =>
                      vIf r340.1 (
                        bnd (faO 4 r1.1 r340.2) fun r341 =>
                        bnd (ldC r341.1 r341.2) fun r342 =>
                        bnd (oMv (.int .i64 (-1)) r342.2) fun r343 =>
                        bnd (oMv r342.1 r343.2) fun r344 =>
                        bnd (oMv (.int .i64 0) r344.2) fun r345 =>
                        oRes Tryd.prog [(r343.1, none), (r344.1, none), (r345.1, none)] r345.2) (
                        bnd (oMv (.int .i64 (-1)) r340.2) fun r346 =>
                        bnd (oMv (.int .i64 (-1)) r346.2) fun r347 =>
                        bnd (oMv (.int .i64 0) r347.2) fun r348 =>
                        oRes Tryd.prog [(r346.1, none), (r347.1, none), (r348.1, none)] r348.2))))) (
                bnd (oBin Tryd.prog .eql 3 false true r15.1 (.int .i64 9) r311.2) fun r349 =>
                bnd (oMv r349.1 r349.2) fun r350 =>
                vIf r350.1 (
                  bnd (faO 7 r1.1 r350.2) fun r351 =>
                  bnd (faO 0 r351.1 r351.2) fun r352 =>
                  bnd (ldC r352.1 r352.2) fun r353 =>
                  bnd (oConv Tryd.prog 22 3 r353.1 r353.2) fun r354 =>
                  bnd (oMv r354.1 r354.2) fun r355 =>
                  bnd (oMv (.int .i64 (-1)) r355.2) fun r356 =>
                  bnd (oMv (.int .i64 0) r356.2) fun r357 =>
                  oRes Tryd.prog [(r355.1, none), (r356.1, none), (r357.1, none)] r357.2) (
                  bnd (oBin Tryd.prog .eql 3 false true r15.1 (.int .i64 3) r350.2) fun r358 =>
                  bnd (oMv r358.1 r358.2) fun r359 =>
                  vIf r359.1 (
                    vIf r359.1 (
                      bnd (faO 4 r1.1 r359.2) fun r360 =>
                      bnd (ldC r360.1 r360.2) fun r361 =>
                      bnd (oMv (.int .i64 (-1)) r361.2) fun r362 =>
                      bnd (oMv r361.1 r362.2) fun r363 =>
                      bnd (oMv (.int .i64 0) r363.2) fun r364 =>
                      oRes Tryd.prog [(r362.1, none), (r363.1, none), (r364.1, none)] r364.2) (
                      bnd (oMv (.int .i64 (-1)) r359.2) fun r365 =>
                      bnd (oMv (.int .i64 (-1)) r365.2) fun r366 =>
                      bnd (oMv (.int .i64 0) r366.2) fun r367 =>
                      oRes Tryd.prog [(r365.1, none), (r366.1, none), (r367.1, none)] r367.2)) (
                    bnd (oBin Tryd.prog .eql 3 false true r15.1 (.int .i64 10) r359.2) fun r368 =>
                    bnd (oMv r368.1 r368.2) fun r369 =>
                    vIf r369.1 (
                      vIf r369.1 (
                        bnd (faO 4 r1.1 r369.2) fun r370 =>
                        bnd (ldC r370.1 r370.2) fun r371 =>
                        bnd (oMv (.int .i64 (-1)) r371.2) fun r372 =>
                        bnd (oMv r371.1 r372.2) fun r373 =>
                        bnd (oMv (.int .i64 0) r373.2) fun r374 =>
                        oRes Tryd.prog [(r372.1, none), (r373.1, none), (r374.1, none)] r374.2) (
                        bnd (oMv (.int .i64 (-1)) r369.2) fun r375 =>
                        bnd (oMv (.int .i64 (-1)) r375.2) fun r376 =>
                        bnd (oMv (.int .i64 0) r376.2) fun r377 =>
                        oRes Tryd.prog [(r375.1, none), (r376.1, none), (r377.1, none)] r377.2)) (
                      bnd (oBin Tryd.prog .eql 3 false true r15.1 (.int .i64 11) r369.2) fun r378 =>
                      bnd (oMv r378.1 r378.2) fun r379 =>
                      vIf r379.1 (
                        bnd (faO 4 r1.1 r379.2) fun r380 =>
                        bnd (ldC r380.1 r380.2) fun r381 =>
                        bnd (oMv (.int .i64 (-1)) r381.2) fun r382 =>
                        bnd (oMv r381.1 r382.2) fun r383 =>
                        bnd (oMv (.int .i64 0) r383.2) fun r384 =>
                        oRes Tryd.prog [(r382.1, none), (r383.1, none), (r384.1, none)] r384.2) (
                        bnd (oMv (.int .i64 (-1)) r379.2) fun r385 =>
                        bnd (oMv (.int .i64 (-1)) r385.2) fun r386 =>
                        bnd (oMv (.int .i64 0) r386.2) fun r387 =>
                        oRes Tryd.prog [(r385.1, none), (r386.1, none), (r387.1, none)] r387.2)))))))) (
          bnd (oBin Tryd.prog .eql 3 false true r15.1 (.int .i64 8) r265.2) fun r388 =>
          bnd (oMv r388.1 r388.2) fun r389 =>
          vIf r389.1 (
            bnd (faO 3 r1.1 r389.2) fun r390 =>
            bnd (ldC r390.1 r390.2) fun r391 =>
            bnd (oMv r391.1 r391.2) fun r392 =>
            bnd (oMv (.int .i64 (-1)) r392.2) fun r393 =>
            bnd (oMv (.int .i64 0) r393.2) fun r394 =>
            oRes Tryd.prog [(r392.1, none), (r393.1, none), (r394.1, none)] r394.2) (
            bnd (oBin Tryd.prog .eql 3 false true r15.1 (.int .i64 6) r389.2) fun r395 =>
            bnd (oMv r395.1 r395.2) fun r396 =>
            vIf r396.1 (
              vIf r396.1 (
                bnd (faO 7 r1.1 r396.2) fun r397 =>
                bnd (faO 0 r397.1 r397.2) fun r398 =>
                bnd (ldC r398.1 r398.2) fun r399 =>
                bnd (oConv Tryd.prog 22 3 r399.1 r399.2) fun r400 =>
                bnd (oMv r400.1 r400.2) fun r401 =>
                bnd (oMv (.int .i64 (-1)) r401.2) fun r402 =>
                bnd (oMv (.int .i64 0) r402.2) fun r403 =>
                oRes Tryd.prog [(r401.1, none), (r402.1, none), (r403.1, none)] r403.2) (
                bnd (oBin Tryd.prog .eql 3 false true r15.1 (.int .i64 3) r396.2) fun r404 =>
                bnd (oMv r404.1 r404.2) fun r405 =>
                vIf r405.1 (
                  vIf r405.1 (
                    bnd (faO 4 r1.1 r405.2) fun r406 =>
                    bnd (ldC r406.1 r406.2) fun r407 =>
                    bnd (oMv (.int .i64 (-1)) r407.2) fun r408 =>
                    bnd (oMv r407.1 r408.2) fun r409 =>
                    bnd (oMv (.int .i64 0) r409.2) fun r410 =>
                    oRes Tryd.prog [(r408.1, none), (r409.1, none), (r410.1, none)] r410.2) (
                    bnd (oMv (.int .i64 (-1)) r405.2) fun r411 =>
                    bnd (oMv (.int .i64 (-1)) r411.2) fun r412 =>
                    bnd (oMv (.int .i64 0) r412.2) fun r413 =>
                    oRes Tryd.prog [(r411.1, none), (r412.1, none), (r413.1, none)] r413.2)) (
                  bnd (oBin Tryd.prog .eql 3 false true r15.1 (.int .i64 10) r405.2) fun r414 =>
                  bnd (oMv r414.1 r414.2) fun r415 =>
                  vIf r415.1 (
                    vIf r415.1 (
                      bnd (faO 4 r1.1 r415.2) fun r416 =>
                      bnd (ldC r416.1 r416.2) fun r417 =>
                      bnd (oMv (.int .i64 (-1)) r417.2) fun r418 =>
                      bnd (oMv r417.1 r418.2) fun r419 =>
                      bnd (oMv (.int .i64 0) r419.2) fun r420 =>
                      oRes Tryd.prog [(r418.1, none), (r419.1, none), (r420.1, none)] r420.2) (
                      bnd (oMv (.int .i64 (-1)) r415.2) fun r421 =>
                      bnd (oMv (.int .i64 (-1)) r421.2) fun r422 =>
                      bnd (oMv (.int .i64 0) r422.2) fun r423 =>
                      oRes Tryd.prog [(r421.1, none), (r422.1, none), (r423.1, none)] r423.2)) (
                    bnd (oBin Tryd.prog .eql 3 false true r15.1 (.int .i64 11) r415.2) fun r424 =>
                    bnd (oMv r424.1 r424.2) fun r425 =>
                    vIf r425.1 (
                      bnd (faO 4 r1.1 r425.2) fun r426 =>
                      bnd (ldC r426.1 r426.2) fun r427 =>
                      bnd (oMv (.int .i64 (-1)) r427.2) fun r428 =>
                      bnd (oMv r427.1 r428.2) fun r429 =>
                      bnd (oMv (.int .i64 0) r429.2) fun r430 =>
                      oRes Tryd.prog [(r428.1, none), (r429.1, none), (r430.1, none)] r430.2) (
                      bnd (oMv (.int .i64 (-1)) r425.2) fun r431 =>
                      bnd (oMv (.int .i64 (-1)) r431.2) fun r432 =>
                      bnd (oMv (.int .i64 0) r432.2) fun r433 =>
                      oRes Tryd.prog [(r431.1, none), (r432.1, none), (r433.1, none)] r433.2))))) (
              bnd (oBin Tryd.prog .eql 3 false true r15.1 (.int .i64 7) r396.2) fun r434 =>
              bnd (oMv r434.1 r434.2) fun r435 =>
              vIf r435.1 (
                vIf r435.1 (
                  bnd (faO 7 r1.1 r435.2) fun r436 =>
                  bnd (faO 0 r436.1 r436.2) fun r437 =>
                  bnd (ldC r437.1 r437.2) fun r438 =>
                  bnd (oConv Tryd.prog 22 3 r438.1 r438.2) fun r439 =>
                  bnd (oMv r439.1 r439.2) fun r440 =>
                  bnd (oMv (.int .i64 (-1)) r440.2) fun r441 =>
                  bnd (oMv (.int .i64 0) r441.2) fun r442 =>
                  oRes Tryd.prog [(r440.1, none), (r441.1, none), (r442.1, none)] r442.2) (
                  bnd (oBin Tryd.prog .eql 3 false true r15.1 (.int .i64 3) r435.2) fun r443 =>
                  bnd (oMv r443.1 r443.2) fun r444 =>
                  vIf r444.1 (
                    vIf r444.1 (
                      bnd (faO 4 r1.1 r444.2) fun r445 =>
                      bnd (ldC r445.1 r445.2) fun r446 =>
                      bnd (oMv (.int .i64 (-1)) r446.2) fun r447 =>
                      bnd (oMv r446.1 r447.2) fun r448 =>
                      bnd (oMv (.int .i64 0) r448.2) fun r449 =>
                      oRes Tryd.prog [(r447.1, none), (r448.1, none), (r449.1, none)] r449.2) (
                      bnd (oMv (.int .i64 (-1)) r444.2) fun r450 =>
                      bnd (oMv (.int .i64 (-1)) r450.2) fun r451 =>
                      bnd (oMv (.int .i64 0) r451.2) fun r452 =>
                      oRes Tryd.prog [(r450.1, none), (r451.1, none), (r452.1, none)] r452.2)) (
                    bnd (oBin Tryd.prog .eql 3 false true r15.1 (.int .i64 10) r444.2) fun r453 =>
                    bnd (oMv r453.1 r453.2) fun r454 =>
                    vIf r454.1 (
                      vIf r454.1 (
                        bnd (faO 4 r1.1 r454.2) fun r455 =>
                        bnd (ldC r455.1 r455.2) fun r456 =>
                        bnd (oMv (.int .i64 (-1)) r456.2) fun r457 =>
                        bnd (oMv r456.1 r457.2) fun r458 =>
                        bnd (oMv (.int .i64 0) r458.2) fun r459 =>
                        oRes Tryd.prog [(r457.1, none), (r458.1, none), (r459.1, none)] r459.2) (
                        bnd (oMv (.int .i64 (-1)) r454.2) fun r460 =>
                        bnd (oMv (.int .i64 (-1)) r460.2) fun r461 =>
                        bnd (oMv (.int .i64 0) r461.2) fun r462 =>
                        oRes Tryd.prog [(r460.1, none), (r461.1, none), (r462.1, none)] r462.2)) (
                      bnd (oBin Tryd.prog .eql 3 false true r15.1 (.int .i64 11) r454.2) fun r463 =>
                      bnd (oMv r463.1 r463.2) fun r464 =>
                      vIf r464.1 (
                        bnd (faO 4 r1.1 r464.2) fun r465 =>
                        bnd (ldC r465.1 r465.2) fun r466 =>
                        bnd (oMv (.int .i64 (-1)) r466.2) fun r467 =>
                        bnd (oMv r466.1 r467.2) fun r468 =>
                        bnd (oMv (.int .i64 0) r468.2) fun r469 =>
                        oRes Tryd.prog [(r467.1, none), (r468.1, none), (r469.1, none)] r469.2) (
                        bnd (oMv (.int .i64 (-1)) r464.2) fun r470 =>
                        bnd (oMv (.int .i64 (-1)) r470.2) fun r471 =>
                        bnd (oMv (.int .i64 0) r471.2) fun r472 =>
                        oRes Tryd.prog [(r470.1, none), (r471.1, none), (r472.1, none)] r472.2))))) (
                bnd (oBin Tryd.prog .eql 3 false true r15.1 (.int .i64 9) r435.2) fun r473 =>
                bnd (oMv r473.1 r473.2) fun r474 =>
                vIf r474.1 (
                  bnd (faO 7 r1.1 r474.2) fun r475 =>
                  bnd (faO 0 r475.1 r475.2) fun r476 =>
                  bnd (ldC r476.1 r476.2) fun r477 =>
                  bnd (oConv Tryd.prog 22 3 r477.1 r477.2) fun r478 =>
                  bnd (oMv r478.1 r478.2) fun r479 =>
                  bnd (oMv (.int .i64 (-1)) r479.2) fun r480 =>
                  bnd (oMv (.int .i64 0) r480.2) fun r481 =>
                  oRes Tryd.prog [(r479.1, none), (r480.1, none), (r481.1, none)] r481.2) (
                  bnd (oBin Tryd.prog .eql 3 false true r15.1 (.int .i64 3) r474.2) fun r482 =>
                  bnd (oMv r482.1 r482.2) fun r483 =>
                  vIf r483.1 (
                    vIf r483.1 (
                      bnd (faO 4 r1.1 r483.2) fun r484 =>
                      bnd (ldC r484.1 r484.2) fun r485 =>
                      bnd (oMv (.int .i64 (-1)) r485.2) fun r486 =>
                      bnd (oMv r485.1 r486.2) fun r487 =>
                      bnd (oMv (.int .i64 0) r487.2) fun r488 =>
                      oRes Tryd.prog [(r486.1, none), (r487.1, none), (r488.1, none)] r488.2) (
                      bnd (oMv (.int .i64 (-1)) r483.2) fun r489 =>
                      bnd (oMv (.int .i64 (-1)) r489.2) fun r490 =>
                      bnd (oMv (.int .i64 0) r490.2) fun r491 =>
                      oRes Tryd.prog [(r489.1, none), (r490.1, none), (r491.1, none)] r491.2)) (
                    bnd (oBin Tryd.prog .eql 3 false true r15.1 (.int .i64 10) r483.2) fun r492 =>
                    bnd (oMv r492.1 r492.2) fun r493 =>
                    vIf r493.1 (
                      vIf r493.1 (
                        bnd (faO 4 r1.1 r493.2) fun r494 =>
                        bnd (ldC r494.1 r494.2) fun r495 =>
                        bnd (oMv (.int .i64 (-1)) r495.2) fun r496 =>
                        bnd (oMv r495.1 r496.2) fun r497 =>
                        bnd (oMv (.int .i64 0) r497.2) fun r498 =>
                        oRes Tryd.prog [(r496.1, none), (r497.1, none), (r498.1, none)] r498.2) (
                        bnd (oMv (.int .i64 (-1)) r493.2) fun r499 =>
                        bnd (oMv (.int .i64 (-1)) r499.2) fun r500 =>
                        bnd (oMv (.int .i64 0) r500.2) fun r501 =>
                        oRes Tryd.prog [(r499.1, none), (r500.1, none), (r501.1, none)] r501.2)) (
                      bnd (oBin Tryd.prog .eql 3 false true r15.1 (.int .i64 11) r493.2) fun r502 =>
                      bnd (oMv r502.1 r502.2) fun r503 =>
                      vIf r503.1 (
                        bnd (faO 4 r1.1 r503.2) fun r504 =>
                        bnd (ldC r504.1 r504.2) fun r505 =>
                        bnd (oMv (.int .i64 (-1)) r505.2) fun r506 =>
                        bnd (oMv r505.1 r506.2) fun r507 =>
                        bnd (oMv (.int .i64 0) r507.2) fun r508 =>
                        oRes Tryd.prog [(r506.1, none), (r507.1, none), (r508.1, none)] r508.2) (
                        bnd (oMv (.int .i64 (-1)) r503.2) fun r509 =>
                        bnd (oMv (.int .i64 (-1)) r509.2) fun r510 =>
                        bnd (oMv (.int .i64 0) r510.2) fun r511 =>
                        oRes Tryd.prog [(r509.1, none), (r510.1, none), (r511.1, none)] r511.2)))))))))))
theorem ref22_Target_eq (call : Eng.Callee) (x0 : Value) (W : AW) : kFun Tryd.prog call 34 (cod 13) (rss 13) [x0] W = ref22_Target call x0 W := by kernel_rfl
theorem ref22_Target_om {x0 : Value} {W : AW} {r : Value × AW} (h : ref22_Target omS x0 W = some r) : omS (.func (.func 13) #[] #[]) [x0] W = some (gc W r) := om_of (nt := 34) (n := 1) (by kernel_rfl) (by kernel_rfl) rfl ((ref22_Target_eq omS x0 W).trans h)
noncomputable def ref22_Check (call : Eng.Callee) (x0 : Value) (W : AW) : Option (Value × AW) :=
  bnd (oBox x0 W) fun r1 =>
  bnd (oMv (.int .i64 0) r1.2) fun r2 =>
  bnd (faO 0 r1.1 r2.2) fun r3 =>
  bnd (ldC r3.1 r3.2) fun r4 =>
  bnd (oBuild Tryd.prog 27 [(0, r4.1)] r4.2) fun r5 =>
  bnd (oAlloc Tryd.prog 27 r5.2) fun r6 =>
  bnd (stV 12 r6.1 r5.1 r6.2) fun r7 =>
  bnd (faO 0 r1.1 r7.2) fun r8 =>
  bnd (ldC r8.1 r8.2) fun r9 =>
  bnd (oBin Tryd.prog .eql 3 false true r9.1 (.int .i64 1) r9.2) fun r10 =>
  bnd (oMv r10.1 r10.2) fun r11 =>
  vIf r11.1 (
    bnd (faO 1 r1.1 r11.2) fun r12 =>
    bnd (ldC r12.1 r12.2) fun r13 =>
    bnd (faO 1 r6.1 r13.2) fun r14 =>
    bnd (stV 1 r14.1 r13.1 r14.2) fun r15 =>
    bnd (ldA 12 r6.1 r15.2) fun r16 =>
    bnd (ldA 12 r1.1 r16.2) fun r17 =>
    bnd (oBin Tryd.prog .neq 27 false false r16.1 r17.1 r17.2) fun r18 =>
    vIf r18.1 (
      bnd (oMv (.int .i64 2) r18.2) fun r19 =>
      oRes Tryd.prog [(r19.1, none)] r19.2) (
      bnd (oMv (.int .i64 0) r18.2) fun r20 =>
      oRes Tryd.prog [(r20.1, none)] r20.2)) (
    bnd (oBin Tryd.prog .eql 3 false true r9.1 (.int .i64 2) r11.2) fun r21 =>
    bnd (oMv r21.1 r21.2) fun r22 =>
    vIf r22.1 (
      vIf r22.1 (
        bnd (faO 1 r1.1 r22.2) fun r23 =>
        bnd (ldC r23.1 r23.2) fun r24 =>
        bnd (faO 2 r1.1 r24.2) fun r25 =>
        bnd (ldC r25.1 r25.2) fun r26 =>
        bnd (faO 3 r1.1 r26.2) fun r27 =>
        bnd (ldC r27.1 r27.2) fun r28 =>
        bnd (faO 1 r6.1 r28.2) fun r29 =>
        bnd (stV 1 r29.1 r24.1 r29.2) fun r30 =>
        bIf (agV true (ldC r27.1 r30.2) r28.1 && (agV true (ldC r25.1 r30.2) r26.1 && true)) (bnd (faO 2 r6.1 r30.2) fun r31 =>
        bnd (stV 1 r31.1 r26.1 r31.2) fun r32 =>
        bIf (agV true (ldC r27.1 r32.2) r28.1 && true) (bnd (faO 3 r6.1 r32.2) fun r33 =>
        bnd (stV 1 r33.1 r28.1 r33.2) fun r34 =>
        bnd (ldA 12 r6.1 r34.2) fun r35 =>
        bnd (ldA 12 r1.1 r35.2) fun r36 =>
        bnd (oBin Tryd.prog .neq 27 false false r35.1 r36.1 r36.2) fun r37 =>
        vIf r37.1 (
          bnd (oMv (.int .i64 2) r37.2) fun r38 =>
          oRes Tryd.prog [(r38.1, none)] r38.2) (
          bnd (oMv (.int .i64 0) r37.2) fun r39 =>
          oRes Tryd.prog [(r39.1, none)] r39.2)) none) none) (
        bnd (oBin Tryd.prog .eql 3 false true r9.1 (.int .i64 3) r22.2) fun r40 =>
        bnd (oMv r40.1 r40.2) fun r41 =>
        vIf r41.1 (
          bnd (faO 1 r1.1 r41.2) fun r42 =>
          bnd (ldC r42.1 r42.2) fun r43 =>
          bnd (faO 2 r1.1 r43.2) fun r44 =>
          bnd (ldC r44.1 r44.2) fun r45 =>
          bnd (faO 4 r1.1 r45.2) fun r46 =>
          bnd (ldC r46.1 r46.2) fun r47 =>
          bnd (faO 5 r1.1 r47.2) fun r48 =>
          bnd (ldC r48.1 r48.2) fun r49 =>
          bnd (faO 1 r6.1 r49.2) fun r50 =>
          bnd (stV 1 r50.1 r43.1 r50.2) fun r51 =>
          bIf (agV true (ldC r48.1 r51.2) r49.1 && (agV true (ldC r46.1 r51.2) r47.1 && (agV true (ldC r44.1 r51.2) r45.1 && true))) (bnd (faO 2 r6.1 r51.2) fun r52 =>
          bnd (stV 1 r52.1 r45.1 r52.2) fun r53 =>
          bIf (agV true (ldC r48.1 r53.2) r49.1 && (agV true (ldC r46.1 r53.2) r47.1 && true)) (bnd (faO 4 r6.1 r53.2) fun r54 =>
          bnd (stV 1 r54.1 r47.1 r54.2) fun r55 =>
          bIf (agV true (ldC r48.1 r55.2) r49.1 && true) (bnd (faO 5 r6.1 r55.2) fun r56 =>
          bnd (stV 1 r56.1 r49.1 r56.2) fun r57 =>
          bnd (ldA 12 r6.1 r57.2) fun r58 =>
          bnd (ldA 12 r1.1 r58.2) fun r59 =>
          bnd (oBin Tryd.prog .neq 27 false false r58.1 r59.1 r59.2) fun r60 =>
          vIf r60.1 (
            bnd (oMv (.int .i64 2) r60.2) fun r61 =>
            oRes Tryd.prog [(r61.1, none)] r61.2) (
            bnd (oMv (.int .i64 0) r60.2) fun r62 =>
            oRes Tryd.prog [(r62.1, none)] r62.2)) none) none) none) (
          bnd (oBin Tryd.prog .eql 3 false true r9.1 (.int .i64 6) r41.2) fun r63 =>
          bnd (oMv r63.1 r63.2) fun r64 =>
          vIf r64.1 (
            bnd (faO 1 r1.1 r64.2) fun r65 =>
            bnd (ldC r65.1 r65.2) fun r66 =>
            bnd (faO 2 r1.1 r66.2) fun r67 =>
            bnd (ldC r67.1 r67.2) fun r68 =>
            bnd (faO 6 r1.1 r68.2) fun r69 =>
            bnd (ldC r69.1 r69.2) fun r70 =>
            bnd (faO 7 r1.1 r70.2) fun r71 =>
            bnd (ldA 4 r71.1 r71.2) fun r72 =>
            bnd (faO 1 r6.1 r72.2) fun r73 =>
            bnd (stV 1 r73.1 r66.1 r73.2) fun r74 =>
            bIf (agV true (ldA 4 r71.1 r74.2) r72.1 && (agV true (ldC r69.1 r74.2) r70.1 && (agV true (ldC r67.1 r74.2) r68.1 && true))) (bnd (faO 2 r6.1 r74.2) fun r75 =>
            bnd (stV 1 r75.1 r68.1 r75.2) fun r76 =>
            bIf (agV true (ldA 4 r71.1 r76.2) r72.1 && (agV true (ldC r69.1 r76.2) r70.1 && true)) (bnd (faO 6 r6.1 r76.2) fun r77 =>
            bnd (stV 1 r77.1 r70.1 r77.2) fun r78 =>
            bIf (agV true (ldA 4 r71.1 r78.2) r72.1 && true) (bnd (faO 7 r6.1 r78.2) fun r79 =>
            bnd (stV 4 r79.1 r72.1 r79.2) fun r80 =>
            bnd (ldA 12 r6.1 r80.2) fun r81 =>
            bnd (ldA 12 r1.1 r81.2) fun r82 =>
            bnd (oBin Tryd.prog .neq 27 false false r81.1 r82.1 r82.2) fun r83 =>
            vIf r83.1 (
              bnd (oMv (.int .i64 2) r83.2) fun r84 =>
              oRes Tryd.prog [(r84.1, none)] r84.2) (
              bnd (oMv (.int .i64 0) r83.2) fun r85 =>
              oRes Tryd.prog [(r85.1, none)] r85.2)) none) none) none) (
            bnd (oBin Tryd.prog .eql 3 false true r9.1 (.int .i64 7) r64.2) fun r86 =>
            bnd (oMv r86.1 r86.2) fun r87 =>
            vIf r87.1 (
              bnd (faO 1 r1.1 r87.2) fun r88 =>
              bnd (ldC r88.1 r88.2) fun r89 =>
              bnd (faO 2 r1.1 r89.2) fun r90 =>
              bnd (ldC r90.1 r90.2) fun r91 =>
              bnd (faO 7 r1.1 r91.2) fun r92 =>
              bnd (ldA 4 r92.1 r92.2) fun r93 =>
              bnd (faO 1 r6.1 r93.2) fun r94 =>
              bnd (stV 1 r94.1 r89.1 r94.2) fun r95 =>
              bIf (agV true (ldA 4 r92.1 r95.2) r93.1 && (agV true (ldC r90.1 r95.2) r91.1 && true)) (bnd (faO 2 r6.1 r95.2) fun r96 =>
              bnd (stV 1 r96.1 r91.1 r96.2) fun r97 =>
              bIf (agV true (ldA 4 r92.1 r97.2) r93.1 && true) (bnd (faO 7 r6.1 r97.2) fun r98 =>
              bnd (stV 4 r98.1 r93.1 r98.2) fun r99 =>
              bnd (ldA 12 r6.1 r99.2) fun r100 =>
              bnd (ldA 12 r1.1 r100.2) fun r101 =>
              bnd (oBin Tryd.prog .neq 27 false false r100.1 r101.1 r101.2) fun r102 =>
              vIf r102.1 (
                bnd (oMv (.int .i64 2) r102.2) fun r103 =>
                oRes Tryd.prog [(r103.1, none)] r103.2) (
                bnd (oMv (.int .i64 0) r102.2) fun r104 =>
                oRes Tryd.prog [(r104.1, none)] r104.2)) none) none) (
              bnd (oBin Tryd.prog .eql 3 false true r9.1 (.int .i64 9) r87.2) fun r105 =>
              bnd (oMv r105.1 r105.2) fun r106 =>
              vIf r106.1 (
                bnd (faO 7 r1.1 r106.2) fun r107 =>
                bnd (ldA 4 r107.1 r107.2) fun r108 =>
                bnd (faO 7 r6.1 r108.2) fun r109 =>
                bnd (stV 4 r109.1 r108.1 r109.2) fun r110 =>
                bnd (ldA 12 r6.1 r110.2) fun r111 =>
                bnd (ldA 12 r1.1 r111.2) fun r112 =>
                bnd (oBin Tryd.prog .neq 27 false false r111.1 r112.1 r112.2) fun r113 =>
                vIf r113.1 (
                  bnd (oMv (.int .i64 2) r113.2) fun r114 =>
                  oRes Tryd.prog [(r114.1, none)] r114.2) (
                  bnd (oMv (.int .i64 0) r113.2) fun r115 =>
                  oRes Tryd.prog [(r115.1, none)] r115.2)) (
                bnd (oBin Tryd.prog .eql 3 false true r9.1 (.int .i64 10) r106.2) fun r116 =>
                bnd (oMv r116.1 r116.2) fun r117 =>
                vIf r117.1 (
                  vIf r117.1 (
                    bnd (faO 1 r1.1 r117.2) fun r118 =>
                    bnd (ldC r118.1 r118.2) fun r119 =>
                    bnd (faO 2 r1.1 r119.2) fun r120 =>
                    bnd (ldC r120.1 r120.2) fun r121 =>
                    bnd (faO 4 r1.1 r121.2) fun r122 =>
                    bnd (ldC r122.1 r122.2) fun r123 =>
                    bnd (faO 1 r6.1 r123.2) fun r124 =>
                    bnd (stV 1 r124.1 r119.1 r124.2) fun r125 =>
                    bIf (agV true (ldC r122.1 r125.2) r123.1 && (agV true (ldC r120.1 r125.2) r121.1 && true)) (bnd (faO 2 r6.1 r125.2) fun r126 =>
                    bnd (stV 1 r126.1 r121.1 r126.2) fun r127 =>
                    bIf (agV true (ldC r122.1 r127.2) r123.1 && true) (bnd (faO 4 r6.1 r127.2) fun r128 =>
                    bnd (stV 1 r128.1 r123.1 r128.2) fun r129 =>
                    bnd (ldA 12 r6.1 r129.2) fun r130 =>
                    bnd (ldA 12 r1.1 r130.2) fun r131 =>
                    bnd (oBin Tryd.prog .neq 27 false false r130.1 r131.1 r131.2) fun r132 =>
                    vIf r132.1 (
                      bnd (oMv (.int .i64 2) r132.2) fun r133 =>
                      oRes Tryd.prog [(r133.1, none)] r133.2) (
                      bnd (oMv (.int .i64 0) r132.2) fun r134 =>
                      oRes Tryd.prog [(r134.1, none)] r134.2)) none) none) (
                    bnd (oBin Tryd.prog .eql 3 false true r9.1 (.int .i64 12) r117.2) fun r135 =>
                    bnd (oMv r135.1 r135.2) fun r136 =>
                    vIf r136.1 (
                      bnd (faO 11 r1.1 r136.2) fun r137 =>
                      bnd (ldC r137.1 r137.2) fun r138 =>
                      bnd (faO 11 r6.1 r138.2) fun r139 =>
                      bnd (stV 1 r139.1 r138.1 r139.2) fun r140 =>
                      bnd (ldA 12 r6.1 r140.2) fun r141 =>
                      bnd (ldA 12 r1.1 r141.2) fun r142 =>
                      bnd (oBin Tryd.prog .neq 27 false false r141.1 r142.1 r142.2) fun r143 =>
                      vIf r143.1 (
                        bnd (oMv (.int .i64 2) r143.2) fun r144 =>
                        oRes Tryd.prog [(r144.1, none)] r144.2) (
                        bnd (oMv (.int .i64 0) r143.2) fun r145 =>
                        oRes Tryd.prog [(r145.1, none)] r145.2)) (
                      bnd (oMv (.int .i64 2) r136.2) fun r146 =>
                      oRes Tryd.prog [(r146.1, none)] r146.2))) (
                  bnd (oBin Tryd.prog .eql 3 false true r9.1 (.int .i64 11) r117.2) fun r147 =>
                  bnd (oMv r147.1 r147.2) fun r148 =>
                  vIf r148.1 (
                    bnd (faO 1 r1.1 r148.2) fun r149 =>
                    bnd (ldC r149.1 r149.2) fun r150 =>
                    bnd (faO 2 r1.1 r150.2) fun r151 =>
                    bnd (ldC r151.1 r151.2) fun r152 =>
                    bnd (faO 4 r1.1 r152.2) fun r153 =>
                    bnd (ldC r153.1 r153.2) fun r154 =>
                    bnd (faO 1 r6.1 r154.2) fun r155 =>
                    bnd (stV 1 r155.1 r150.1 r155.2) fun r156 =>
                    bIf (agV true (ldC r153.1 r156.2) r154.1 && (agV true (ldC r151.1 r156.2) r152.1 && true)) (bnd (faO 2 r6.1 r156.2) fun r157 =>
                    bnd (stV 1 r157.1 r152.1 r157.2) fun r158 =>
                    bIf (agV true (ldC r153.1 r158.2) r154.1 && true) (bnd (faO 4 r6.1 r158.2) fun r159 =>
                    bnd (stV 1 r159.1 r154.1 r159.2) fun r160 =>
                    bnd (ldA 12 r6.1 r160.2) fun r161 =>
                    bnd (ldA 12 r1.1 r161.2) fun r162 =>
                    bnd (oBin Tryd.prog .neq 27 false false r161.1 r162.1 r162.2) fun r163 =>
                    vIf r163.1 (
                      bnd (oMv (.int .i64 2) r163.2) fun r164 =>
                      oRes Tryd.prog [(r164.1, none)] r164.2) (
                      bnd (oMv (.int .i64 0) r163.2) fun r165 =>
                      oRes Tryd.prog [(r165.1, none)] r165.2)) none) none) (
                    bnd (oBin Tryd.prog .eql 3 false true r9.1 (.int .i64 12) r148.2) fun r166 =>
                    bnd (oMv r166.1 r166.2) fun r167 =>
                    vIf r167.1 (
                      bnd (faO 11 r1.1 r167.2) fun r168 =>
                      bnd (ldC r168.1 r168.2) fun r169 =>
                      bnd (faO 11 r6.1 r169.2) fun r170 =>
                      bnd (stV 1 r170.1 r169.1 r170.2) fun r171 =>
                      bnd (ldA 12 r6.1 r171.2) fun r172 =>
                      bnd (ldA 12 r1.1 r172.2) fun r173 =>
                      bnd (oBin Tryd.prog .neq 27 false false r172.1 r173.1 r173.2) fun r174 =>
                      vIf r174.1 (
                        bnd (oMv (.int .i64 2) r174.2) fun r175 =>
                        oRes Tryd.prog [(r175.1, none)] r175.2) (
                        bnd (oMv (.int .i64 0) r174.2) fun r176 =>
                        oRes Tryd.prog [(r176.1, none)] r176.2)) (
                      bnd (oMv (.int .i64 2) r167.2) fun r177 =>
                      oRes Tryd.prog [(r177.1, none)] r177.2))))))))) (
      bnd (oBin Tryd.prog .eql 3 false true r9.1 (.int .i64 5) r22.2) fun r178 =>
      bnd (oMv r178.1 r178.2) fun r179 =>
      vIf r179.1 (
        vIf r179.1 (
          bnd (faO 1 r1.1 r179.2) fun r180 =>
          bnd (ldC r180.1 r180.2) fun r181 =>
          bnd (faO 2 r1.1 r181.2) fun r182 =>
          bnd (ldC r182.1 r182.2) fun r183 =>
          bnd (faO 3 r1.1 r183.2) fun r184 =>
          bnd (ldC r184.1 r184.2) fun r185 =>
          bnd (faO 1 r6.1 r185.2) fun r186 =>
          bnd (stV 1 r186.1 r181.1 r186.2) fun r187 =>
          bIf (agV true (ldC r184.1 r187.2) r185.1 && (agV true (ldC r182.1 r187.2) r183.1 && true)) (bnd (faO 2 r6.1 r187.2) fun r188 =>
          bnd (stV 1 r188.1 r183.1 r188.2) fun r189 =>
          bIf (agV true (ldC r184.1 r189.2) r185.1 && true) (bnd (faO 3 r6.1 r189.2) fun r190 =>
          bnd (stV 1 r190.1 r185.1 r190.2) fun r191 =>
          bnd (ldA 12 r6.1 r191.2) fun r192 =>
          bnd (ldA 12 r1.1 r192.2) fun r193 =>
          bnd (oBin Tryd.prog .neq 27 false false r192.1 r193.1 r193.2) fun r194 =>
          vIf r194.1 (
            bnd (oMv (.int .i64 2) r194.2) fun r195 =>
            oRes Tryd.prog [(r195.1, none)] r195.2) (
            bnd (oMv (.int .i64 0) r194.2) fun r196 =>
            oRes Tryd.prog [(r196.1, none)] r196.2)) none) none) (
          bnd (oBin Tryd.prog .eql 3 false true r9.1 (.int .i64 3) r179.2) fun r197 =>
          bnd (oMv r197.1 r197.2) fun r198 =>
          vIf r198.1 (
            bnd (faO 1 r1.1 r198.2) fun r199 =>
            bnd (ldC r199.1 r199.2) fun r200 =>
            bnd (faO 2 r1.1 r200.2) fun r201 =>
            bnd (ldC r201.1 r201.2) fun r202 =>
            bnd (faO 4 r1.1 r202.2) fun r203 =>
            bnd (ldC r203.1 r203.2) fun r204 =>
            bnd (faO 5 r1.1 r204.2) fun r205 =>
            bnd (ldC r205.1 r205.2) fun r206 =>
            bnd (faO 1 r6.1 r206.2) fun r207 =>
            bnd (stV 1 r207.1 r200.1 r207.2) fun r208 =>
            bIf (agV true (ldC r205.1 r208.2) r206.1 && (agV true (ldC r203.1 r208.2) r204.1 && (agV true (ldC r201.1 r208.2) r202.1 && true))) (bnd (faO 2 r6.1 r208.2) fun r209 =>
            bnd (stV 1 r209.1 r202.1 r209.2) fun r210 =>
            bIf (agV true (ldC r205.1 r210.2) r206.1 && (agV true (ldC r203.1 r210.2) r204.1 && true)) (bnd (faO 4 r6.1 r210.2) fun r211 =>
            bnd (stV 1 r211.1 r204.1 r211.2) fun r212 =>
            bIf (agV true (ldC r205.1 r212.2) r206.1 && true) (bnd (faO 5 r6.1 r212.2) fun r213 =>
            bnd (stV 1 r213.1 r206.1 r213.2) fun r214 =>
            bnd (ldA 12 r6.1 r214.2) fun r215 =>
            bnd (ldA 12 r1.1 r215.2) fun r216 =>
            bnd (oBin Tryd.prog .neq 27 false false r215.1 r216.1 r216.2) fun r217 =>
            vIf r217.1 (
              bnd (oMv (.int .i64 2) r217.2) fun r218 =>
              oRes Tryd.prog [(r218.1, none)] r218.2) (
              bnd (oMv (.int .i64 0) r217.2) fun r219 =>
              oRes Tryd.prog [(r219.1, none)] r219.2)) none) none) none) (
            bnd (oBin Tryd.prog .eql 3 false true r9.1 (.int .i64 6) r198.2) fun r220 =>
            bnd (oMv r220.1 r220.2) fun r221 =>
            vIf r221.1 (
              bnd (faO 1 r1.1 r221.2) fun r222 =>
              bnd (ldC r222.1 r222.2) fun r223 =>
              bnd (faO 2 r1.1 r223.2) fun r224 =>
              bnd (ldC r224.1 r224.2) fun r225 =>
              bnd (faO 6 r1.1 r225.2) fun r226 =>
              bnd (ldC r226.1 r226.2) fun r227 =>
              bnd (faO 7 r1.1 r227.2) fun r228 =>
              bnd (ldA 4 r228.1 r228.2) fun r229 =>
              bnd (faO 1 r6.1 r229.2) fun r230 =>
              bnd (stV 1 r230.1 r223.1 r230.2) fun r231 =>
              bIf (agV true (ldA 4 r228.1 r231.2) r229.1 && (agV true (ldC r226.1 r231.2) r227.1 && (agV true (ldC r224.1 r231.2) r225.1 && true))) (bnd (faO 2 r6.1 r231.2) fun r232 =>
              bnd (stV 1 r232.1 r225.1 r232.2) fun r233 =>
              bIf (agV true (ldA 4 r228.1 r233.2) r229.1 && (agV true (ldC r226.1 r233.2) r227.1 && true)) (bnd (faO 6 r6.1 r233.2) fun r234 =>
              bnd (stV 1 r234.1 r227.1 r234.2) fun r235 =>
              bIf (agV true (ldA 4 r228.1 r235.2) r229.1 && true) (bnd (faO 7 r6.1 r235.2) fun r236 =>
              bnd (stV 4 r236.1 r229.1 r236.2) fun r237 =>
              bnd (ldA 12 r6.1 r237.2) fun r238 =>
              bnd (ldA 12 r1.1 r238.2) fun r239 =>
              bnd (oBin Tryd.prog .neq 27 false false r238.1 r239.1 r239.2) fun r240 =>
              vIf r240.1 (
                bnd (oMv (.int .i64 2) r240.2) fun r241 =>
                oRes Tryd.prog [(r241.1, none)] r241.2) (
                bnd (oMv (.int .i64 0) r240.2) fun r242 =>
                oRes Tryd.prog [(r242.1, none)] r242.2)) none) none) none) (
              bnd (oBin Tryd.prog .eql 3 false true r9.1 (.int .i64 7) r221.2) fun r243 =>
              bnd (oMv r243.1 r243.2) fun r244 =>
              vIf r244.1 (
                bnd (faO 1 r1.1 r244.2) fun r245 =>
                bnd (ldC r245.1 r245.2) fun r246 =>
                bnd (faO 2 r1.1 r246.2) fun r247 =>
                bnd (ldC r247.1 r247.2) fun r248 =>
                bnd (faO 7 r1.1 r248.2) fun r249 =>
                bnd (ldA 4 r249.1 r249.2) fun r250 =>
                bnd (faO 1 r6.1 r250.2) fun r251 =>
                bnd (stV 1 r251.1 r246.1 r251.2) fun r252 =>
                bIf (agV true (ldA 4 r249.1 r252.2) r250.1 && (agV true (ldC r247.1 r252.2) r248.1 && true)) (bnd (faO 2 r6.1 r252.2) fun r253 =>
                bnd (stV 1 r253.1 r248.1 r253.2) fun r254 =>
                bIf (agV true (ldA 4 r249.1 r254.2) r250.1 && true) (bnd (faO 7 r6.1 r254.2) fun r255 =>
                bnd (stV 4 r255.1 r250.1 r255.2) fun r256 =>
                bnd (ldA 12 r6.1 r256.2) fun r257 =>
                bnd (ldA 12 r1.1 r257.2) fun r258 =>
                bnd (oBin Tryd.prog .neq 27 false false r257.1 r258.1 r258.2) fun r259 =>
                vIf r259.1 (
                  bnd (oMv (.int .i64 2) r259.2) fun r260 =>
                  oRes Tryd.prog [(r260.1, none)] r260.2) (
                  bnd (oMv (.int .i64 0) r259.2) fun r261 =>
                  oRes Tryd.prog [(r261.1, none)] r261.2)) none) none) (
                bnd (oBin Tryd.prog .eql 3 false true r9.1 (.int .i64 9) r244.2) fun r262 =>
                bnd (oMv r262.1 r262.2) fun r263 =>
                vIf r263.1 (
                  bnd (faO 7 r1.1 r263.2) fun r264 =>
                  bnd (ldA 4 r264.1 r264.2) fun r265 =>
                  bnd (faO 7 r6.1 r265.2) fun r266 =>
                  bnd (stV 4 r266.1 r265.1 r266.2) fun r267 =>
                  bnd (ldA 12 r6.1 r267.2) fun r268 =>
                  bnd (ldA 12 r1.1 r268.2) fun r269 =>
                  bnd (oBin Tryd.prog .neq 27 false false r268.1 r269.1 r269.2) fun r270 =>
                  vIf r270.1 (
                    bnd (oMv (.int .i64 2) r270.2) fun r271 =>
                    oRes Tryd.prog [(r271.1, none)] r271.2) (
                    bnd (oMv (.int .i64 0) r270.2) fun r272 =>
                    oRes Tryd.prog [(r272.1, none)] r272.2)) (
                  bnd (oBin Tryd.prog .eql 3 false true r9.1 (.int .i64 10) r263.2) fun r273 =>
                  bnd (oMv r273.1 r273.2) fun r274 =>
                  vIf r274.1 (
                    vIf r274.1 (
                      bnd (faO 1 r1.1 r274.2) fun r275 =>
                      bnd (ldC r275.1 r275.2) fun r276 =>
                      bnd (faO 2 r1.1 r276.2) fun r277 =>
                      bnd (ldC r277.1 r277.2) fun r278 =>
                      bnd (faO 4 r1.1 r278.2) fun r279 =>
                      bnd (ldC r279.1 r279.2) fun r280 =>
                      bnd (faO 1 r6.1 r280.2) fun r281 =>
                      bnd (stV 1 r281.1 r276.1 r281.2) fun r282 =>
                      bIf (agV true (ldC r279.1 r282.2) r280.1 && (agV true (ldC r277.1 r282.2) r278.1 && true)) (bnd (faO 2 r6.1 r282.2) fun r283 =>
                      bnd (stV 1 r283.1 r278.1 r283.2) fun r284 =>
                      bIf (agV true (ldC r279.1 r284.2) r280.1 && true) (bnd (faO 4 r6.1 r284.2) fun r285 =>
                      bnd (stV 1 r285.1 r280.1 r285.2) fun r286 =>
                      bnd (ldA 12 r6.1 r286.2) fun r287 =>
                      bnd (ldA 12 r1.1 r287.2) fun r288 =>
                      bnd (oBin Tryd.prog .neq 27 false false r287.1 r288.1 r288.2) fun r289 =>
                      vIf r289.1 (
                        bnd (oMv (.int .i64 2) r289.2) fun r290 =>
                        oRes Tryd.prog [(r290.1, none)] r290.2) (
                        bnd (oMv (.int .i64 0) r289.2) fun r291 =>
                        oRes Tryd.prog [(r291.1, none)] r291.2)) none) none) (
                      bnd (oBin Tryd.prog .eql 3 false true r9.1 (.int .i64 12) r274.2) fun r292 =>
                      bnd (oMv r292.1 r292.2) fun r293 =>
                      vIf r293.1 (
                        bnd (faO 11 r1.1 r293.2) fun r294 =>
                        bnd (ldC r294.1 r294.2) fun r295 =>
                        bnd (faO 11 r6.1 r295.2) fun r296 =>
                        bnd (stV 1 r296.1 r295.1 r296.2) fun r297 =>
                        bnd (ldA 12 r6.1 r297.2) fun r298 =>
                        bnd (ldA 12 r1.1 r298.2) fun r299 =>
                        bnd (oBin Tryd.prog .neq 27 false false r298.1 r299.1 r299.2) fun r300 =>
                        vIf r300.1 (
                          bnd (oMv (.int .i64 2) r300.2) fun r301 =>
                          oRes Tryd.prog [(r301.1, none)] r301.2) (
                          bnd (oMv (.int .i64 0) r300.2) fun r302 =>
                          oRes Tryd.prog [(r302.1, none)] r302.2)) (
                        bnd (oMv (.int .i64 2) r293.2) fun r303 =>
                        oRes Tryd.prog [(r303.1, none)] r303.2))) (
                    bnd (oBin Tryd.prog .eql 3 false true r9.1 (.int .i64 11) r274.2) fun r304 =>
                    bnd (oMv r304.1 r304.2) fun r305 =>
                    vIf r305.1 (
                      bnd (faO 1 r1.1 r305.2) fun r306 =>
                      bnd (ldC r306.1 r306.2) fun r307 =>
                      bnd (faO 2 r1.1 r307.2) fun r308 =>
                      bnd (ldC r308.1 r308.2) fun r309 =>
                      bnd (faO 4 r1.1 r309.2) fun r310 =>
                      bnd (ldC r310.1 r310.2) fun r311 =>
                      bnd (faO 1 r6.1 r311.2) fun r312 =>
                      bnd (stV 1 r312.1 r307.1 r312.2) fun r313 =>
                      bIf (agV true (ldC r310.1 r313.2) r311.1 && (agV true (ldC r308.1 r313.2) r309.1 && true)) (bnd (faO 2 r6.1 r313.2) fun r314 =>
                      bnd (stV 1 r314.1 r309.1 r314.2) fun r315 =>
                      bIf (agV true (ldC r310.1 r315.2) r311.1 && true) (bnd (faO 4 r6.1 r315.2) fun r316 =>
                      bnd (stV 1 r316.1 r311.1 r316.2) fun r317 =>
                      bnd (ldA 12 r6.1 r317.2) fun r318 =>
                      bnd (ldA 12 r1.1 r318.2) fun r319 =>
                      bnd (oBin Tryd.prog .neq 27 false false r318.1 r319.1 r319.2) fun r320 =>
                      vIf r320.1 (
                        bnd (oMv (.int .i64 2) r320.2) fun r321 =>
                        oRes Tryd.prog [(r321.1, none)] r321.2) (
                        bnd (oMv (.int .i64 0) r320.2) fun r322 =>
                        oRes Tryd.prog [(r322.1, none)] r322.2)) none) none) (
                      bnd (oBin Tryd.prog .eql 3 false true r9.1 (.int .i64 12) r305.2) fun r323 =>
                      bnd (oMv r323.1 r323.2) fun r324 =>
                      vIf r324.1 (
                        bnd (faO 11 r1.1 r324.2) fun r325 =>
                        bnd (ldC r325.1 r325.2) fun r326 =>
                        bnd (faO 11 r6.1 r326.2) fun r327 =>
                        bnd (stV 1 r327.1 r326.1 r327.2) fun r328 =>
                        bnd (ldA 12 r6.1 r328.2) fun r329 =>
                        bnd (ldA 12 r1.1 r329.2) fun r330 =>
                        bnd (oBin Tryd.prog .neq 27 false false r329.1 r330.1 r330.2) fun r331 =>
                        vIf r331.1 (
                          bnd (oMv (.int .i64 2) r331.2) fun r332 =>
                          oRes Tryd.prog [(r332.1, none)] r332.2) (
                          bnd (oMv (.int .i64 0) r331.2) fun r333 =>
                          oRes Tryd.prog [(r333.1, none)] r333.2)) (
                        bnd (oMv (.int .i64 2) r324.2) fun r334 =>
                        oRes Tryd.prog [(r334.1, none)] r334.2))))))))) (
        bnd (oBin Tryd.prog .eql 3 false true r9.1 (.int .i64 4) r179.2) fun r335 =>
        bnd (oMv r335.1 r335.2) fun r336 =>
        vIf r336.1 (
          vIf r336.1 (
            bnd (faO 1 r1.1 r336.2) fun r337 =>
            bnd (ldC r337.1 r337.2) fun r338 =>
            bnd (faO 2 r1.1 r338.2) fun r339 =>
            bnd (ldC r339.1 r339.2) fun r340 =>
            bnd (faO 3 r1.1 r340.2) fun r341 =>
            bnd (ldC r341.1 r341.2) fun r342 =>
            bnd (faO 1 r6.1 r342.2) fun r343 =>
            bnd (stV 1 r343.1 r338.1 r343.2) fun r344 =>
            bIf (agV true (ldC r341.1 r344.2) r342.1 && (agV true (ldC r339.1 r344.2) r340.1 && true)) (bnd (faO 2 r6.1 r344.2) fun r345 =>
            bnd (stV 1 r345.1 r340.1 r345.2) fun r346 =>
            bIf (agV true (ldC r341.1 r346.2) r342.1 && true) (bnd (faO 3 r6.1 r346.2) fun r347 =>
            bnd (stV 1 r347.1 r342.1 r347.2) fun r348 =>
            bnd (ldA 12 r6.1 r348.2) fun r349 =>
            bnd (ldA 12 r1.1 r349.2) fun r350 =>
            bnd (oBin Tryd.prog .neq 27 false false r349.1 r350.1 r350.2) fun r351 =>
            vIf r351.1 (
              bnd (oMv (.int .i64 2) r351.2) fun r352 =>
              oRes Tryd.prog [(r352.1, none)] r352.2) (
              bnd (oMv (.int .i64 0) r351.2) fun r353 =>
              oRes Tryd.prog [(r353.1, none)] r353.2)) none) none) (
            bnd (oBin Tryd.prog .eql 3 false true r9.1 (.int .i64 3) r336.2) fun r354 =>
            bnd (oMv r354.1 r354.2) fun r355 =>
            vIf r355.1 (
              bnd (faO 1 r1.1 r355.2) fun r356 =>
              bnd (ldC r356.1 r356.2) fun r357 =>
              bnd (faO 2 r1.1 r357.2) fun r358 =>
              bnd (ldC r358.1 r358.2) fun r359 =>
              bnd (faO 4 r1.1 r359.2) fun r360 =>
              bnd (ldC r360.1 r360.2) fun r361 =>
              bnd (faO 5 r1.1 r361.2) fun r362 =>
              bnd (ldC r362.1 r362.2) fun r363 =>
              bnd (faO 1 r6.1 r363.2) fun r364 =>
              bnd (stV 1 r364.1 r357.1 r364.2) fun r365 =>
              bIf (agV true (ldC r362.1 r365.2) r363.1 && (agV true (ldC r360.1 r365.2) r361.1 && (agV true (ldC r358.1 r365.2) r359.1 && true))) (bnd (faO 2 r6.1 r365.2) fun r366 =>
              bnd (stV 1 r366.1 r359.1 r366.2) fun r367 =>
              bIf (agV true (ldC r362.1 r367.2) r363.1 && (agV true (ldC r360.1 r367.2) r361.1 && true)) (bnd (faO 4 r6.1 r367.2) fun r368 =>
              bnd (stV 1 r368.1 r361.1 r368.2) fun r369 =>
              bIf (agV true (ldC r362.1 r369.2) r363.1 && true) (bnd (faO 5 r6.1 r369.2) fun r370 =>
              bnd (stV 1 r370.1 r363.1 r370.2) fun r371 =>
              bnd (ldA 12 r6.1 r371.2) fun r372 =>
              bnd (ldA 12 r1.1 r372.2) fun r373 =>
              bnd (oBin Tryd.prog .neq 27 false false r372.1 r373.1 r373.2) fun r374 =>
              vIf r374.1 (
                bnd (oMv (.int .i64 2) r374.2) fun r375 =>
                oRes Tryd.prog [(r375.1, none)] r375.2) (
                bnd (oMv (.int .i64 0) r374.2) fun r376 =>
                oRes Tryd.prog [(r376.1, none)] r376.2)) none) none) none) (
              bnd (oBin Tryd.prog .eql 3 false true r9.1 (.int .i64 6) r355.2) fun r377 =>
              bnd (oMv r377.1 r377.2) fun r378 =>
              vIf r378.1 (
                bnd (faO 1 r1.1 r378.2) fun r379 =>
                bnd (ldC r379.1 r379.2) fun r380 =>
                bnd (faO 2 r1.1 r380.2) fun r381 =>
                bnd (ldC r381.1 r381.2) fun r382 =>
                bnd (faO 6 r1.1 r382.2) fun r383 =>
                bnd (ldC r383.1 r383.2) fun r384 =>
                bnd (faO 7 r1.1 r384.2) fun r385 =>
                bnd (ldA 4 r385.1 r385.2) fun r386 =>
                bnd (faO 1 r6.1 r386.2) fun r387 =>
                bnd (stV 1 r387.1 r380.1 r387.2) fun r388 =>
                bIf (agV true (ldA 4 r385.1 r388.2) r386.1 && (agV true (ldC r383.1 r388.2) r384.1 && (agV true (ldC r381.1 r388.2) r382.1 && true))) (bnd (faO 2 r6.1 r388.2) fun r389 =>
                bnd (stV 1 r389.1 r382.1 r389.2) fun r390 =>
                bIf (agV true (ldA 4 r385.1 r390.2) r386.1 && (agV true (ldC r383.1 r390.2) r384.1 && true)) (bnd (faO 6 r6.1 r390.2) fun r391 =>
                bnd (stV 1 r391.1 r384.1 r391.2) fun r392 =>
                bIf (agV true (ldA 4 r385.1 r392.2) r386.1 && true) (bnd (faO 7 r6.1 r392.2) fun r393 =>
                bnd (stV 4 r393.1 r386.1 r393.2) fun r394 =>
                bnd (ldA 12 r6.1 r394.2) fun r395 =>
                bnd (ldA 12 r1.1 r395.2) fun r396 =>
                bnd (oBin Tryd.prog .neq 27 false false r395.1 r396.1 r396.2) fun r397 =>
                vIf r397.1 (
                  bnd (oMv (.int .i64 2) r397.2) fun r398 =>
                  oRes Tryd.prog [(r398.1, none)] r398.2) (
                  bnd (oMv (.int .i64 0) r397.2) fun r399 =>
                  oRes Tryd.prog [(r399.1, none)] r399.2)) none) none) none) (
                bnd (oBin Tryd.prog .eql 3 false true r9.1 (.int .i64 7) r378.2) fun r400 =>
                bnd (oMv r400.1 r400.2) fun r401 =>
                vIf r401.1 (
                  bnd (faO 1 r1.1 r401.2) fun r402 =>
                  bnd (ldC r402.1 r402.2) fun r403 =>
                  bnd (faO 2 r1.1 r403.2) fun r404 =>
                  bnd (ldC r404.1 r404.2) fun r405 =>
                  bnd (faO 7 r1.1 r405.2) fun r406 =>
                  bnd (ldA 4 r406.1 r406.2) fun r407 =>
                  bnd (faO 1 r6.1 r407.2) fun r408 =>
                  bnd (stV 1 r408.1 r403.1 r408.2) fun r409 =>
                  bIf (agV true (ldA 4 r406.1 r409.2) r407.1 && (agV true (ldC r404.1 r409.2) r405.1 && true)) (bnd (faO 2 r6.1 r409.2) fun r410 =>
                  bnd (stV 1 r410.1 r405.1 r410.2) fun r411 =>
                  bIf (agV true (ldA 4 r406.1 r411.2) r407.1 && true) (bnd (faO 7 r6.1 r411.2) fun r412 =>
                  bnd (stV 4 r412.1 r407.1 r412.2) fun r413 =>
                  bnd (ldA 12 r6.1 r413.2) fun r414 =>
                  bnd (ldA 12 r1.1 r414.2) fun r415 =>
                  bnd (oBin Tryd.prog .neq 27 false false r414.1 r415.1 r415.2) fun r416 =>
                  vIf r416.1 (
                    bnd (oMv (.int .i64 2) r416.2) fun r417 =>
                    oRes Tryd.prog [(r417.1, none)] r417.2) (
                    bnd (oMv (.int .i64 0) r416.2) fun r418 =>
                    oRes Tryd.prog [(r418.1, none)] r418.2)) none) none) (
                  bnd (oBin Tryd.prog .eql 3 false true r9.1 (.int .i64 9) r401.2) fun r419 =>
                  bnd (oMv r419.1 r419.2) fun r420 =>
                  vIf r420.1 (
                    bnd (faO 7 r1.1 r420.2) fun r421 =>
                    bnd (ldA 4 r421.1 r421.2) fun r422 =>
                    bnd (faO 7 r6.1 r422.2) fun r423 =>
                    bnd (stV 4 r423.1 r422.1 r423.2) fun r424 =>
                    bnd (ldA 12 r6.1 r424.2) fun r425 =>
                    bnd (ldA 12 r1.1 r425.2) fun r426 =>
                    bnd (oBin Tryd.prog .neq 27 false false r425.1 r426.1 r426.2) fun r427 =>
                    vIf r427.1 (
                      bnd (oMv (.int .i64 2) r427.2) fun r428 =>
                      oRes Tryd.prog [(r428.1, none)] r428.2) (
                      bnd (oMv (.int .i64 0) r427.2) fun r429 =>
                      oRes Tryd.prog [(r429.1, none)] r429.2)) (
                    bnd (oBin Tryd.prog .eql 3 false true r9.1 (.int .i64 10) r420.2) fun r430 =>
                    bnd (oMv r430.1 r430.2) fun r431 =>
                    vIf r431.1 (
                      vIf r431.1 (
                        bnd (faO 1 r1.1 r431.2) fun r432 =>
                        bnd (ldC r432.1 r432.2) fun r433 =>
                        bnd (faO 2 r1.1 r433.2) fun r434 =>
                        bnd (ldC r434.1 r434.2) fun r435 =>
                        bnd (faO 4 r1.1 r435.2) fun r436 =>
                        bnd (ldC r436.1 r436.2) fun r437 =>
                        bnd (faO 1 r6.1 r437.2) fun r438 =>
                        bnd (stV 1 r438.1 r433.1 r438.2) fun r439 =>
                        bIf (agV true (ldC r436.1 r439.2) r437.1 && (agV true (ldC r434.1 r439.2) r435.1 && true)) (bnd (faO 2 r6.1 r439.2) fun r440 =>
                        bnd (stV 1 r440.1 r435.1 r440.2) fun r441 =>
                        bIf (agV true (ldC r436.1 r441.2) r437.1 && true) (bnd (faO 4 r6.1 r441.2) fun r442 =>
                        bnd (stV 1 r442.1 r437.1 r442.2) fun r443 =>
                        bnd (ldA 12 r6.1 r443.2) fun r444 =>
                        bnd (ldA 12 r1.1 r444.2) fun r445 =>
                        bnd (oBin Tryd.prog .neq 27 false false r444.1 r445.1 r445.2) fun r446 =>
                        vIf r446.1 (
                          bnd (oMv (.int .i64 2) r446.2) fun r447 =>
                          oRes Tryd.prog [(r447.1, none)] r447.2) (
                          bnd (oMv (.int .i64 0) r446.2) fun r448 =>
                          oRes Tryd.prog [(r448.1, none)] r448.2)) none) none) (
                        bnd (oBin Tryd.prog .eql 3 false true r9.1 (.int .i64 12) r431.2) fun r449 =>
                        bnd (oMv r449.1 r449.2) fun r450 =>
                        vIf r450.1 (
                          bnd (faO 11 r1.1 r450.2) fun r451 =>
                          bnd (ldC r451.1 r451.2) fun r452 =>
                          bnd (faO 11 r6.1 r452.2) fun r453 =>
                          bnd (stV 1 r453.1 r452.1 r453.2) fun r454 =>
                          bnd (ldA 12 r6.1 r454.2) fun r455 =>
                          bnd (ldA 12 r1.1 r455.2) fun r456 =>
                          bnd (oBin Tryd.prog .neq 27 false false r455.1 r456.1 r456.2) fun r457 =>
                          vIf r457.1 (
                            bnd (oMv (.int .i64 2) r457.2) fun r458 =>
                            oRes Tryd.prog [(r458.1, none)] r458.2) (
                            bnd (oMv (.int .i64 0) r457.2) fun r459 =>
                            oRes Tryd.prog [(r459.1, none)] r459.2)) (
                          bnd (oMv (.int .i64 2) r450.2) fun r460 =>
                          oRes Tryd.prog [(r460.1, none)] r460.2))) (
                      bnd (oBin Tryd.prog .eql 3 false true r9.1 (.int .i64 11) r431.2) fun r461 =>
                      bnd (oMv r461.1 r461.2) fun r462 =>
                      vIf r462.1 (
                        bnd (faO 1 r1.1 r462.2) fun r463 =>
                        bnd (ldC r463.1 r463.2) fun r464 =>
                        bnd (faO 2 r1.1 r464.2) fun r465 =>
                        bnd (ldC r465.1 r465.2) fun r466 =>
                        bnd (faO 4 r1.1 r466.2) fun r467 =>
                        bnd (ldC r467.1 r467.2) fun r468 =>
                        bnd (faO 1 r6.1 r468.2) fun r469 =>
                        bnd (stV 1 r469.1 r464.1 r469.2) fun r470 =>
                        bIf (agV true (ldC r467.1 r470.2) r468.1 && (agV true (ldC r465.1 r470.2) r466.1 && true)) (bnd (faO 2 r6.1 r470.2) fun r471 =>
                        bnd (stV 1 r471.1 r466.1 r471.2) fun r472 =>
                        bIf (agV true (ldC r467.1 r472.2) r468.1 && true) (bnd (faO 4 r6.1 r472.2) fun r473 =>
                        bnd (stV 1 r473.1 r468.1 r473.2) fun r474 =>
                        bnd (ldA 12 r6.1 r474.2) fun r475 =>
                        bnd (ldA 12 r1.1 r475.2) fun r476 =>
                        bnd (oBin Tryd.prog .neq 27 false false r475.1 r476.1 r476.2) fun r477 =>
                        vIf r477.1 (
                          bnd (oMv (.int .i64 2) r477.2) fun r478 =>
                          oRes Tryd.prog [(r478.1, none)] r478.2) (
                          bnd (oMv (.int .i64 0) r477.2) fun r479 =>
                          oRes Tryd.prog [(r479.1, none)] r479.2)) none) none) (
                        bnd (oBin Tryd.prog .eql 3 false true r9.1 (.int .i64 12) r462.2) fun r480 =>
                        bnd (oMv r480.1 r480.2) fun r481 =>
                        vIf r481.1 (
                          bnd (faO 11 r1.1 r481.2) fun r482 =>
                          bnd (ldC r482.1 r482.2) fun r483 =>
                          bnd (faO 11 r6.1 r483.2) fun r484 =>
                          bnd (stV 1 r484.1 r483.1 r484.2) fun r485 =>
                          bnd (ldA 12 r6.1 r485.2) fun r486 =>
                          bnd (ldA 12 r1.1 r486.2) fun r487 =>
                          bnd (oBin Tryd.prog .neq 27 false false r486.1 r487.1 r487.2) fun r488 =>
                          vIf r488.1 (
                            bnd (oMv (.int .i64 2) r488.2) fun r489 =>
                            oRes Tryd.prog [(r489.1, none)] r489.2) (
                            bnd (oMv (.int .i64 0) r488.2) fun r490 =>
                            oRes Tryd.prog [(r490.1, none)] r490.2)) (
                          bnd (oMv (.int .i64 2) r481.2) fun r491 =>
                          oRes Tryd.prog [(r491.1, none)] r491.2))))))))) (
          bnd (oBin Tryd.prog .eql 3 false true r9.1 (.int .i64 8) r336.2) fun r492 =>
          bnd (oMv r492.1 r492.2) fun r493 =>
          vIf r493.1 (
            bnd (faO 1 r1.1 r493.2) fun r494 =>
            bnd (ldC r494.1 r494.2) fun r495 =>
            bnd (faO 2 r1.1 r495.2) fun r496 =>
            bnd (ldC r496.1 r496.2) fun r497 =>
            bnd (faO 3 r1.1 r497.2) fun r498 =>
            bnd (ldC r498.1 r498.2) fun r499 =>
            bnd (faO 1 r6.1 r499.2) fun r500 =>
            bnd (stV 1 r500.1 r495.1 r500.2) fun r501 =>
            bIf (agV true (ldC r498.1 r501.2) r499.1 && (agV true (ldC r496.1 r501.2) r497.1 && true)) (bnd (faO 2 r6.1 r501.2) fun r502 =>
            bnd (stV 1 r502.1 r497.1 r502.2) fun r503 =>
            bIf (agV true (ldC r498.1 r503.2) r499.1 && true) (bnd (faO 3 r6.1 r503.2) fun r504 =>
            bnd (stV 1 r504.1 r499.1 r504.2) fun r505 =>
            bnd (ldA 12 r6.1 r505.2) fun r506 =>
            bnd (ldA 12 r1.1 r506.2) fun r507 =>
            bnd (oBin Tryd.prog .neq 27 false false r506.1 r507.1 r507.2) fun r508 =>
            vIf r508.1 (
              bnd (oMv (.int .i64 2) r508.2) fun r509 =>
              oRes Tryd.prog [(r509.1, none)] r509.2) (
              bnd (oMv (.int .i64 0) r508.2) fun r510 =>
              oRes Tryd.prog [(r510.1, none)] r510.2)) none) none) (
            bnd (oBin Tryd.prog .eql 3 false true r9.1 (.int .i64 3) r493.2) fun r511 =>
            bnd (oMv r511.1 r511.2) fun r512 =>
            vIf r512.1 (
              bnd (faO 1 r1.1 r512.2) fun r513 =>
              bnd (ldC r513.1 r513.2) fun r514 =>
              bnd (faO 2 r1.1 r514.2) fun r515 =>
              bnd (ldC r515.1 r515.2) fun r516 =>
              bnd (faO 4 r1.1 r516.2) fun r517 =>
              bnd (ldC r517.1 r517.2) fun r518 =>
              bnd (faO 5 r1.1 r518.2) fun r519 =>
              bnd (ldC r519.1 r519.2) fun r520 =>
              bnd (faO 1 r6.1 r520.2) fun r521 =>
              bnd (stV 1 r521.1 r514.1 r521.2) fun r522 =>
              bIf (agV true (ldC r519.1 r522.2) r520.1 && (agV true (ldC r517.1 r522.2) r518.1 && (agV true (ldC r515.1 r522.2) r516.1 && true))) (bnd (faO 2 r6.1 r522.2) fun r523 =>
              bnd (stV 1 r523.1 r516.1 r523.2) fun r524 =>
              bIf (agV true (ldC r519.1 r524.2) r520.1 && (agV true (ldC r517.1 r524.2) r518.1 && true)) (bnd (faO 4 r6.1 r524.2) fun r525 =>
              bnd (stV 1 r525.1 r518.1 r525.2) fun r526 =>
              bIf (agV true (ldC r519.1 r526.2) r520.1 && true) (bnd (faO 5 r6.1 r526.2) fun r527 =>
              bnd (stV 1 r527.1 r520.1 r527.2) fun r528 =>
              bnd (ldA 12 r6.1 r528.2) fun r529 =>
              bnd (ldA 12 r1.1 r529.2) fun r530 =>
              bnd (oBin Tryd.prog .neq 27 false false r529.1 r530.1 r530.2) fun r531 =>
              vIf r531.1 (
                bnd (oMv (.int .i64 2) r531.2) fun r532 =>
                oRes Tryd.prog [(r532.1, none)] r532.2) (
                bnd (oMv (.int .i64 0) r531.2) fun r533 =>
                oRes Tryd.prog [(r533.1, none)] r533.2)) none) none) none) (
              bnd (oBin Tryd.prog .eql 3 false true r9.1 (.int .i64 6) r512.2) fun r534 =>
              bnd (oMv r534.1 r534.2) fun r535 =>
              vIf r535.1 (
                bnd (faO 1 r1.1 r535.2) fun r536 =>
                bnd (ldC r536.1 r536.2) fun r537 =>
                bnd (faO 2 r1.1 r537.2) fun r538 =>
                bnd (ldC r538.1 r538.2) fun r539 =>
                bnd (faO 6 r1.1 r539.2) fun r540 =>
                bnd (ldC r540.1 r540.2) fun r541 =>
                bnd (faO 7 r1.1 r541.2) fun r542 =>
                bnd (ldA 4 r542.1 r542.2) fun r543 =>
                bnd (faO 1 r6.1 r543.2) fun r544 =>
                bnd (stV 1 r544.1 r537.1 r544.2) fun r545 =>
                bIf (agV true (ldA 4 r542.1 r545.2) r543.1 && (agV true (ldC r540.1 r545.2) r541.1 && (agV true (ldC r538.1 r545.2) r539.1 && true))) (bnd (faO 2 r6.1 r545.2) fun r546 =>
                bnd (stV 1 r546.1 r539.1 r546.2) fun r547 =>
                bIf (agV true (ldA 4 r542.1 r547.2) r543.1 && (agV true (ldC r540.1 r547.2) r541.1 && true)) (bnd (faO 6 r6.1 r547.2) fun r548 =>
                bnd (stV 1 r548.1 r541.1 r548.2) fun r549 =>
                bIf (agV true (ldA 4 r542.1 r549.2) r543.1 && true) (bnd (faO 7 r6.1 r549.2) fun r550 =>
                bnd (stV 4 r550.1 r543.1 r550.2) fun r551 =>
                bnd (ldA 12 r6.1 r551.2) fun r552 =>
                bnd (ldA 12 r1.1 r552.2) fun r553 =>
                bnd (oBin Tryd.prog .neq 27 false false r552.1 r553.1 r553.2) fun r554 =>
                vIf r554.1 (
                  bnd (oMv (.int .i64 2) r554.2) fun r555 =>
                  oRes Tryd.prog [(r555.1, none)] r555.2) (
                  bnd (oMv (.int .i64 0) r554.2) fun r556 =>
                  oRes Tryd.prog [(r556.1, none)] r556.2)) none) none) none) (
                bnd (oBin Tryd.prog .eql 3 false true r9.1 (.int .i64 7) r535.2) fun r557 =>
                bnd (oMv r557.1 r557.2) fun r558 =>
                vIf r558.1 (
                  bnd (faO 1 r1.1 r558.2) fun r559 =>
                  bnd (ldC r559.1 r559.2) fun r560 =>
                  bnd (faO 2 r1.1 r560.2) fun r561 =>
                  bnd (ldC r561.1 r561.2) fun r562 =>
                  bnd (faO 7 r1.1 r562.2) fun r563 =>
                  bnd (ldA 4 r563.1 r563.2) fun r564 =>
                  bnd (faO 1 r6.1 r564.2) fun r565 =>
                  bnd (stV 1 r565.1 r560.1 r565.2) fun r566 =>
                  bIf (agV true (ldA 4 r563.1 r566.2) r564.1 && (agV true (ldC r561.1 r566.2) r562.1 && true)) (bnd (faO 2 r6.1 r566.2) fun r567 =>
                  bnd (stV 1 r567.1 r562.1 r567.2) fun r568 =>
                  bIf (agV true (ldA 4 r563.1 r568.2) r564.1 && true) (bnd (faO 7 r6.1 r568.2) fun r569 =>
                  bnd (stV 4 r569.1 r564.1 r569.2) fun r570 =>
                  bnd (ldA 12 r6.1 r570.2) fun r571 =>
                  bnd (ldA 12 r1.1 r571.2) fun r572 =>
                  bnd (oBin Tryd.prog .neq 27 false false r571.1 r572.1 r572.2) fun r573 =>
                  vIf r573.1 (
                    bnd (oMv (.int .i64 2) r573.2) fun r574 =>
                    oRes Tryd.prog [(r574.1, none)] r574.2) (
                    bnd (oMv (.int .i64 0) r573.2) fun r575 =>
                    oRes Tryd.prog [(r575.1, none)] r575.2)) none) none) (
                  bnd (oBin Tryd.prog .eql 3 false true r9.1 (.int .i64 9) r558.2) fun r576 =>
                  bnd (oMv r576.1 r576.2) fun r577 =>
                  vIf r577.1 (
                    bnd (faO 7 r1.1 r577.2) fun r578 =>
                    bnd (ldA 4 r578.1 r578.2) fun r579 =>
                    bnd (faO 7 r6.1 r579.2) fun r580 =>
                    bnd (stV 4 r580.1 r579.1 r580.2) fun r581 =>
                    bnd (ldA 12 r6.1 r581.2) fun r582 =>
                    bnd (ldA 12 r1.1 r582.2) fun r583 =>
                    bnd (oBin Tryd.prog .neq 27 false false r582.1 r583.1 r583.2) fun r584 =>
                    vIf r584.1 (
                      bnd (oMv (.int .i64 2) r584.2) fun r585 =>
                      oRes Tryd.prog [(r585.1, none)] r585.2) (
                      bnd (oMv (.int .i64 0) r584.2) fun r586 =>
                      oRes Tryd.prog [(r586.1, none)] r586.2)) (
                    bnd (oBin Tryd.prog .eql 3 false true r9.1 (.int .i64 10) r577.2) fun r587 =>
                    bnd (oMv r587.1 r587.2) fun r588 =>
                    vIf r588.1 (
                      vIf r588.1 (
                        bnd (faO 1 r1.1 r588.2) fun r589 =>
                        bnd (ldC r589.1 r589.2) fun r590 =>
                        bnd (faO 2 r1.1 r590.2) fun r591 =>
                        bnd (ldC r591.1 r591.2) fun r592 =>
                        bnd (faO 4 r1.1 r592.2) fun r593 =>
                        bnd (ldC r593.1 r593.2) fun r594 =>
                        bnd (faO 1 r6.1 r594.2) fun r595 =>
                        bnd (stV 1 r595.1 r590.1 r595.2) fun r596 =>
                        bIf (agV true (ldC r593.1 r596.2) r594.1 && (agV true (ldC r591.1 r596.2) r592.1 && true)) (bnd (faO 2 r6.1 r596.2) fun r597 =>
                        bnd (stV 1 r597.1 r592.1 r597.2) fun r598 =>
                        bIf (agV true (ldC r593.1 r598.2) r594.1 && true) (bnd (faO 4 r6.1 r598.2) fun r599 =>
                        bnd (stV 1 r599.1 r594.1 r599.2) fun r600 =>
                        bnd (ldA 12 r6.1 r600.2) fun r601 =>
                        bnd (ldA 12 r1.1 r601.2) fun r602 =>
                        bnd (oBin Tryd.prog .neq 27 false false r601.1 r602.1 r602.2) fun r603 =>
                        vIf r603.1 (
                          bnd (oMv (.int .i64 2) r603.2) fun r604 =>
                          oRes Tryd.prog [(r604.1, none)] r604.2) (
                          bnd (oMv (.int .i64 0) r603.2) fun r605 =>
                          oRes Tryd.prog [(r605.1, none)] r605.2)) none) none) (
                        bnd (oBin Tryd.prog .eql 3 false true r9.1 (.int .i64 12) r588.2) fun r606 =>
                        bnd (oMv r606.1 r606.2) fun r607 =>
                        vIf r607.1 (
                          bnd (faO 11 r1.1 r607.2) fun r608 =>
                          bnd (ldC r608.1 r608.2) fun r609 =>
                          bnd (faO 11 r6.1 r609.2) fun r610 =>
                          bnd (stV 1 r610.1 r609.1 r610.2) fun r611 =>
                          bnd (ldA 12 r6.1 r611.2) fun r612 =>
                          bnd (ldA 12 r1.1 r612.2) fun r613 =>
                          bnd (oBin Tryd.prog .neq 27 false false r612.1 r613.1 r613.2) fun r614 =>
                          vIf r614.1 (
                            bnd (oMv (.int .i64 2) r614.2) fun r615 =>
                            oRes Tryd.prog [(r615.1, none)] r615.2) (
                            bnd (oMv (.int .i64 0) r614.2) fun r616 =>
                            oRes Tryd.prog [(r616.1, none)] r616.2)) (
                          bnd (oMv (.int .i64 2) r607.2) fun r617 =>
                          oRes Tryd.prog [(r617.1, none)] r617.2))) (
                      bnd (oBin Tryd.prog .eql 3 false true r9.1 (.int .i64 11) r588.2) fun r618 =>
                      bnd (oMv r618.1 r618.2) fun r619 =>
                      vIf r619.1 (
                        bnd (faO 1 r1.1 r619.2) fun r620 =>
                        bnd (ldC r620.1 r620.2) fun r621 =>
                        bnd (faO 2 r1.1 r621.2) fun r622 =>
                        bnd (ldC r622.1 r622.2) fun r623 =>
                        bnd (faO 4 r1.1 r623.2) fun r624 =>
                        bnd (ldC r624.1 r624.2) fun r625 =>
                        bnd (faO 1 r6.1 r625.2) fun r626 =>
                        bnd (stV 1 r626.1 r621.1 r626.2) fun r627 =>
                        bIf (agV true (ldC r624.1 r627.2) r625.1 && (agV true (ldC r622.1 r627.2) r623.1 && true)) (bnd (faO 2 r6.1 r627.2) fun r628 =>
                        bnd (stV 1 r628.1 r623.1 r628.2) fun r629 =>
                        bIf (agV true (ldC r624.1 r629.2) r625.1 && true) (bnd (faO 4 r6.1 r629.2) fun r630 =>
                        bnd (stV 1 r630.1 r625.1 r630.2) fun r631 =>
                        bnd (ldA 12 r6.1 r631.2) fun r632 =>
                        bnd (ldA 12 r1.1 r632.2) fun r633 =>
                        bnd (oBin Tryd.prog .neq 27 false false r632.1 r633.1 r633.2) fun r634 =>
                        vIf r634.1 (
                          bnd (oMv (.int .i64 2) r634.2) fun r635 =>
                          oRes Tryd.prog [(r635.1, none)] r635.2) (
                          bnd (oMv (.int .i64 0) r634.2) fun r636 =>
                          oRes Tryd.prog [(r636.1, none)] r636.2)) none) none) (
                        bnd (oBin Tryd.prog .eql 3 false true r9.1 (.int .i64 12) r619.2) fun r637 =>
                        bnd (oMv r637.1 r637.2) fun r638 =>
                        vIf r638.1 (
                          bnd (faO 11 r1.1 r638.2) fun r639 =>
                          bnd (ldC r639.1 r639.2) fun r640 =>
                          bnd (faO 11 r6.1 r640.2) fun r641 =>
                          bnd (stV 1 r641.1 r640.1 r641.2) fun r642 =>
                          bnd (ldA 12 r6.1 r642.2) fun r643 =>
                          bnd (ldA 12 r1.1 r643.2) fun r644 =>
                          bnd (oBin Tryd.prog .neq 27 false false r643.1 r644.1 r644.2) fun r645 =>
                          vIf r645.1 (
                            bnd (oMv (.int .i64 2) r645.2) fun r646 =>
                            oRes Tryd.prog [(r646.1, none)] r646.2) (
                            bnd (oMv (.int .i64 0) r645.2) fun r647 =>
                            oRes Tryd.prog [(r647.1, none)] r647.2)) (
                          bnd (oMv (.int .i64 2) r638.2) fun r648 =>
                          oRes Tryd.prog [(r648.1, none)] r648.2))))))))))))
theorem ref22_Check_eq (call : Eng.Callee) (x0 : Value) (W : AW) : kFun Tryd.prog call 92 (cod 15) (rss 15) [x0] W = ref22_Check call x0 W := by kernel_rfl
theorem ref22_Check_om {x0 : Value} {W : AW} {r : Value × AW} (h : ref22_Check omS x0 W = some r) : omS (.func (.func 15) #[] #[]) [x0] W = some (gc W r) := om_of (nt := 92) (n := 1) (by kernel_rfl) (by kernel_rfl) rfl ((ref22_Check_eq omS x0 W).trans h)
noncomputable def law22_wide_L1 (call : Eng.Callee) (R : Nat → Value) (W : AW) : Option LT :=
  bnd (oMv (R 3) W) fun r4 =>
  bnd (faO 3 (R 1) r4.2) fun r5 =>
  bnd (ldC r5.1 r5.2) fun r6 =>
  bnd (oBuiltin Tryd.prog .len #[34] 3 #[false] [r6.1] r6.2) fun r7 =>
  bnd (oBin Tryd.prog .lss 3 false false r4.1 r7.1 r7.2) fun r8 =>
  bnd (oMv r8.1 r8.2) fun r9 =>
  bnd (bIf (wnt r9.1 true) (oMv (R 3) r9.2) (some (undef, r9.2))) fun r10 =>
  bnd (bIf (wnt r9.1 true) (oBin Tryd.prog .lss 3 false true r10.1 (.int .i64 20) r10.2) (some (undef, r10.2))) fun r11 =>
  bnd (oPick r9.1 r11.1 (.bool false) r11.2) fun r12 =>
  vIf r12.1 (
    bnd (faO 3 (R 1) r12.2) fun r13 =>
    bnd (ldC r13.1 r13.2) fun r14 =>
    bnd (oMv (R 3) r14.2) fun r15 =>
    bnd (ixS 3 r14.1 r15.1 r15.2) fun r16 =>
    bnd (faO 0 r16.1 r16.2) fun r17 =>
    bnd (ldC r17.1 r17.2) fun r18 =>
    bnd (oBuiltin Tryd.prog .len #[9] 3 #[false] [r18.1] r18.2) fun r19 =>
    bnd (oBin Tryd.prog .gtr 3 false true r19.1 (.int .i64 100) r19.2) fun r20 =>
    bnd (oMv r20.1 r20.2) fun r21 =>
    bnd (bIf (wnt r21.1 false) (faO 3 (R 1) r21.2) (some (undef, r21.2))) fun r22 =>
    bnd (bIf (wnt r21.1 false) (ldC r22.1 r22.2) (some (undef, r22.2))) fun r23 =>
    bnd (bIf (wnt r21.1 false) (oMv (R 3) r23.2) (some (undef, r23.2))) fun r24 =>
    bnd (bIf (wnt r21.1 false) (ixS 3 r23.1 r24.1 r24.2) (some (undef, r24.2))) fun r25 =>
    bnd (bIf (wnt r21.1 false) (faO 1 r25.1 r25.2) (some (undef, r25.2))) fun r26 =>
    bnd (bIf (wnt r21.1 false) (ldC r26.1 r26.2) (some (undef, r26.2))) fun r27 =>
    bnd (bIf (wnt r21.1 false) (oBuiltin Tryd.prog .len #[38] 3 #[false] [r27.1] r27.2) (some (undef, r27.2))) fun r28 =>
    bnd (bIf (wnt r21.1 false) (oBin Tryd.prog .gtr 3 false true r28.1 (.int .i64 20) r28.2) (some (undef, r28.2))) fun r29 =>
    bnd (oPick r21.1 (.bool true) r29.1 r29.2) fun r30 =>
    vIf r30.1 (
      bnd (oMv (.bool true) r30.2) fun r31 =>
      some (X.ret, (rput (rput (rput (rput (rput (rput (rput (rput (rput (rput (rput (rput (rput (rput (rput (rput (rput (rput (rput (rput (rput (rput (rput (rput (rput (rput (rput (rput R (some 4) r4.1) (some 5) r5.1) (some 6) r6.1) (some 7) r7.1) (some 8) r8.1) (some 9) r9.1) (some 10) r10.1) (some 11) r11.1) (some 12) r12.1) (some 15) r13.1) (some 16) r14.1) (some 17) r15.1) (some 18) r16.1) (some 19) r17.1) (some 20) r18.1) (some 21) r19.1) (some 22) r20.1) (some 23) r21.1) (some 24) r22.1) (some 25) r23.1) (some 26) r24.1) (some 27) r25.1) (some 28) r26.1) (some 29) r27.1) (some 30) r28.1) (some 31) r29.1) (some 32) r30.1) (some 2) r31.1), r31.2)) (
      bnd (oMv (R 3) r30.2) fun r32 =>
      bnd (oBin Tryd.prog .add 3 false true r32.1 (.int .i64 1) r32.2) fun r33 =>
      bnd (oMv r33.1 r33.2) fun r34 =>
      some (X.normal, (rput (rput (rput (rput (rput (rput (rput (rput (rput (rput (rput (rput (rput (rput (rput (rput (rput (rput (rput (rput (rput (rput (rput (rput (rput (rput (rput (rput (rput (rput R (some 4) r4.1) (some 5) r5.1) (some 6) r6.1) (some 7) r7.1) (some 8) r8.1) (some 9) r9.1) (some 10) r10.1) (some 11) r11.1) (some 12) r12.1) (some 15) r13.1) (some 16) r14.1) (some 17) r15.1) (some 18) r16.1) (some 19) r17.1) (some 20) r18.1) (some 21) r19.1) (some 22) r20.1) (some 23) r21.1) (some 24) r22.1) (some 25) r23.1) (some 26) r24.1) (some 27) r25.1) (some 28) r26.1) (some 29) r27.1) (some 30) r28.1) (some 31) r29.1) (some 32) r30.1) (some 13) r32.1) (some 14) r33.1) (some 3) r34.1), r34.2))) (
    some (X.exit 0, (rput (rput (rput (rput (rput (rput (rput (rput (rput R (some 4) r4.1) (some 5) r5.1) (some 6) r6.1) (some 7) r7.1) (some 8) r8.1) (some 9) r9.1) (some 10) r10.1) (some 11) r11.1) (some 12) r12.1), r12.2))
noncomputable def law22_wide (call : Eng.Callee) (x0 : Value) (W : AW) : Option (Value × AW) :=
  bnd (oBox x0 W) fun r1 =>
  bnd (oMv (.bool false) r1.2) fun r2 =>
  bnd (oMv (.int .i64 0) r2.2) fun r3 =>
  bnd (loopO (law22_wide_L1 call) (rput (rput (rput (argGo 0 [x0] PlanTab.blank) (some 1) r1.1) (some 2) r2.1) (some 3) r3.1) r3.2) fun r35 =>
  kExit 0 r35.1 (
    bnd (faO 3 (r35.2.1 1) r35.2.2) fun r36 =>
    bnd (ldC r36.1 r36.2) fun r37 =>
    bnd (oBuiltin Tryd.prog .len #[34] 3 #[false] [r37.1] r37.2) fun r38 =>
    bnd (oBin Tryd.prog .gtr 3 false true r38.1 (.int .i64 10) r38.2) fun r39 =>
    bnd (oMv r39.1 r39.2) fun r40 =>
    oRes Tryd.prog [(r40.1, none)] r40.2) (kRetX r35.1 (
    oRes Tryd.prog [((r35.2.1 2), none)] r35.2.2))
theorem law22_wide_eq (call : Eng.Callee) (x0 : Value) (W : AW) : kFun Tryd.prog call 37 (cod 17) (rss 17) [x0] W = law22_wide call x0 W := by kernel_rfl
theorem law22_wide_om {x0 : Value} {W : AW} {r : Value × AW} (h : law22_wide omS x0 W = some r) : omS (.func (.func 17) #[] #[]) [x0] W = some (gc W r) := om_of (nt := 37) (n := 1) (by kernel_rfl) (by kernel_rfl) rfl ((law22_wide_eq omS x0 W).trans h)
noncomputable def law22_ints (call : Eng.Callee) (x0 x1 : Value) (W : AW) : Option (Value × AW) :=
  bnd (oMv (.bool false) W) fun r1 =>
  bnd (oMv x0 r1.2) fun r2 =>
  bnd (oMv x1 r2.2) fun r3 =>
  bnd (call (fnV 48) [r2.1, r3.1] r3.2) fun r4 =>
  bnd (oMv r4.1 r4.2) fun r5 =>
  oRes Tryd.prog [(r5.1, none)] r5.2
theorem law22_ints_eq (call : Eng.Callee) (x0 x1 : Value) (W : AW) : kFun Tryd.prog call 8 (cod 20) (rss 20) [x0, x1] W = law22_ints call x0 x1 W := by kernel_rfl
theorem law22_ints_om {x0 x1 : Value} {W : AW} {r : Value × AW} (h : law22_ints omS x0 x1 W = some r) : omS (.func (.func 20) #[] #[]) [x0, x1] W = some (gc W r) := om_of (nt := 8) (n := 2) (by kernel_rfl) (by kernel_rfl) rfl ((law22_ints_eq omS x0 x1 W).trans h)
noncomputable def venue_Of_Y1a (call : Eng.Callee) (R : Nat → Value) (W : AW) : Option LT :=
  bnd (oAlloc Tryd.prog 92 W) fun r21 =>
  bnd (stV 4 r21.1 (R 20) r21.2) fun r22 =>
  some (X.normal, (rput R (some 9) r21.1), r22.2)
theorem venue_Of_Y1a_eq (call : Eng.Callee) (R : Nat → Value) (W : AW) : kCode Tryd.prog call false 37 (cAt [1, 1, 0, 1, 0, 0] (cod 32)) LT R W ret3 = venue_Of_Y1a call R W := by kernel_rfl
noncomputable def venue_Of_Y1b (call : Eng.Callee) (R : Nat → Value) (W : AW) : Option LT :=
  bnd (faO 0 (R 9) W) fun r23 =>
  bnd (ldC r23.1 r23.2) fun r24 =>
  bnd (ldC (R 3) r24.2) fun r25 =>
  bnd (oBin Tryd.prog .neq 3 false false r24.1 r25.1 r25.2) fun r26 =>
  vIf r26.1 (
    some (X.normal, (rput (rput (rput (rput R (some 21) r23.1) (some 22) r24.1) (some 23) r25.1) (some 24) r26.1), r26.2)) (
    bnd (ldC (R 5) r26.2) fun r27 =>
    bnd (oBin Tryd.prog .eql 3 false true r27.1 (.int .i64 0) r27.2) fun r28 =>
    vIf r28.1 (
      bnd (faO 2 (R 9) r28.2) fun r29 =>
      bnd (ldC r29.1 r29.2) fun r30 =>
      bnd (stV 1 (R 4) r30.1 r30.2) fun r31 =>
      bnd (ldC (R 5) r31.2) fun r32 =>
      bnd (faO 3 (R 9) r32.2) fun r33 =>
      bnd (ldC r33.1 r33.2) fun r34 =>
      bnd (oBin Tryd.prog .add 3 false false r32.1 r34.1 r34.2) fun r35 =>
      bnd (stV 1 (R 5) r35.1 r35.2) fun r36 =>
      some (X.normal, (rput (rput (rput (rput (rput (rput (rput (rput (rput (rput (rput (rput R (some 21) r23.1) (some 22) r24.1) (some 23) r25.1) (some 24) r26.1) (some 25) r27.1) (some 26) r28.1) (some 27) r29.1) (some 28) r30.1) (some 29) r32.1) (some 30) r33.1) (some 31) r34.1) (some 32) r35.1), r36.2)) (
      bnd (ldC (R 5) r28.2) fun r37 =>
      bnd (faO 3 (R 9) r37.2) fun r38 =>
      bnd (ldC r38.1 r38.2) fun r39 =>
      bnd (oBin Tryd.prog .add 3 false false r37.1 r39.1 r39.2) fun r40 =>
      bnd (stV 1 (R 5) r40.1 r40.2) fun r41 =>
      some (X.normal, (rput (rput (rput (rput (rput (rput (rput (rput (rput (rput R (some 21) r23.1) (some 22) r24.1) (some 23) r25.1) (some 24) r26.1) (some 25) r27.1) (some 26) r28.1) (some 29) r37.1) (some 30) r38.1) (some 31) r39.1) (some 32) r40.1), r41.2)))
theorem venue_Of_Y1b_eq (call : Eng.Callee) (R : Nat → Value) (W : AW) : kCode Tryd.prog call false 37 (cAt [1, 1, 0, 1, 0, 1] (cod 32)) LT R W ret3 = venue_Of_Y1b call R W := by kernel_rfl
noncomputable def venue_Of (call : Eng.Callee) (x0 x1 : Value) (W : AW) : Option (Value × AW) :=
  bnd (oBox x0 W) fun r1 =>
  bnd (oBox x1 r1.2) fun r2 =>
  bnd (oAlloc Tryd.prog 3 r2.2) fun r3 =>
  bnd (oAlloc Tryd.prog 3 r3.2) fun r4 =>
  bnd (oMv (.int .i64 0) r4.2) fun r5 =>
  bnd (ldA 4 r1.1 r5.2) fun r6 =>
  bnd (call (fnV 42) [r6.1] r6.2) fun r7 =>
  bnd (oMv r7.1 r7.2) fun r8 =>
  bnd (oExtract r8.1 0 r8.2) fun r9 =>
  bnd (oExtract r8.1 1 r9.2) fun r10 =>
  bnd (oMv r9.1 r10.2) fun r11 =>
  bnd (oMv r10.1 r11.2) fun r12 =>
  bnd (oMv r12.1 r12.2) fun r13 =>
  bnd (oBin Tryd.prog .neq 28 false true r13.1 (.int .i64 0) r13.2) fun r14 =>
  vIf r14.1 (
    bnd (oMv r12.1 r14.2) fun r15 =>
    bnd (stV 1 r3.1 (.int .i64 0) r15.2) fun r16 =>
    bnd (stV 1 r4.1 (.int .i64 0) r16.2) fun r17 =>
    bnd (oMv r15.1 r17.2) fun r18 =>
    oRes Tryd.prog [(r3.1, some 3), (r4.1, some 3), (r18.1, none)] r18.2) (
    bnd (ldA 4 r1.1 r14.2) fun r19 =>
    bnd (call (fnV 55) [r19.1] r19.2) fun r20 =>
    bnd (oRange call r20.1 (.loop .ready none (rput (rput (rput (rput (rput (rput (rput (rput (rput (rput (rput (rput (rput (rput (rput (rput (argGo 0 [x0, x1] PlanTab.blank) (some 2) r1.1) (some 3) r2.1) (some 4) r3.1) (some 5) r4.1) (some 6) r5.1) (some 11) r6.1) (some 12) r7.1) (some 10) r8.1) (some 13) r9.1) (some 14) r10.1) (some 7) r11.1) (some 8) r12.1) (some 15) r13.1) (some 16) r14.1) (some 18) r19.1) (some 19) r20.1) 37 #[20] (cAt [1, 1, 0, 1, 0, 0] (cod 32)) (cAt [1, 1, 0, 1, 0, 1] (cod 32))) r20.2) fun r42 =>
    kNorm r42.1 (
      bnd (ldC r4.1 r42.2) fun r43 =>
      bnd (oBin Tryd.prog .eql 3 false true r43.1 (.int .i64 0) r43.2) fun r44 =>
      vIf r44.1 (
        bnd (stV 1 r3.1 (.int .i64 0) r44.2) fun r45 =>
        bnd (stV 1 r4.1 (.int .i64 0) r45.2) fun r46 =>
        bnd (oMv (.int .i64 4) r46.2) fun r47 =>
        oRes Tryd.prog [(r3.1, some 3), (r4.1, some 3), (r47.1, none)] r47.2) (
        bnd (ldC r3.1 r44.2) fun r48 =>
        bnd (ldC r4.1 r48.2) fun r49 =>
        bnd (stV 1 r3.1 r48.1 r49.2) fun r50 =>
        bIf (agV true (ldC r4.1 r50.2) r49.1 && true) (bnd (stV 1 r4.1 r49.1 r50.2) fun r51 =>
        bnd (oMv (.int .i64 0) r51.2) fun r52 =>
        oRes Tryd.prog [(r3.1, some 3), (r4.1, some 3), (r52.1, none)] r52.2) none)) (none))
theorem venue_Of_eq (call : Eng.Callee) (x0 x1 : Value) (W : AW) : kFun Tryd.prog call 37 (cod 32) (rss 32) [x0, x1] W = venue_Of call x0 x1 W := by kernel_rfl
theorem venue_Of_om {x0 x1 : Value} {W : AW} {r : Value × AW} (h : venue_Of omS x0 x1 W = some r) : omS (.func (.func 32) #[] #[]) [x0, x1] W = some (gc W r) := om_of (nt := 37) (n := 2) (by kernel_rfl) (by kernel_rfl) rfl ((venue_Of_eq omS x0 x1 W).trans h)
noncomputable def venue_Place (call : Eng.Callee) (x0 x1 : Value) (W : AW) : Option (Value × AW) :=
  bnd (oBox x0 W) fun r1 =>
  bnd (oAlloc Tryd.prog 65 r1.2) fun r2 =>
  bnd (oMv (.int .i64 0) r2.2) fun r3 =>
  bnd (ldA 4 r1.1 r3.2) fun r4 =>
  bnd (oMv x1 r4.2) fun r5 =>
  bnd (call (fnV 57) [r4.1, r5.1] r5.2) fun r6 =>
  bnd (oMv r6.1 r6.2) fun r7 =>
  bnd (oExtract r7.1 0 r7.2) fun r8 =>
  bnd (oExtract r7.1 1 r8.2) fun r9 =>
  bnd (oAlloc Tryd.prog 92 r9.2) fun r10 =>
  bnd (stV 4 r10.1 r8.1 r10.2) fun r11 =>
  bnd (oMv r9.1 r11.2) fun r12 =>
  bnd (oMv r12.1 r12.2) fun r13 =>
  bnd (oBin Tryd.prog .neq 28 false true r13.1 (.int .i64 0) r13.2) fun r14 =>
  vIf r14.1 (
    bnd (oBuild Tryd.prog 65 [] r14.2) fun r15 =>
    bnd (oMv r12.1 r15.2) fun r16 =>
    bnd (stV 3 r2.1 r15.1 r16.2) fun r17 =>
    bnd (oMv r16.1 r17.2) fun r18 =>
    oRes Tryd.prog [(r2.1, some 65), (r18.1, none)] r18.2) (
    bnd (faO 0 r10.1 r14.2) fun r19 =>
    bnd (ldC r19.1 r19.2) fun r20 =>
    bnd (faO 1 r10.1 r20.2) fun r21 =>
    bnd (ldC r21.1 r21.2) fun r22 =>
    bnd (oMv x1 r22.2) fun r23 =>
    bnd (faO 2 r10.1 r23.2) fun r24 =>
    bnd (ldC r24.1 r24.2) fun r25 =>
    bnd (oBin Tryd.prog .sub 3 false false r23.1 r25.1 r25.2) fun r26 =>
    bnd (oBuild Tryd.prog 65 [(0, r20.1), (1, r22.1), (2, r26.1)] r26.2) fun r27 =>
    bnd (stV 3 r2.1 r27.1 r27.2) fun r28 =>
    bnd (oMv (.int .i64 0) r28.2) fun r29 =>
    oRes Tryd.prog [(r2.1, some 65), (r29.1, none)] r29.2)
theorem venue_Place_eq (call : Eng.Callee) (x0 x1 : Value) (W : AW) : kFun Tryd.prog call 27 (cod 35) (rss 35) [x0, x1] W = venue_Place call x0 x1 W := by kernel_rfl
theorem venue_Place_om {x0 x1 : Value} {W : AW} {r : Value × AW} (h : venue_Place omS x0 x1 W = some r) : omS (.func (.func 35) #[] #[]) [x0, x1] W = some (gc W r) := om_of (nt := 27) (n := 2) (by kernel_rfl) (by kernel_rfl) rfl ((venue_Place_eq omS x0 x1 W).trans h)
noncomputable def venue_Shard (call : Eng.Callee) (x0 x1 : Value) (W : AW) : Option (Value × AW) :=
  bnd (oBox x0 W) fun r1 =>
  bnd (oMv (.int .i64 0) r1.2) fun r2 =>
  bnd (oMv (.int .i64 0) r2.2) fun r3 =>
  bnd (ldA 4 r1.1 r3.2) fun r4 =>
  bnd (oMv x1 r4.2) fun r5 =>
  bnd (call (fnV 57) [r4.1, r5.1] r5.2) fun r6 =>
  bnd (oMv r6.1 r6.2) fun r7 =>
  bnd (oExtract r7.1 0 r7.2) fun r8 =>
  bnd (oExtract r7.1 1 r8.2) fun r9 =>
  bnd (oAlloc Tryd.prog 92 r9.2) fun r10 =>
  bnd (stV 4 r10.1 r8.1 r10.2) fun r11 =>
  bnd (oMv r9.1 r11.2) fun r12 =>
  bnd (oMv r12.1 r12.2) fun r13 =>
  bnd (oBin Tryd.prog .neq 28 false true r13.1 (.int .i64 0) r13.2) fun r14 =>
  vIf r14.1 (
    bnd (oMv r12.1 r14.2) fun r15 =>
    bnd (oMv (.int .i64 0) r15.2) fun r16 =>
    bnd (oMv r15.1 r16.2) fun r17 =>
    oRes Tryd.prog [(r16.1, none), (r17.1, none)] r17.2) (
    bnd (oMv x1 r14.2) fun r18 =>
    bnd (faO 0 r1.1 r18.2) fun r19 =>
    bnd (ldC r19.1 r19.2) fun r20 =>
    bnd (oBin Tryd.prog .rem 3 false false r18.1 r20.1 r20.2) fun r21 =>
    bnd (oMv r21.1 r21.2) fun r22 =>
    bnd (oMv (.int .i64 0) r22.2) fun r23 =>
    oRes Tryd.prog [(r22.1, none), (r23.1, none)] r23.2)
theorem venue_Shard_eq (call : Eng.Callee) (x0 x1 : Value) (W : AW) : kFun Tryd.prog call 21 (cod 37) (rss 37) [x0, x1] W = venue_Shard call x0 x1 W := by kernel_rfl
theorem venue_Shard_om {x0 x1 : Value} {W : AW} {r : Value × AW} (h : venue_Shard omS x0 x1 W = some r) : omS (.func (.func 37) #[] #[]) [x0, x1] W = some (gc W r) := om_of (nt := 21) (n := 2) (by kernel_rfl) (by kernel_rfl) rfl ((venue_Shard_eq omS x0 x1 W).trans h)
noncomputable def venue_Cover_L1 (call : Eng.Callee) (R : Nat → Value) (W : AW) : Option LT :=
  bnd (oBin Tryd.prog .lss 3 false false (R 25) (R 24) W) fun r25 =>
  vIf r25.1 (
    bnd (oMv (R 25) r25.2) fun r26 =>
    bnd (oMv r26.1 r26.2) fun r27 =>
    bnd (oMv (R 9) r27.2) fun r28 =>
    bnd (oMv (R 6) r28.2) fun r29 =>
    bnd (oMv r27.1 r29.2) fun r30 =>
    bnd (oBin Tryd.prog .add 3 false false r29.1 r30.1 r30.2) fun r31 =>
    bnd (faO 0 (R 2) r31.2) fun r32 =>
    bnd (ldC r32.1 r32.2) fun r33 =>
    bnd (oBin Tryd.prog .rem 3 false false r31.1 r33.1 r33.2) fun r34 =>
    bnd (oBuildSlice Tryd.prog 38 1 [(0, r34.1)] r34.2) fun r35 =>
    bnd (aAppend Tryd.prog r35.2 #[38, 38] r28.1 r35.1) fun r36 =>
    bnd (oMv r36.1 r36.2) fun r37 =>
    bnd (oBin Tryd.prog .add 3 false true (R 25) (.int .i64 1) r37.2) fun r38 =>
    bnd (oMv r38.1 r38.2) fun r39 =>
    some (X.normal, (rput (rput (rput (rput (rput (rput (rput (rput (rput (rput (rput (rput (rput (rput (rput R (some 26) r25.1) (some 27) r26.1) (some 10) r27.1) (some 28) r28.1) (some 29) r29.1) (some 30) r30.1) (some 31) r31.1) (some 32) r32.1) (some 33) r33.1) (some 34) r34.1) (some 35) r35.1) (some 36) r36.1) (some 9) r37.1) (some 37) r38.1) (some 25) r39.1), r39.2)) (
    some (X.exit 0, (rput R (some 26) r25.1), r25.2))
noncomputable def venue_Cover (call : Eng.Callee) (x0 x1 : Value) (W : AW) : Option (Value × AW) :=
  bnd (oBox x0 W) fun r1 =>
  bnd (oMv (.slice none 0 0) r1.2) fun r2 =>
  bnd (oMv (.int .i64 0) r2.2) fun r3 =>
  bnd (ldA 4 r1.1 r3.2) fun r4 =>
  bnd (oMv x1 r4.2) fun r5 =>
  bnd (call (fnV 32) [r4.1, r5.1] r5.2) fun r6 =>
  bnd (oMv r6.1 r6.2) fun r7 =>
  bnd (oExtract r7.1 0 r7.2) fun r8 =>
  bnd (oExtract r7.1 1 r8.2) fun r9 =>
  bnd (oExtract r7.1 2 r9.2) fun r10 =>
  bnd (oMv r8.1 r10.2) fun r11 =>
  bnd (oMv r9.1 r11.2) fun r12 =>
  bnd (oMv r10.1 r12.2) fun r13 =>
  bnd (oMv r13.1 r13.2) fun r14 =>
  bnd (oBin Tryd.prog .neq 28 false true r14.1 (.int .i64 0) r14.2) fun r15 =>
  vIf r15.1 (
    bnd (oMv r13.1 r15.2) fun r16 =>
    bnd (oMv (.slice none 0 0) r16.2) fun r17 =>
    bnd (oMv r16.1 r17.2) fun r18 =>
    oRes Tryd.prog [(r17.1, none), (r18.1, none)] r18.2) (
    bnd (oMv (.slice none 0 0) r15.2) fun r19 =>
    bnd (oMv r12.1 r19.2) fun r20 =>
    bnd (faO 0 r1.1 r20.2) fun r21 =>
    bnd (ldC r21.1 r21.2) fun r22 =>
    bnd (oBuiltin Tryd.prog .min #[3, 3] 3 #[false, false] [r20.1, r22.1] r22.2) fun r23 =>
    bnd (oMv (.int .i64 0) r23.2) fun r24 =>
    bnd (loopO (venue_Cover_L1 call) (rput (rput (rput (rput (rput (rput (rput (rput (rput (rput (rput (rput (rput (rput (rput (rput (rput (rput (rput (rput (rput (argGo 0 [x0, x1] PlanTab.blank) (some 2) r1.1) (some 4) r2.1) (some 5) r3.1) (some 12) r4.1) (some 13) r5.1) (some 14) r6.1) (some 11) r7.1) (some 15) r8.1) (some 16) r9.1) (some 17) r10.1) (some 6) r11.1) (some 7) r12.1) (some 8) r13.1) (some 18) r14.1) (some 19) r15.1) (some 9) r19.1) (some 21) r20.1) (some 22) r21.1) (some 23) r22.1) (some 24) r23.1) (some 25) r24.1) r24.2) fun r40 =>
    kExit 0 r40.1 (
      bnd (oMv (r40.2.1 9) r40.2.2) fun r41 =>
      bnd (call (fnV 58) [r41.1] r41.2) fun r42 =>
      bnd (oMv (r40.2.1 9) r42.2) fun r43 =>
      bnd (oMv r43.1 r43.2) fun r44 =>
      bnd (oMv (.int .i64 0) r44.2) fun r45 =>
      oRes Tryd.prog [(r44.1, none), (r45.1, none)] r45.2) (none))
theorem venue_Cover_eq (call : Eng.Callee) (x0 x1 : Value) (W : AW) : kFun Tryd.prog call 41 (cod 38) (rss 38) [x0, x1] W = venue_Cover call x0 x1 W := by kernel_rfl
theorem venue_Cover_om {x0 x1 : Value} {W : AW} {r : Value × AW} (h : venue_Cover omS x0 x1 W = some r) : omS (.func (.func 38) #[] #[]) [x0, x1] W = some (gc W r) := om_of (nt := 41) (n := 2) (by kernel_rfl) (by kernel_rfl) rfl ((venue_Cover_eq omS x0 x1 W).trans h)
noncomputable def venue_Lock (call : Eng.Callee) (x0 x1 : Value) (W : AW) : Option (Value × AW) :=
  bnd (oBox x0 W) fun r1 =>
  bnd (oMv (.int .i64 0) r1.2) fun r2 =>
  bnd (oMv (.int .i64 0) r2.2) fun r3 =>
  bnd (ldA 4 r1.1 r3.2) fun r4 =>
  bnd (oMv x1 r4.2) fun r5 =>
  bnd (call (fnV 32) [r4.1, r5.1] r5.2) fun r6 =>
  bnd (oMv r6.1 r6.2) fun r7 =>
  bnd (oExtract r7.1 0 r7.2) fun r8 =>
  bnd (oExtract r7.1 1 r8.2) fun r9 =>
  bnd (oExtract r7.1 2 r9.2) fun r10 =>
  bnd (oMv r8.1 r10.2) fun r11 =>
  bnd (oMv r9.1 r11.2) fun r12 =>
  bnd (oMv r10.1 r12.2) fun r13 =>
  bnd (oMv r13.1 r13.2) fun r14 =>
  bnd (oBin Tryd.prog .neq 28 false true r14.1 (.int .i64 0) r14.2) fun r15 =>
  vIf r15.1 (
    bnd (oMv r13.1 r15.2) fun r16 =>
    bnd (oMv (.int .i64 0) r16.2) fun r17 =>
    bnd (oMv r16.1 r17.2) fun r18 =>
    oRes Tryd.prog [(r17.1, none), (r18.1, none)] r18.2) (
    bnd (faO 0 r1.1 r15.2) fun r19 =>
    bnd (ldC r19.1 r19.2) fun r20 =>
    bnd (oMv x1 r20.2) fun r21 =>
    bnd (oBin Tryd.prog .add 3 false false r20.1 r21.1 r21.2) fun r22 =>
    bnd (oMv r22.1 r22.2) fun r23 =>
    bnd (oMv (.int .i64 0) r23.2) fun r24 =>
    oRes Tryd.prog [(r23.1, none), (r24.1, none)] r24.2)
theorem venue_Lock_eq (call : Eng.Callee) (x0 x1 : Value) (W : AW) : kFun Tryd.prog call 23 (cod 39) (rss 39) [x0, x1] W = venue_Lock call x0 x1 W := by kernel_rfl
theorem venue_Lock_om {x0 x1 : Value} {W : AW} {r : Value × AW} (h : venue_Lock omS x0 x1 W = some r) : omS (.func (.func 39) #[] #[]) [x0, x1] W = some (gc W r) := om_of (nt := 23) (n := 2) (by kernel_rfl) (by kernel_rfl) rfl ((venue_Lock_eq omS x0 x1 W).trans h)
noncomputable def venue_Check_L1_L2 (call : Eng.Callee) (R : Nat → Value) (W : AW) : Option LT :=
  bnd (oBin Tryd.prog .lss 3 false false (R 55) (R 54) W) fun r63 =>
  vIf r63.1 (
    bnd (ixS 1 (R 53) (R 55) r63.2) fun r64 =>
    bnd (ldC r64.1 r64.2) fun r65 =>
    bnd (oMv r65.1 r65.2) fun r66 =>
    bnd (oMv (R 4) r66.2) fun r67 =>
    bnd (oMv r66.1 r67.2) fun r68 =>
    bnd (oBin Tryd.prog .add 3 false false r67.1 r68.1 r68.2) fun r69 =>
    bnd (oMv r69.1 r69.2) fun r70 =>
    bnd (oBin Tryd.prog .add 3 false true (R 55) (.int .i64 1) r70.2) fun r71 =>
    bnd (oMv r71.1 r71.2) fun r72 =>
    some (X.normal, (rput (rput (rput (rput (rput (rput (rput (rput (rput (rput R (some 56) r63.1) (some 57) r64.1) (some 58) r65.1) (some 9) r66.1) (some 59) r67.1) (some 60) r68.1) (some 61) r69.1) (some 4) r70.1) (some 62) r71.1) (some 55) r72.1), r72.2)) (
    some (X.exit 3, (rput R (some 56) r63.1), r63.2))
noncomputable def venue_Check_L1 (call : Eng.Callee) (R : Nat → Value) (W : AW) : Option LT :=
  bnd (oBin Tryd.prog .lss 3 false false (R 37) (R 36) W) fun r39 =>
  vIf r39.1 (
    bnd (oMv (R 37) r39.2) fun r40 =>
    bnd (ixS 3 (R 35) (R 37) r40.2) fun r41 =>
    bnd (ldA 3 r41.1 r41.2) fun r42 =>
    bnd (oAlloc Tryd.prog 62 r42.2) fun r43 =>
    bnd (oMv r40.1 r43.2) fun r44 =>
    bnd (stV 3 r43.1 r42.1 r44.2) fun r45 =>
    bnd (ldA 3 r43.1 r45.2) fun r46 =>
    bnd (faO 3 (R 1) r46.2) fun r47 =>
    bnd (ldC r47.1 r47.2) fun r48 =>
    bnd (oMv r44.1 r48.2) fun r49 =>
    bnd (oSlice Tryd.prog 34 r48.1 none (some r49.1) none r49.2) fun r50 =>
    bnd (call (fnV 60) [r46.1, r50.1] r50.2) fun r51 =>
    bnd (oMv r51.1 r51.2) fun r52 =>
    bnd (oMv r52.1 r52.2) fun r53 =>
    bnd (oBin Tryd.prog .neq 28 false true r53.1 (.int .i64 0) r53.2) fun r54 =>
    vIf r54.1 (
      bnd (oMv r44.1 r54.2) fun r55 =>
      bnd (oMv r52.1 r55.2) fun r56 =>
      bnd (oMv r55.1 r56.2) fun r57 =>
      bnd (oMv r56.1 r57.2) fun r58 =>
      some (X.ret, (rput (rput (rput (rput (rput (rput (rput (rput (rput (rput (rput (rput (rput (rput (rput (rput (rput (rput (rput R (some 38) r39.1) (some 39) r40.1) (some 40) r41.1) (some 41) r42.1) (some 6) r43.1) (some 5) r44.1) (some 42) r46.1) (some 43) r47.1) (some 44) r48.1) (some 45) r49.1) (some 46) r50.1) (some 47) r51.1) (some 7) r52.1) (some 48) r53.1) (some 49) r54.1) (some 50) r55.1) (some 51) r56.1) (some 2) r57.1) (some 3) r58.1), r58.2)) (
      bnd (faO 1 r43.1 r54.2) fun r59 =>
      bnd (ldC r59.1 r59.2) fun r60 =>
      bnd (oBuiltin Tryd.prog .len #[38] 3 #[false] [r60.1] r60.2) fun r61 =>
      bnd (oMv (.int .i64 0) r61.2) fun r62 =>
      bnd (loopO (venue_Check_L1_L2 call) (rput (rput (rput (rput (rput (rput (rput (rput (rput (rput (rput (rput (rput (rput (rput (rput (rput (rput (rput R (some 38) r39.1) (some 39) r40.1) (some 40) r41.1) (some 41) r42.1) (some 6) r43.1) (some 5) r44.1) (some 42) r46.1) (some 43) r47.1) (some 44) r48.1) (some 45) r49.1) (some 46) r50.1) (some 47) r51.1) (some 7) r52.1) (some 48) r53.1) (some 49) r54.1) (some 52) r59.1) (some 53) r60.1) (some 54) r61.1) (some 55) r62.1) r62.2) fun r73 =>
      kExit 3 r73.1 (
        bnd (oBin Tryd.prog .add 3 false true (r73.2.1 37) (.int .i64 1) r73.2.2) fun r74 =>
        bnd (oMv r74.1 r74.2) fun r75 =>
        some (X.normal, (rput (rput r73.2.1 (some 63) r74.1) (some 37) r75.1), r75.2)) (none))) (
    some (X.exit 1, (rput R (some 38) r39.1), r39.2))
noncomputable def venue_Check (call : Eng.Callee) (x0 : Value) (W : AW) : Option (Value × AW) :=
  bnd (oBox x0 W) fun r1 =>
  bnd (oMv (.int .i64 0) r1.2) fun r2 =>
  bnd (oMv (.int .i64 0) r2.2) fun r3 =>
  bnd (faO 0 r1.1 r3.2) fun r4 =>
  bnd (ldC r4.1 r4.2) fun r5 =>
  bnd (call (fnV 56) [r5.1, (.int .i64 1), (.int .i64 16)] r5.2) fun r6 =>
  bnd (oMv r6.1 r6.2) fun r7 =>
  bnd (bIf (wnt r7.1 false) (faO 1 r1.1 r7.2) (some (undef, r7.2))) fun r8 =>
  bnd (bIf (wnt r7.1 false) (ldC r8.1 r8.2) (some (undef, r8.2))) fun r9 =>
  bnd (bIf (wnt r7.1 false) (call (fnV 59) [r9.1, (.int .i64 1), (.int .i64 1000000000)] r9.2) (some (undef, r9.2))) fun r10 =>
  bnd (oPick r7.1 (.bool true) r10.1 r10.2) fun r11 =>
  bnd (oMv r11.1 r11.2) fun r12 =>
  bnd (bIf (wnt r12.1 false) (faO 2 r1.1 r12.2) (some (undef, r12.2))) fun r13 =>
  bnd (bIf (wnt r12.1 false) (ldC r13.1 r13.2) (some (undef, r13.2))) fun r14 =>
  bnd (bIf (wnt r12.1 false) (call (fnV 59) [r14.1, (.int .i64 1), (.int .i64 1000000000)] r14.2) (some (undef, r14.2))) fun r15 =>
  bnd (oPick r12.1 (.bool true) r15.1 r15.2) fun r16 =>
  bnd (oMv r16.1 r16.2) fun r17 =>
  vIf r17.1 (
    bnd (oMv (.int .i64 (-1)) r17.2) fun r18 =>
    bnd (oMv (.int .i64 7) r18.2) fun r19 =>
    oRes Tryd.prog [(r18.1, none), (r19.1, none)] r19.2) (
    bnd (faO 3 r1.1 r17.2) fun r20 =>
    bnd (ldC r20.1 r20.2) fun r21 =>
    bnd (oBuiltin Tryd.prog .len #[34] 3 #[false] [r21.1] r21.2) fun r22 =>
    bnd (oBin Tryd.prog .eql 3 false true r22.1 (.int .i64 0) r22.2) fun r23 =>
    bnd (oMv r23.1 r23.2) fun r24 =>
    vIf r24.1 (
      bnd (oMv (.int .i64 (-1)) r24.2) fun r25 =>
      bnd (oMv (.int .i64 6) r25.2) fun r26 =>
      oRes Tryd.prog [(r25.1, none), (r26.1, none)] r26.2) (
      bnd (faO 3 r1.1 r24.2) fun r27 =>
      bnd (ldC r27.1 r27.2) fun r28 =>
      bnd (oBuiltin Tryd.prog .len #[34] 3 #[false] [r28.1] r28.2) fun r29 =>
      bnd (oBin Tryd.prog .gtr 3 false true r29.1 (.int .i64 8) r29.2) fun r30 =>
      bnd (oMv r30.1 r30.2) fun r31 =>
      vIf r31.1 (
        bnd (oMv (.int .i64 (-1)) r31.2) fun r32 =>
        bnd (oMv (.int .i64 3) r32.2) fun r33 =>
        oRes Tryd.prog [(r32.1, none), (r33.1, none)] r33.2) (
        bnd (oMv (.int .i64 0) r31.2) fun r34 =>
        bnd (faO 3 r1.1 r34.2) fun r35 =>
        bnd (ldC r35.1 r35.2) fun r36 =>
        bnd (oBuiltin Tryd.prog .len #[34] 3 #[false] [r36.1] r36.2) fun r37 =>
        bnd (oMv (.int .i64 0) r37.2) fun r38 =>
        bnd (loopO (venue_Check_L1 call) (rput (rput (rput (rput (rput (rput (rput (rput (rput (rput (rput (rput (rput (rput (rput (rput (rput (rput (rput (rput (rput (rput (rput (rput (rput (rput (rput (rput (rput (rput (rput (rput (argGo 0 [x0] PlanTab.blank) (some 1) r1.1) (some 2) r2.1) (some 3) r3.1) (some 11) r4.1) (some 12) r5.1) (some 13) r6.1) (some 14) r7.1) (some 15) r8.1) (some 16) r9.1) (some 17) r10.1) (some 18) r11.1) (some 19) r12.1) (some 20) r13.1) (some 21) r14.1) (some 22) r15.1) (some 23) r16.1) (some 10) r17.1) (some 25) r20.1) (some 26) r21.1) (some 27) r22.1) (some 28) r23.1) (some 24) r24.1) (some 30) r27.1) (some 31) r28.1) (some 32) r29.1) (some 33) r30.1) (some 29) r31.1) (some 4) r34.1) (some 34) r35.1) (some 35) r36.1) (some 36) r37.1) (some 37) r38.1) r38.2) fun r76 =>
        kExit 1 r76.1 (
          bnd (oMv (r76.2.1 4) r76.2.2) fun r77 =>
          bnd (oBin Tryd.prog .gtr 3 false true r77.1 (.int .i64 4096) r77.2) fun r78 =>
          vIf r78.1 (
            bnd (oMv (.int .i64 (-1)) r78.2) fun r79 =>
            bnd (oMv (.int .i64 3) r79.2) fun r80 =>
            oRes Tryd.prog [(r79.1, none), (r80.1, none)] r80.2) (
            bnd (oMv (.int .i64 0) r78.2) fun r81 =>
            bnd (oMv (.int .i64 0) r81.2) fun r82 =>
            oRes Tryd.prog [(r81.1, none), (r82.1, none)] r82.2)) (kRetX r76.1 (
          oRes Tryd.prog [((r76.2.1 2), none), ((r76.2.1 3), none)] r76.2.2)))))
theorem venue_Check_eq (call : Eng.Callee) (x0 : Value) (W : AW) : kFun Tryd.prog call 66 (cod 42) (rss 42) [x0] W = venue_Check call x0 W := by kernel_rfl
theorem venue_Check_om {x0 : Value} {W : AW} {r : Value × AW} (h : venue_Check omS x0 W = some r) : omS (.func (.func 42) #[] #[]) [x0] W = some (gc W r) := om_of (nt := 66) (n := 1) (by kernel_rfl) (by kernel_rfl) rfl ((venue_Check_eq omS x0 W).trans h)
noncomputable def ref15_Check_L1 (call : Eng.Callee) (R : Nat → Value) (W : AW) : Option LT :=
  bnd (oMv (R 4) W) fun r35 =>
  bnd (faO 3 (R 1) r35.2) fun r36 =>
  bnd (ldC r36.1 r36.2) fun r37 =>
  bnd (oBuiltin Tryd.prog .len #[34] 3 #[false] [r37.1] r37.2) fun r38 =>
  bnd (oBin Tryd.prog .lss 3 false false r35.1 r38.1 r38.2) fun r39 =>
  vIf r39.1 (
    bnd (ldA 4 (R 1) r39.2) fun r40 =>
    bnd (oMv (R 4) r40.2) fun r41 =>
    bnd (call (fnV 62) [r40.1, r41.1] r41.2) fun r42 =>
    bnd (oMv r42.1 r42.2) fun r43 =>
    bnd (oMv r43.1 r43.2) fun r44 =>
    bnd (oBin Tryd.prog .neq 28 false true r44.1 (.int .i64 0) r44.2) fun r45 =>
    vIf r45.1 (
      bnd (oMv (R 4) r45.2) fun r46 =>
      bnd (oMv r43.1 r46.2) fun r47 =>
      bnd (oMv r46.1 r47.2) fun r48 =>
      bnd (oMv r47.1 r48.2) fun r49 =>
      some (X.ret, (rput (rput (rput (rput (rput (rput (rput (rput (rput (rput (rput (rput (rput (rput (rput R (some 30) r35.1) (some 31) r36.1) (some 32) r37.1) (some 33) r38.1) (some 34) r39.1) (some 37) r40.1) (some 38) r41.1) (some 39) r42.1) (some 5) r43.1) (some 40) r44.1) (some 41) r45.1) (some 42) r46.1) (some 43) r47.1) (some 2) r48.1) (some 3) r49.1), r49.2)) (
      bnd (oMv (R 4) r45.2) fun r50 =>
      bnd (oBin Tryd.prog .add 3 false true r50.1 (.int .i64 1) r50.2) fun r51 =>
      bnd (oMv r51.1 r51.2) fun r52 =>
      some (X.normal, (rput (rput (rput (rput (rput (rput (rput (rput (rput (rput (rput (rput (rput (rput R (some 30) r35.1) (some 31) r36.1) (some 32) r37.1) (some 33) r38.1) (some 34) r39.1) (some 37) r40.1) (some 38) r41.1) (some 39) r42.1) (some 5) r43.1) (some 40) r44.1) (some 41) r45.1) (some 35) r50.1) (some 36) r51.1) (some 4) r52.1), r52.2))) (
    some (X.exit 0, (rput (rput (rput (rput (rput R (some 30) r35.1) (some 31) r36.1) (some 32) r37.1) (some 33) r38.1) (some 34) r39.1), r39.2))
noncomputable def ref15_Check (call : Eng.Callee) (x0 : Value) (W : AW) : Option (Value × AW) :=
  bnd (oBox x0 W) fun r1 =>
  bnd (oMv (.int .i64 0) r1.2) fun r2 =>
  bnd (oMv (.int .i64 0) r2.2) fun r3 =>
  bnd (faO 0 r1.1 r3.2) fun r4 =>
  bnd (ldC r4.1 r4.2) fun r5 =>
  bnd (call (fnV 61) [r5.1, (.int .i64 1), (.int .i64 16)] r5.2) fun r6 =>
  bnd (oUn Tryd.prog .not r6.1 r6.2) fun r7 =>
  bnd (oMv r7.1 r7.2) fun r8 =>
  bnd (bIf (wnt r8.1 false) (faO 1 r1.1 r8.2) (some (undef, r8.2))) fun r9 =>
  bnd (bIf (wnt r8.1 false) (ldC r9.1 r9.2) (some (undef, r9.2))) fun r10 =>
  bnd (bIf (wnt r8.1 false) (call (fnV 61) [r10.1, (.int .i64 1), (.int .i64 1000000000)] r10.2) (some (undef, r10.2))) fun r11 =>
  bnd (bIf (wnt r8.1 false) (oUn Tryd.prog .not r11.1 r11.2) (some (undef, r11.2))) fun r12 =>
  bnd (oPick r8.1 (.bool true) r12.1 r12.2) fun r13 =>
  bnd (oMv r13.1 r13.2) fun r14 =>
  bnd (bIf (wnt r14.1 false) (faO 2 r1.1 r14.2) (some (undef, r14.2))) fun r15 =>
  bnd (bIf (wnt r14.1 false) (ldC r15.1 r15.2) (some (undef, r15.2))) fun r16 =>
  bnd (bIf (wnt r14.1 false) (call (fnV 61) [r16.1, (.int .i64 1), (.int .i64 1000000000)] r16.2) (some (undef, r16.2))) fun r17 =>
  bnd (bIf (wnt r14.1 false) (oUn Tryd.prog .not r17.1 r17.2) (some (undef, r17.2))) fun r18 =>
  bnd (oPick r14.1 (.bool true) r18.1 r18.2) fun r19 =>
  vIf r19.1 (
    bnd (oMv (.int .i64 (-1)) r19.2) fun r20 =>
    bnd (oMv (.int .i64 7) r20.2) fun r21 =>
    oRes Tryd.prog [(r20.1, none), (r21.1, none)] r21.2) (
    bnd (faO 3 r1.1 r19.2) fun r22 =>
    bnd (ldC r22.1 r22.2) fun r23 =>
    bnd (oBuiltin Tryd.prog .len #[34] 3 #[false] [r23.1] r23.2) fun r24 =>
    bnd (oBin Tryd.prog .eql 3 false true r24.1 (.int .i64 0) r24.2) fun r25 =>
    vIf r25.1 (
      bnd (oMv (.int .i64 (-1)) r25.2) fun r26 =>
      bnd (oMv (.int .i64 6) r26.2) fun r27 =>
      oRes Tryd.prog [(r26.1, none), (r27.1, none)] r27.2) (
      bnd (faO 3 r1.1 r25.2) fun r28 =>
      bnd (ldC r28.1 r28.2) fun r29 =>
      bnd (oBuiltin Tryd.prog .len #[34] 3 #[false] [r29.1] r29.2) fun r30 =>
      bnd (oBin Tryd.prog .gtr 3 false true r30.1 (.int .i64 8) r30.2) fun r31 =>
      vIf r31.1 (
        bnd (oMv (.int .i64 (-1)) r31.2) fun r32 =>
        bnd (oMv (.int .i64 3) r32.2) fun r33 =>
        oRes Tryd.prog [(r32.1, none), (r33.1, none)] r33.2) (
        bnd (oMv (.int .i64 0) r31.2) fun r34 =>
        bnd (loopO (ref15_Check_L1 call) (rput (rput (rput (rput (rput (rput (rput (rput (rput (rput (rput (rput (rput (rput (rput (rput (rput (rput (rput (rput (rput (rput (rput (rput (rput (rput (rput (rput (argGo 0 [x0] PlanTab.blank) (some 1) r1.1) (some 2) r2.1) (some 3) r3.1) (some 6) r4.1) (some 7) r5.1) (some 8) r6.1) (some 9) r7.1) (some 10) r8.1) (some 11) r9.1) (some 12) r10.1) (some 13) r11.1) (some 14) r12.1) (some 15) r13.1) (some 16) r14.1) (some 17) r15.1) (some 18) r16.1) (some 19) r17.1) (some 20) r18.1) (some 21) r19.1) (some 22) r22.1) (some 23) r23.1) (some 24) r24.1) (some 25) r25.1) (some 26) r28.1) (some 27) r29.1) (some 28) r30.1) (some 29) r31.1) (some 4) r34.1) r34.2) fun r53 =>
        kExit 0 r53.1 (
          bnd (ldA 4 (r53.2.1 1) r53.2.2) fun r54 =>
          bnd (call (fnV 63) [r54.1] r54.2) fun r55 =>
          bnd (oBuiltin Tryd.prog .len #[100] 3 #[false] [r55.1] r55.2) fun r56 =>
          bnd (oBin Tryd.prog .gtr 3 false true r56.1 (.int .i64 4096) r56.2) fun r57 =>
          vIf r57.1 (
            bnd (oMv (.int .i64 (-1)) r57.2) fun r58 =>
            bnd (oMv (.int .i64 3) r58.2) fun r59 =>
            oRes Tryd.prog [(r58.1, none), (r59.1, none)] r59.2) (
            bnd (oMv (.int .i64 0) r57.2) fun r60 =>
            bnd (oMv (.int .i64 0) r60.2) fun r61 =>
            oRes Tryd.prog [(r60.1, none), (r61.1, none)] r61.2)) (kRetX r53.1 (
          oRes Tryd.prog [((r53.2.1 2), none), ((r53.2.1 3), none)] r53.2.2)))))
theorem ref15_Check_eq (call : Eng.Callee) (x0 : Value) (W : AW) : kFun Tryd.prog call 48 (cod 43) (rss 43) [x0] W = ref15_Check call x0 W := by kernel_rfl
theorem ref15_Check_om {x0 : Value} {W : AW} {r : Value × AW} (h : ref15_Check omS x0 W = some r) : omS (.func (.func 43) #[] #[]) [x0] W = some (gc W r) := om_of (nt := 48) (n := 1) (by kernel_rfl) (by kernel_rfl) rfl ((ref15_Check_eq omS x0 W).trans h)
noncomputable def ref15_Lock (call : Eng.Callee) (x0 x1 : Value) (W : AW) : Option (Value × AW) :=
  bnd (oBox x0 W) fun r1 =>
  bnd (oMv (.int .i64 0) r1.2) fun r2 =>
  bnd (oMv (.int .i64 0) r2.2) fun r3 =>
  bnd (ldA 4 r1.1 r3.2) fun r4 =>
  bnd (oMv x1 r4.2) fun r5 =>
  bnd (call (fnV 64) [r4.1, r5.1] r5.2) fun r6 =>
  bnd (oMv r6.1 r6.2) fun r7 =>
  bnd (oExtract r7.1 0 r7.2) fun r8 =>
  bnd (oExtract r7.1 1 r8.2) fun r9 =>
  bnd (oExtract r7.1 2 r9.2) fun r10 =>
  bnd (oMv r8.1 r10.2) fun r11 =>
  bnd (oMv r9.1 r11.2) fun r12 =>
  bnd (oMv r10.1 r12.2) fun r13 =>
  bnd (oMv r13.1 r13.2) fun r14 =>
  bnd (oBin Tryd.prog .neq 28 false true r14.1 (.int .i64 0) r14.2) fun r15 =>
  vIf r15.1 (
    bnd (oMv r13.1 r15.2) fun r16 =>
    bnd (oMv (.int .i64 0) r16.2) fun r17 =>
    bnd (oMv r16.1 r17.2) fun r18 =>
    oRes Tryd.prog [(r17.1, none), (r18.1, none)] r18.2) (
    bnd (faO 0 r1.1 r15.2) fun r19 =>
    bnd (ldC r19.1 r19.2) fun r20 =>
    bnd (oMv x1 r20.2) fun r21 =>
    bnd (oBin Tryd.prog .add 3 false false r20.1 r21.1 r21.2) fun r22 =>
    bnd (oMv r22.1 r22.2) fun r23 =>
    bnd (oMv (.int .i64 0) r23.2) fun r24 =>
    oRes Tryd.prog [(r23.1, none), (r24.1, none)] r24.2)
theorem ref15_Lock_eq (call : Eng.Callee) (x0 x1 : Value) (W : AW) : kFun Tryd.prog call 23 (cod 44) (rss 44) [x0, x1] W = ref15_Lock call x0 x1 W := by kernel_rfl
theorem ref15_Lock_om {x0 x1 : Value} {W : AW} {r : Value × AW} (h : ref15_Lock omS x0 x1 W = some r) : omS (.func (.func 44) #[] #[]) [x0, x1] W = some (gc W r) := om_of (nt := 23) (n := 2) (by kernel_rfl) (by kernel_rfl) rfl ((ref15_Lock_eq omS x0 x1 W).trans h)
noncomputable def ref15_Cover_L1_L2 (call : Eng.Callee) (R : Nat → Value) (W : AW) : Option LT :=
  bnd (oMv (R 12) W) fun r28 =>
  bnd (oMv (R 6) r28.2) fun r29 =>
  bnd (oMv (R 7) r29.2) fun r30 =>
  bnd (oBin Tryd.prog .add 3 false false r29.1 r30.1 r30.2) fun r31 =>
  bnd (oBin Tryd.prog .lss 3 false false r28.1 r31.1 r31.2) fun r32 =>
  vIf r32.1 (
    bnd (oMv (R 12) r32.2) fun r33 =>
    bnd (faO 0 (R 2) r33.2) fun r34 =>
    bnd (ldC r34.1 r34.2) fun r35 =>
    bnd (oBin Tryd.prog .rem 3 false false r33.1 r35.1 r35.2) fun r36 =>
    bnd (oMv (R 10) r36.2) fun r37 =>
    bnd (oBin Tryd.prog .eql 3 false false r36.1 r37.1 r37.2) fun r38 =>
    vIf r38.1 (
      bnd (oMv (.bool true) r38.2) fun r39 =>
      bnd (oMv (R 12) r39.2) fun r40 =>
      bnd (oBin Tryd.prog .add 3 false true r40.1 (.int .i64 1) r40.2) fun r41 =>
      bnd (oMv r41.1 r41.2) fun r42 =>
      some (X.normal, (rput (rput (rput (rput (rput (rput (rput (rput (rput (rput (rput (rput (rput (rput (rput R (some 30) r28.1) (some 31) r29.1) (some 32) r30.1) (some 33) r31.1) (some 34) r32.1) (some 37) r33.1) (some 38) r34.1) (some 39) r35.1) (some 40) r36.1) (some 41) r37.1) (some 42) r38.1) (some 11) r39.1) (some 35) r40.1) (some 36) r41.1) (some 12) r42.1), r42.2)) (
      bnd (oMv (R 12) r38.2) fun r43 =>
      bnd (oBin Tryd.prog .add 3 false true r43.1 (.int .i64 1) r43.2) fun r44 =>
      bnd (oMv r44.1 r44.2) fun r45 =>
      some (X.normal, (rput (rput (rput (rput (rput (rput (rput (rput (rput (rput (rput (rput (rput (rput R (some 30) r28.1) (some 31) r29.1) (some 32) r30.1) (some 33) r31.1) (some 34) r32.1) (some 37) r33.1) (some 38) r34.1) (some 39) r35.1) (some 40) r36.1) (some 41) r37.1) (some 42) r38.1) (some 35) r43.1) (some 36) r44.1) (some 12) r45.1), r45.2))) (
    some (X.exit 2, (rput (rput (rput (rput (rput R (some 30) r28.1) (some 31) r29.1) (some 32) r30.1) (some 33) r31.1) (some 34) r32.1), r32.2))
noncomputable def ref15_Cover_L1 (call : Eng.Callee) (R : Nat → Value) (W : AW) : Option LT :=
  bnd (oMv (R 10) W) fun r21 =>
  bnd (faO 0 (R 2) r21.2) fun r22 =>
  bnd (ldC r22.1 r22.2) fun r23 =>
  bnd (oBin Tryd.prog .lss 3 false false r21.1 r23.1 r23.2) fun r24 =>
  vIf r24.1 (
    bnd (oMv (.bool false) r24.2) fun r25 =>
    bnd (oMv (R 6) r25.2) fun r26 =>
    bnd (oMv r26.1 r26.2) fun r27 =>
    bnd (loopO (ref15_Cover_L1_L2 call) (rput (rput (rput (rput (rput (rput (rput R (some 23) r21.1) (some 24) r22.1) (some 25) r23.1) (some 26) r24.1) (some 11) r25.1) (some 29) r26.1) (some 12) r27.1) r27.2) fun r46 =>
    kExit 2 r46.1 (
      bnd (oMv (r46.2.1 11) r46.2.2) fun r47 =>
      vIf r47.1 (
        bnd (oMv (r46.2.1 9) r47.2) fun r48 =>
        bnd (oMv (r46.2.1 10) r48.2) fun r49 =>
        bnd (oBuildSlice Tryd.prog 38 1 [(0, r49.1)] r49.2) fun r50 =>
        bnd (aAppend Tryd.prog r50.2 #[38, 38] r48.1 r50.1) fun r51 =>
        bnd (oMv r51.1 r51.2) fun r52 =>
        bnd (oMv (r46.2.1 10) r52.2) fun r53 =>
        bnd (oBin Tryd.prog .add 3 false true r53.1 (.int .i64 1) r53.2) fun r54 =>
        bnd (oMv r54.1 r54.2) fun r55 =>
        some (X.normal, (rput (rput (rput (rput (rput (rput (rput (rput (rput r46.2.1 (some 43) r47.1) (some 44) r48.1) (some 45) r49.1) (some 46) r50.1) (some 47) r51.1) (some 9) r52.1) (some 27) r53.1) (some 28) r54.1) (some 10) r55.1), r55.2)) (
        bnd (oMv (r46.2.1 10) r47.2) fun r56 =>
        bnd (oBin Tryd.prog .add 3 false true r56.1 (.int .i64 1) r56.2) fun r57 =>
        bnd (oMv r57.1 r57.2) fun r58 =>
        some (X.normal, (rput (rput (rput (rput r46.2.1 (some 43) r47.1) (some 27) r56.1) (some 28) r57.1) (some 10) r58.1), r58.2))) (none)) (
    some (X.exit 0, (rput (rput (rput (rput R (some 23) r21.1) (some 24) r22.1) (some 25) r23.1) (some 26) r24.1), r24.2))
noncomputable def ref15_Cover (call : Eng.Callee) (x0 x1 : Value) (W : AW) : Option (Value × AW) :=
  bnd (oBox x0 W) fun r1 =>
  bnd (oMv (.slice none 0 0) r1.2) fun r2 =>
  bnd (oMv (.int .i64 0) r2.2) fun r3 =>
  bnd (ldA 4 r1.1 r3.2) fun r4 =>
  bnd (oMv x1 r4.2) fun r5 =>
  bnd (call (fnV 64) [r4.1, r5.1] r5.2) fun r6 =>
  bnd (oMv r6.1 r6.2) fun r7 =>
  bnd (oExtract r7.1 0 r7.2) fun r8 =>
  bnd (oExtract r7.1 1 r8.2) fun r9 =>
  bnd (oExtract r7.1 2 r9.2) fun r10 =>
  bnd (oMv r8.1 r10.2) fun r11 =>
  bnd (oMv r9.1 r11.2) fun r12 =>
  bnd (oMv r10.1 r12.2) fun r13 =>
  bnd (oMv r13.1 r13.2) fun r14 =>
  bnd (oBin Tryd.prog .neq 28 false true r14.1 (.int .i64 0) r14.2) fun r15 =>
  vIf r15.1 (
    bnd (oMv r13.1 r15.2) fun r16 =>
    bnd (oMv (.slice none 0 0) r16.2) fun r17 =>
    bnd (oMv r16.1 r17.2) fun r18 =>
    oRes Tryd.prog [(r17.1, none), (r18.1, none)] r18.2) (
    bnd (oMv (.slice none 0 0) r15.2) fun r19 =>
    bnd (oMv (.int .i64 0) r19.2) fun r20 =>
    bnd (loopO (ref15_Cover_L1 call) (rput (rput (rput (rput (rput (rput (rput (rput (rput (rput (rput (rput (rput (rput (rput (rput (rput (argGo 0 [x0, x1] PlanTab.blank) (some 2) r1.1) (some 4) r2.1) (some 5) r3.1) (some 14) r4.1) (some 15) r5.1) (some 16) r6.1) (some 13) r7.1) (some 17) r8.1) (some 18) r9.1) (some 19) r10.1) (some 6) r11.1) (some 7) r12.1) (some 8) r13.1) (some 20) r14.1) (some 21) r15.1) (some 9) r19.1) (some 10) r20.1) r20.2) fun r59 =>
    kExit 0 r59.1 (
      bnd (oMv (r59.2.1 9) r59.2.2) fun r60 =>
      bnd (oMv r60.1 r60.2) fun r61 =>
      bnd (oMv (.int .i64 0) r61.2) fun r62 =>
      oRes Tryd.prog [(r61.1, none), (r62.1, none)] r62.2) (none))
theorem ref15_Cover_eq (call : Eng.Callee) (x0 x1 : Value) (W : AW) : kFun Tryd.prog call 49 (cod 45) (rss 45) [x0, x1] W = ref15_Cover call x0 x1 W := by kernel_rfl
theorem ref15_Cover_om {x0 x1 : Value} {W : AW} {r : Value × AW} (h : ref15_Cover omS x0 x1 W = some r) : omS (.func (.func 45) #[] #[]) [x0, x1] W = some (gc W r) := om_of (nt := 49) (n := 2) (by kernel_rfl) (by kernel_rfl) rfl ((ref15_Cover_eq omS x0 x1 W).trans h)
noncomputable def ref15_Place (call : Eng.Callee) (x0 x1 : Value) (W : AW) : Option (Value × AW) :=
  bnd (oBox x0 W) fun r1 =>
  bnd (oAlloc Tryd.prog 65 r1.2) fun r2 =>
  bnd (oMv (.int .i64 0) r2.2) fun r3 =>
  bnd (ldA 4 r1.1 r3.2) fun r4 =>
  bnd (call (fnV 65) [r4.1] r4.2) fun r5 =>
  bnd (oMv r5.1 r5.2) fun r6 =>
  bnd (oExtract r6.1 0 r6.2) fun r7 =>
  bnd (oExtract r6.1 1 r7.2) fun r8 =>
  bnd (oMv r7.1 r8.2) fun r9 =>
  bnd (oMv r8.1 r9.2) fun r10 =>
  bnd (oMv r10.1 r10.2) fun r11 =>
  bnd (oBin Tryd.prog .eql 28 false true r11.1 (.int .i64 0) r11.2) fun r12 =>
  bnd (oMv r12.1 r12.2) fun r13 =>
  bnd (bIf (wnt r13.1 true) (oMv x1 r13.2) (some (undef, r13.2))) fun r14 =>
  bnd (bIf (wnt r13.1 true) (oBin Tryd.prog .lss 3 false true r14.1 (.int .i64 0) r14.2) (some (undef, r14.2))) fun r15 =>
  bnd (bIf (wnt r13.1 true) (oMv r15.1 r15.2) (some (undef, r15.2))) fun r16 =>
  bnd (bIf (wnt r16.1 false) (oMv x1 r16.2) (some (undef, r16.2))) fun r17 =>
  bnd (bIf (wnt r16.1 false) (oMv r9.1 r17.2) (some (undef, r17.2))) fun r18 =>
  bnd (bIf (wnt r16.1 false) (oBin Tryd.prog .geq 3 false false r17.1 r18.1 r18.2) (some (undef, r18.2))) fun r19 =>
  bnd (bIf (wnt r13.1 true) (oPick r16.1 (.bool true) r19.1 r19.2) (some (undef, r19.2))) fun r20 =>
  bnd (oPick r13.1 r20.1 (.bool false) r20.2) fun r21 =>
  vIf r21.1 (
    bnd (oMv (.int .i64 4) r21.2) fun r22 =>
    bnd (oMv r22.1 r22.2) fun r23 =>
    bnd (oBin Tryd.prog .neq 28 false true r23.1 (.int .i64 0) r23.2) fun r24 =>
    vIf r24.1 (
      bnd (oBuild Tryd.prog 65 [] r24.2) fun r25 =>
      bnd (oMv r22.1 r25.2) fun r26 =>
      bnd (stV 3 r2.1 r25.1 r26.2) fun r27 =>
      bnd (oMv r26.1 r27.2) fun r28 =>
      oRes Tryd.prog [(r2.1, some 65), (r28.1, none)] r28.2) (
      bnd (ldA 4 r1.1 r24.2) fun r29 =>
      bnd (call (fnV 63) [r29.1] r29.2) fun r30 =>
      bnd (oMv x1 r30.2) fun r31 =>
      bnd (ixS 3 r30.1 r31.1 r31.2) fun r32 =>
      bnd (ldA 3 r32.1 r32.2) fun r33 =>
      bnd (stV 3 r2.1 r33.1 r33.2) fun r34 =>
      bnd (oMv (.int .i64 0) r34.2) fun r35 =>
      oRes Tryd.prog [(r2.1, some 65), (r35.1, none)] r35.2)) (
    bnd (oMv r10.1 r21.2) fun r36 =>
    bnd (oBin Tryd.prog .neq 28 false true r36.1 (.int .i64 0) r36.2) fun r37 =>
    vIf r37.1 (
      bnd (oBuild Tryd.prog 65 [] r37.2) fun r38 =>
      bnd (oMv r10.1 r38.2) fun r39 =>
      bnd (stV 3 r2.1 r38.1 r39.2) fun r40 =>
      bnd (oMv r39.1 r40.2) fun r41 =>
      oRes Tryd.prog [(r2.1, some 65), (r41.1, none)] r41.2) (
      bnd (ldA 4 r1.1 r37.2) fun r42 =>
      bnd (call (fnV 63) [r42.1] r42.2) fun r43 =>
      bnd (oMv x1 r43.2) fun r44 =>
      bnd (ixS 3 r43.1 r44.1 r44.2) fun r45 =>
      bnd (ldA 3 r45.1 r45.2) fun r46 =>
      bnd (stV 3 r2.1 r46.1 r46.2) fun r47 =>
      bnd (oMv (.int .i64 0) r47.2) fun r48 =>
      oRes Tryd.prog [(r2.1, some 65), (r48.1, none)] r48.2))
theorem ref15_Place_eq (call : Eng.Callee) (x0 x1 : Value) (W : AW) : kFun Tryd.prog call 33 (cod 46) (rss 46) [x0, x1] W = ref15_Place call x0 x1 W := by kernel_rfl
theorem ref15_Place_om {x0 x1 : Value} {W : AW} {r : Value × AW} (h : ref15_Place omS x0 x1 W = some r) : omS (.func (.func 46) #[] #[]) [x0, x1] W = some (gc W r) := om_of (nt := 33) (n := 2) (by kernel_rfl) (by kernel_rfl) rfl ((ref15_Place_eq omS x0 x1 W).trans h)
noncomputable def ref15_Shard (call : Eng.Callee) (x0 x1 : Value) (W : AW) : Option (Value × AW) :=
  bnd (oBox x0 W) fun r1 =>
  bnd (oMv (.int .i64 0) r1.2) fun r2 =>
  bnd (oMv (.int .i64 0) r2.2) fun r3 =>
  bnd (ldA 4 r1.1 r3.2) fun r4 =>
  bnd (oMv x1 r4.2) fun r5 =>
  bnd (call (fnV 46) [r4.1, r5.1] r5.2) fun r6 =>
  bnd (oMv r6.1 r6.2) fun r7 =>
  bnd (oExtract r7.1 0 r7.2) fun r8 =>
  bnd (oExtract r7.1 1 r8.2) fun r9 =>
  bnd (oAlloc Tryd.prog 65 r9.2) fun r10 =>
  bnd (stV 3 r10.1 r8.1 r10.2) fun r11 =>
  bnd (oMv r9.1 r11.2) fun r12 =>
  bnd (oMv r12.1 r12.2) fun r13 =>
  bnd (oBin Tryd.prog .neq 28 false true r13.1 (.int .i64 0) r13.2) fun r14 =>
  vIf r14.1 (
    bnd (oMv r12.1 r14.2) fun r15 =>
    bnd (oMv (.int .i64 0) r15.2) fun r16 =>
    bnd (oMv r15.1 r16.2) fun r17 =>
    oRes Tryd.prog [(r16.1, none), (r17.1, none)] r17.2) (
    bnd (oMv x1 r14.2) fun r18 =>
    bnd (faO 0 r1.1 r18.2) fun r19 =>
    bnd (ldC r19.1 r19.2) fun r20 =>
    bnd (oBin Tryd.prog .rem 3 false false r18.1 r20.1 r20.2) fun r21 =>
    bnd (oMv r21.1 r21.2) fun r22 =>
    bnd (oMv (.int .i64 0) r22.2) fun r23 =>
    oRes Tryd.prog [(r22.1, none), (r23.1, none)] r23.2)
theorem ref15_Shard_eq (call : Eng.Callee) (x0 x1 : Value) (W : AW) : kFun Tryd.prog call 21 (cod 47) (rss 47) [x0, x1] W = ref15_Shard call x0 x1 W := by kernel_rfl
theorem ref15_Shard_om {x0 x1 : Value} {W : AW} {r : Value × AW} (h : ref15_Shard omS x0 x1 W = some r) : omS (.func (.func 47) #[] #[]) [x0, x1] W = some (gc W r) := om_of (nt := 21) (n := 2) (by kernel_rfl) (by kernel_rfl) rfl ((ref15_Shard_eq omS x0 x1 W).trans h)
noncomputable def ref15_Ints_L1 (call : Eng.Callee) (R : Nat → Value) (W : AW) : Option LT :=
  bnd (oMv (R 5) W) fun r9 =>
  bnd (oMv (R 0) r9.2) fun r10 =>
  bnd (oBuiltin Tryd.prog .len #[38] 3 #[false] [r10.1] r10.2) fun r11 =>
  bnd (oBin Tryd.prog .lss 3 false false r9.1 r11.1 r11.2) fun r12 =>
  vIf r12.1 (
    bnd (oMv (R 0) r12.2) fun r13 =>
    bnd (oMv (R 5) r13.2) fun r14 =>
    bnd (ixS 1 r13.1 r14.1 r14.2) fun r15 =>
    bnd (ldC r15.1 r15.2) fun r16 =>
    bnd (oMv (R 1) r16.2) fun r17 =>
    bnd (oMv (R 5) r17.2) fun r18 =>
    bnd (ixS 1 r17.1 r18.1 r18.2) fun r19 =>
    bnd (ldC r19.1 r19.2) fun r20 =>
    bnd (oBin Tryd.prog .neq 3 false false r16.1 r20.1 r20.2) fun r21 =>
    vIf r21.1 (
      bnd (oMv (.bool false) r21.2) fun r22 =>
      some (X.ret, (rput (rput (rput (rput (rput (rput (rput (rput (rput (rput (rput (rput (rput (rput R (some 11) r9.1) (some 12) r10.1) (some 13) r11.1) (some 14) r12.1) (some 17) r13.1) (some 18) r14.1) (some 19) r15.1) (some 20) r16.1) (some 21) r17.1) (some 22) r18.1) (some 23) r19.1) (some 24) r20.1) (some 25) r21.1) (some 4) r22.1), r22.2)) (
      bnd (oMv (R 5) r21.2) fun r23 =>
      bnd (oBin Tryd.prog .add 3 false true r23.1 (.int .i64 1) r23.2) fun r24 =>
      bnd (oMv r24.1 r24.2) fun r25 =>
      some (X.normal, (rput (rput (rput (rput (rput (rput (rput (rput (rput (rput (rput (rput (rput (rput (rput (rput R (some 11) r9.1) (some 12) r10.1) (some 13) r11.1) (some 14) r12.1) (some 17) r13.1) (some 18) r14.1) (some 19) r15.1) (some 20) r16.1) (some 21) r17.1) (some 22) r18.1) (some 23) r19.1) (some 24) r20.1) (some 25) r21.1) (some 15) r23.1) (some 16) r24.1) (some 5) r25.1), r25.2))) (
    some (X.exit 0, (rput (rput (rput (rput R (some 11) r9.1) (some 12) r10.1) (some 13) r11.1) (some 14) r12.1), r12.2))
noncomputable def ref15_Ints (call : Eng.Callee) (x0 x1 : Value) (W : AW) : Option (Value × AW) :=
  bnd (oMv (.bool false) W) fun r1 =>
  bnd (oMv x0 r1.2) fun r2 =>
  bnd (oBuiltin Tryd.prog .len #[38] 3 #[false] [r2.1] r2.2) fun r3 =>
  bnd (oMv x1 r3.2) fun r4 =>
  bnd (oBuiltin Tryd.prog .len #[38] 3 #[false] [r4.1] r4.2) fun r5 =>
  bnd (oBin Tryd.prog .neq 3 false false r3.1 r5.1 r5.2) fun r6 =>
  vIf r6.1 (
    bnd (oMv (.bool false) r6.2) fun r7 =>
    oRes Tryd.prog [(r7.1, none)] r7.2) (
    bnd (oMv (.int .i64 0) r6.2) fun r8 =>
    bnd (loopO (ref15_Ints_L1 call) (rput (rput (rput (rput (rput (rput (rput (argGo 0 [x0, x1] PlanTab.blank) (some 4) r1.1) (some 6) r2.1) (some 7) r3.1) (some 8) r4.1) (some 9) r5.1) (some 10) r6.1) (some 5) r8.1) r8.2) fun r26 =>
    kExit 0 r26.1 (
      bnd (oMv (.bool true) r26.2.2) fun r27 =>
      oRes Tryd.prog [(r27.1, none)] r27.2) (kRetX r26.1 (
      oRes Tryd.prog [((r26.2.1 4), none)] r26.2.2)))
theorem ref15_Ints_eq (call : Eng.Callee) (x0 x1 : Value) (W : AW) : kFun Tryd.prog call 26 (cod 48) (rss 48) [x0, x1] W = ref15_Ints call x0 x1 W := by kernel_rfl
theorem ref15_Ints_om {x0 x1 : Value} {W : AW} {r : Value × AW} (h : ref15_Ints omS x0 x1 W = some r) : omS (.func (.func 48) #[] #[]) [x0, x1] W = some (gc W r) := om_of (nt := 26) (n := 2) (by kernel_rfl) (by kernel_rfl) rfl ((ref15_Ints_eq omS x0 x1 W).trans h)
noncomputable def venue_rows (call : Eng.Callee) (x0 : Value) (W : AW) : Option (Value × AW) :=
  bnd (oBox x0 W) fun r1 =>
  bnd (oMv .nilFunc r1.2) fun r2 =>
  bnd (oMkFunc (.func 73) #[] #[r1.1] r2.2) fun r3 =>
  bnd (oMv r3.1 r3.2) fun r4 =>
  oRes Tryd.prog [(r4.1, none)] r4.2
theorem venue_rows_eq (call : Eng.Callee) (x0 : Value) (W : AW) : kFun Tryd.prog call 4 (cod 55) (rss 55) [x0] W = venue_rows call x0 W := by kernel_rfl
theorem venue_rows_om {x0 : Value} {W : AW} {r : Value × AW} (h : venue_rows omS x0 W = some r) : omS (.func (.func 55) #[] #[]) [x0] W = some (gc W r) := om_of (nt := 4) (n := 1) (by kernel_rfl) (by kernel_rfl) rfl ((venue_rows_eq omS x0 W).trans h)
noncomputable def venue_outsideint (call : Eng.Callee) (x0 x1 x2 : Value) (W : AW) : Option (Value × AW) :=
  bnd (oMv (.bool false) W) fun r1 =>
  bnd (oMv x0 r1.2) fun r2 =>
  bnd (oMv x1 r2.2) fun r3 =>
  bnd (oBin Tryd.prog .lss 3 false false r2.1 r3.1 r3.2) fun r4 =>
  bnd (oMv r4.1 r4.2) fun r5 =>
  bnd (bIf (wnt r5.1 false) (oMv x0 r5.2) (some (undef, r5.2))) fun r6 =>
  bnd (bIf (wnt r5.1 false) (oMv x2 r6.2) (some (undef, r6.2))) fun r7 =>
  bnd (bIf (wnt r5.1 false) (oBin Tryd.prog .gtr 3 false false r6.1 r7.1 r7.2) (some (undef, r7.2))) fun r8 =>
  bnd (oPick r5.1 (.bool true) r8.1 r8.2) fun r9 =>
  bnd (oMv r9.1 r9.2) fun r10 =>
  oRes Tryd.prog [(r10.1, none)] r10.2
theorem venue_outsideint_eq (call : Eng.Callee) (x0 x1 x2 : Value) (W : AW) : kFun Tryd.prog call 15 (cod 56) (rss 56) [x0, x1, x2] W = venue_outsideint call x0 x1 x2 W := by kernel_rfl
theorem venue_outsideint_om {x0 x1 x2 : Value} {W : AW} {r : Value × AW} (h : venue_outsideint omS x0 x1 x2 W = some r) : omS (.func (.func 56) #[] #[]) [x0, x1, x2] W = some (gc W r) := om_of (nt := 15) (n := 3) (by kernel_rfl) (by kernel_rfl) rfl ((venue_outsideint_eq omS x0 x1 x2 W).trans h)
noncomputable def venue_find_Y1a (call : Eng.Callee) (R : Nat → Value) (W : AW) : Option LT :=
  bnd (oAlloc Tryd.prog 92 W) fun r20 =>
  bnd (stV 4 r20.1 (R 20) r20.2) fun r21 =>
  some (X.normal, (rput R (some 8) r20.1), r21.2)
theorem venue_find_Y1a_eq (call : Eng.Callee) (R : Nat → Value) (W : AW) : kCode Tryd.prog call false 36 (cAt [1, 1, 0, 1, 0, 0] (cod 57)) LT R W ret3 = venue_find_Y1a call R W := by kernel_rfl
noncomputable def venue_find_Y1b (call : Eng.Callee) (R : Nat → Value) (W : AW) : Option LT :=
  bnd (ldC (R 3) W) fun r22 =>
  bnd (faO 2 (R 8) r22.2) fun r23 =>
  bnd (ldC r23.1 r23.2) fun r24 =>
  bnd (oBin Tryd.prog .geq 3 false false r22.1 r24.1 r24.2) fun r25 =>
  bnd (oMv r25.1 r25.2) fun r26 =>
  bnd (bIf (wnt r26.1 true) (ldC (R 3) r26.2) (some (undef, r26.2))) fun r27 =>
  bnd (bIf (wnt r26.1 true) (faO 2 (R 8) r27.2) (some (undef, r27.2))) fun r28 =>
  bnd (bIf (wnt r26.1 true) (ldC r28.1 r28.2) (some (undef, r28.2))) fun r29 =>
  bnd (bIf (wnt r26.1 true) (faO 3 (R 8) r29.2) (some (undef, r29.2))) fun r30 =>
  bnd (bIf (wnt r26.1 true) (ldC r30.1 r30.2) (some (undef, r30.2))) fun r31 =>
  bnd (bIf (wnt r26.1 true) (oBin Tryd.prog .add 3 false false r29.1 r31.1 r31.2) (some (undef, r31.2))) fun r32 =>
  bnd (bIf (wnt r26.1 true) (oBin Tryd.prog .lss 3 false false r27.1 r32.1 r32.2) (some (undef, r32.2))) fun r33 =>
  bnd (oPick r26.1 r33.1 (.bool false) r33.2) fun r34 =>
  vIf r34.1 (
    bnd (ldA 4 (R 8) r34.2) fun r35 =>
    bnd (stV 4 (R 4) r35.1 r35.2) fun r36 =>
    bnd (stV 1 (R 5) (.int .i64 0) r36.2) fun r37 =>
    some (X.ret, (rput (rput (rput (rput (rput (rput (rput (rput (rput (rput (rput (rput (rput (rput R (some 21) r22.1) (some 22) r23.1) (some 23) r24.1) (some 24) r25.1) (some 25) r26.1) (some 26) r27.1) (some 27) r28.1) (some 28) r29.1) (some 29) r30.1) (some 30) r31.1) (some 31) r32.1) (some 32) r33.1) (some 33) r34.1) (some 34) r35.1), r37.2)) (
    some (X.normal, (rput (rput (rput (rput (rput (rput (rput (rput (rput (rput (rput (rput (rput R (some 21) r22.1) (some 22) r23.1) (some 23) r24.1) (some 24) r25.1) (some 25) r26.1) (some 26) r27.1) (some 27) r28.1) (some 28) r29.1) (some 29) r30.1) (some 30) r31.1) (some 31) r32.1) (some 32) r33.1) (some 33) r34.1), r34.2))
theorem venue_find_Y1b_eq (call : Eng.Callee) (R : Nat → Value) (W : AW) : kCode Tryd.prog call false 36 (cAt [1, 1, 0, 1, 0, 1] (cod 57)) LT R W ret3 = venue_find_Y1b call R W := by kernel_rfl
noncomputable def venue_find (call : Eng.Callee) (x0 x1 : Value) (W : AW) : Option (Value × AW) :=
  bnd (oBox x0 W) fun r1 =>
  bnd (oBox x1 r1.2) fun r2 =>
  bnd (oAlloc Tryd.prog 92 r2.2) fun r3 =>
  bnd (oAlloc Tryd.prog 28 r3.2) fun r4 =>
  bnd (ldA 4 r1.1 r4.2) fun r5 =>
  bnd (call (fnV 42) [r5.1] r5.2) fun r6 =>
  bnd (oMv r6.1 r6.2) fun r7 =>
  bnd (oExtract r7.1 0 r7.2) fun r8 =>
  bnd (oExtract r7.1 1 r8.2) fun r9 =>
  bnd (oMv r8.1 r9.2) fun r10 =>
  bnd (oMv r9.1 r10.2) fun r11 =>
  bnd (oMv r11.1 r11.2) fun r12 =>
  bnd (oBin Tryd.prog .neq 28 false true r12.1 (.int .i64 0) r12.2) fun r13 =>
  vIf r13.1 (
    bnd (oBuild Tryd.prog 92 [] r13.2) fun r14 =>
    bnd (oMv r11.1 r14.2) fun r15 =>
    bnd (stV 4 r3.1 r14.1 r15.2) fun r16 =>
    bnd (stV 1 r4.1 r15.1 r16.2) fun r17 =>
    oRes Tryd.prog [(r3.1, some 92), (r4.1, some 28)] r17.2) (
    bnd (ldA 4 r1.1 r13.2) fun r18 =>
    bnd (call (fnV 55) [r18.1] r18.2) fun r19 =>
    bnd (oRange call r19.1 (.loop .ready none (rput (rput (rput (rput (rput (rput (rput (rput (rput (rput (rput (rput (rput (rput (rput (argGo 0 [x0, x1] PlanTab.blank) (some 2) r1.1) (some 3) r2.1) (some 4) r3.1) (some 5) r4.1) (some 10) r5.1) (some 11) r6.1) (some 9) r7.1) (some 12) r8.1) (some 13) r9.1) (some 6) r10.1) (some 7) r11.1) (some 14) r12.1) (some 15) r13.1) (some 18) r18.1) (some 19) r19.1) 36 #[20] (cAt [1, 1, 0, 1, 0, 0] (cod 57)) (cAt [1, 1, 0, 1, 0, 1] (cod 57))) r19.2) fun r38 =>
    kNorm r38.1 (
      bnd (oBuild Tryd.prog 92 [] r38.2) fun r39 =>
      bnd (stV 4 r3.1 r39.1 r39.2) fun r40 =>
      bnd (stV 1 r4.1 (.int .i64 4) r40.2) fun r41 =>
      oRes Tryd.prog [(r3.1, some 92), (r4.1, some 28)] r41.2) (kRetX r38.1 (
      oRes Tryd.prog [(r3.1, some 92), (r4.1, some 28)] r38.2)))
theorem venue_find_eq (call : Eng.Callee) (x0 x1 : Value) (W : AW) : kFun Tryd.prog call 36 (cod 57) (rss 57) [x0, x1] W = venue_find call x0 x1 W := by kernel_rfl
theorem venue_find_om {x0 x1 : Value} {W : AW} {r : Value × AW} (h : venue_find omS x0 x1 W = some r) : omS (.func (.func 57) #[] #[]) [x0, x1] W = some (gc W r) := om_of (nt := 36) (n := 2) (by kernel_rfl) (by kernel_rfl) rfl ((venue_find_eq omS x0 x1 W).trans h)
noncomputable def venue_outsideint64 (call : Eng.Callee) (x0 x1 x2 : Value) (W : AW) : Option (Value × AW) :=
  bnd (oMv (.bool false) W) fun r1 =>
  bnd (oMv x0 r1.2) fun r2 =>
  bnd (oMv x1 r2.2) fun r3 =>
  bnd (oBin Tryd.prog .lss 2 false false r2.1 r3.1 r3.2) fun r4 =>
  bnd (oMv r4.1 r4.2) fun r5 =>
  bnd (bIf (wnt r5.1 false) (oMv x0 r5.2) (some (undef, r5.2))) fun r6 =>
  bnd (bIf (wnt r5.1 false) (oMv x2 r6.2) (some (undef, r6.2))) fun r7 =>
  bnd (bIf (wnt r5.1 false) (oBin Tryd.prog .gtr 2 false false r6.1 r7.1 r7.2) (some (undef, r7.2))) fun r8 =>
  bnd (oPick r5.1 (.bool true) r8.1 r8.2) fun r9 =>
  bnd (oMv r9.1 r9.2) fun r10 =>
  oRes Tryd.prog [(r10.1, none)] r10.2
theorem venue_outsideint64_eq (call : Eng.Callee) (x0 x1 x2 : Value) (W : AW) : kFun Tryd.prog call 15 (cod 59) (rss 59) [x0, x1, x2] W = venue_outsideint64 call x0 x1 x2 W := by kernel_rfl
theorem venue_outsideint64_om {x0 x1 x2 : Value} {W : AW} {r : Value × AW} (h : venue_outsideint64 omS x0 x1 x2 W = some r) : omS (.func (.func 59) #[] #[]) [x0, x1, x2] W = some (gc W r) := om_of (nt := 15) (n := 3) (by kernel_rfl) (by kernel_rfl) rfl ((venue_outsideint64_eq omS x0 x1 x2 W).trans h)
noncomputable def venue_check (call : Eng.Callee) (x0 x1 : Value) (W : AW) : Option (Value × AW) :=
  bnd (oBox x0 W) fun r1 =>
  bnd (oMv (.int .i64 0) r1.2) fun r2 =>
  bnd (faO 0 r1.1 r2.2) fun r3 =>
  bnd (ldC r3.1 r3.2) fun r4 =>
  bnd (call (fnV 76) [r4.1] r4.2) fun r5 =>
  bnd (oUn Tryd.prog .not r5.1 r5.2) fun r6 =>
  bnd (oMv r6.1 r6.2) fun r7 =>
  vIf r7.1 (
    bnd (oMv (.int .i64 6) r7.2) fun r8 =>
    oRes Tryd.prog [(r8.1, none)] r8.2) (
    bnd (oMv x1 r7.2) fun r9 =>
    bnd (oMkFunc (.func 78) #[] #[r1.1] r9.2) fun r10 =>
    bnd (call (fnV 77) [r9.1, r10.1] r10.2) fun r11 =>
    bnd (oMv r11.1 r11.2) fun r12 =>
    vIf r12.1 (
      bnd (oMv (.int .i64 8) r12.2) fun r13 =>
      oRes Tryd.prog [(r13.1, none)] r13.2) (
      bnd (faO 1 r1.1 r12.2) fun r14 =>
      bnd (ldC r14.1 r14.2) fun r15 =>
      bnd (oBuiltin Tryd.prog .len #[38] 3 #[false] [r15.1] r15.2) fun r16 =>
      bnd (oBin Tryd.prog .eql 3 false true r16.1 (.int .i64 0) r16.2) fun r17 =>
      bnd (oMv r17.1 r17.2) fun r18 =>
      vIf r18.1 (
        bnd (oMv (.int .i64 6) r18.2) fun r19 =>
        oRes Tryd.prog [(r19.1, none)] r19.2) (
        bnd (faO 1 r1.1 r18.2) fun r20 =>
        bnd (ldC r20.1 r20.2) fun r21 =>
        bnd (oBuiltin Tryd.prog .len #[38] 3 #[false] [r21.1] r21.2) fun r22 =>
        bnd (oBin Tryd.prog .gtr 3 false true r22.1 (.int .i64 16) r22.2) fun r23 =>
        bnd (oMv r23.1 r23.2) fun r24 =>
        vIf r24.1 (
          bnd (oMv (.int .i64 3) r24.2) fun r25 =>
          oRes Tryd.prog [(r25.1, none)] r25.2) (
          bnd (faO 1 r1.1 r24.2) fun r26 =>
          bnd (ldC r26.1 r26.2) fun r27 =>
          bnd (call (fnV 79) [r27.1, (fnV 80)] r27.2) fun r28 =>
          bnd (oMv r28.1 r28.2) fun r29 =>
          vIf r29.1 (
            bnd (oMv (.int .i64 7) r29.2) fun r30 =>
            oRes Tryd.prog [(r30.1, none)] r30.2) (
            bnd (faO 2 r1.1 r29.2) fun r31 =>
            bnd (ldC r31.1 r31.2) fun r32 =>
            bnd (call (fnV 56) [r32.1, (.int .i64 0), (.int .i64 64)] r32.2) fun r33 =>
            bnd (oMv r33.1 r33.2) fun r34 =>
            vIf r34.1 (
              bnd (oMv (.int .i64 7) r34.2) fun r35 =>
              oRes Tryd.prog [(r35.1, none)] r35.2) (
              bnd (oMv (.int .i64 0) r34.2) fun r36 =>
              oRes Tryd.prog [(r36.1, none)] r36.2))))))
theorem venue_check_eq (call : Eng.Callee) (x0 x1 : Value) (W : AW) : kFun Tryd.prog call 32 (cod 60) (rss 60) [x0, x1] W = venue_check call x0 x1 W := by kernel_rfl
theorem venue_check_om {x0 x1 : Value} {W : AW} {r : Value × AW} (h : venue_check omS x0 x1 W = some r) : omS (.func (.func 60) #[] #[]) [x0, x1] W = some (gc W r) := om_of (nt := 32) (n := 2) (by kernel_rfl) (by kernel_rfl) rfl ((venue_check_eq omS x0 x1 W).trans h)
noncomputable def ref15_within (call : Eng.Callee) (x0 x1 x2 : Value) (W : AW) : Option (Value × AW) :=
  bnd (oMv (.bool false) W) fun r1 =>
  bnd (oMv x0 r1.2) fun r2 =>
  bnd (oMv x1 r2.2) fun r3 =>
  bnd (oBin Tryd.prog .geq 2 false false r2.1 r3.1 r3.2) fun r4 =>
  bnd (oMv r4.1 r4.2) fun r5 =>
  bnd (bIf (wnt r5.1 true) (oMv x0 r5.2) (some (undef, r5.2))) fun r6 =>
  bnd (bIf (wnt r5.1 true) (oMv x2 r6.2) (some (undef, r6.2))) fun r7 =>
  bnd (bIf (wnt r5.1 true) (oBin Tryd.prog .leq 2 false false r6.1 r7.1 r7.2) (some (undef, r7.2))) fun r8 =>
  bnd (oPick r5.1 r8.1 (.bool false) r8.2) fun r9 =>
  bnd (oMv r9.1 r9.2) fun r10 =>
  oRes Tryd.prog [(r10.1, none)] r10.2
theorem ref15_within_eq (call : Eng.Callee) (x0 x1 x2 : Value) (W : AW) : kFun Tryd.prog call 15 (cod 61) (rss 61) [x0, x1, x2] W = ref15_within call x0 x1 x2 W := by kernel_rfl
theorem ref15_within_om {x0 x1 x2 : Value} {W : AW} {r : Value × AW} (h : ref15_within omS x0 x1 x2 W = some r) : omS (.func (.func 61) #[] #[]) [x0, x1, x2] W = some (gc W r) := om_of (nt := 15) (n := 3) (by kernel_rfl) (by kernel_rfl) rfl ((ref15_within_eq omS x0 x1 x2 W).trans h)
noncomputable def ref15_section_L1 (call : Eng.Callee) (R : Nat → Value) (W : AW) : Option LT :=
  bnd (oMv (R 6) W) fun r16 =>
  bnd (oMv (R 1) r16.2) fun r17 =>
  bnd (oBin Tryd.prog .lss 3 false false r16.1 r17.1 r17.2) fun r18 =>
  vIf r18.1 (
    bnd (faO 3 (R 2) r18.2) fun r19 =>
    bnd (ldC r19.1 r19.2) fun r20 =>
    bnd (oMv (R 6) r20.2) fun r21 =>
    bnd (ixS 3 r20.1 r21.1 r21.2) fun r22 =>
    bnd (faO 0 r22.1 r22.2) fun r23 =>
    bnd (ldC r23.1 r23.2) fun r24 =>
    bnd (faO 0 (R 5) r24.2) fun r25 =>
    bnd (ldC r25.1 r25.2) fun r26 =>
    bnd (oBin Tryd.prog .eql 9 false false r24.1 r26.1 r26.2) fun r27 =>
    vIf r27.1 (
      bnd (oMv (.int .i64 8) r27.2) fun r28 =>
      some (X.ret, (rput (rput (rput (rput (rput (rput (rput (rput (rput (rput (rput (rput (rput R (some 17) r16.1) (some 18) r17.1) (some 19) r18.1) (some 22) r19.1) (some 23) r20.1) (some 24) r21.1) (some 25) r22.1) (some 26) r23.1) (some 27) r24.1) (some 28) r25.1) (some 29) r26.1) (some 30) r27.1) (some 4) r28.1), r28.2)) (
      bnd (oMv (R 6) r27.2) fun r29 =>
      bnd (oBin Tryd.prog .add 3 false true r29.1 (.int .i64 1) r29.2) fun r30 =>
      bnd (oMv r30.1 r30.2) fun r31 =>
      some (X.normal, (rput (rput (rput (rput (rput (rput (rput (rput (rput (rput (rput (rput (rput (rput (rput R (some 17) r16.1) (some 18) r17.1) (some 19) r18.1) (some 22) r19.1) (some 23) r20.1) (some 24) r21.1) (some 25) r22.1) (some 26) r23.1) (some 27) r24.1) (some 28) r25.1) (some 29) r26.1) (some 30) r27.1) (some 20) r29.1) (some 21) r30.1) (some 6) r31.1), r31.2))) (
    some (X.exit 0, (rput (rput (rput R (some 17) r16.1) (some 18) r17.1) (some 19) r18.1), r18.2))
noncomputable def ref15_section_L2 (call : Eng.Callee) (R : Nat → Value) (W : AW) : Option LT :=
  bnd (oMv (R 7) W) fun r44 =>
  bnd (faO 1 (R 5) r44.2) fun r45 =>
  bnd (ldC r45.1 r45.2) fun r46 =>
  bnd (oBuiltin Tryd.prog .len #[38] 3 #[false] [r46.1] r46.2) fun r47 =>
  bnd (oBin Tryd.prog .lss 3 false false r44.1 r47.1 r47.2) fun r48 =>
  vIf r48.1 (
    bnd (faO 1 (R 5) r48.2) fun r49 =>
    bnd (ldC r49.1 r49.2) fun r50 =>
    bnd (oMv (R 7) r50.2) fun r51 =>
    bnd (ixS 1 r50.1 r51.1 r51.2) fun r52 =>
    bnd (ldC r52.1 r52.2) fun r53 =>
    bnd (call (fnV 61) [r53.1, (.int .i64 1), (.int .i64 64)] r53.2) fun r54 =>
    bnd (oUn Tryd.prog .not r54.1 r54.2) fun r55 =>
    vIf r55.1 (
      bnd (oMv (.int .i64 7) r55.2) fun r56 =>
      some (X.ret, (rput (rput (rput (rput (rput (rput (rput (rput (rput (rput (rput (rput (rput R (some 39) r44.1) (some 40) r45.1) (some 41) r46.1) (some 42) r47.1) (some 43) r48.1) (some 46) r49.1) (some 47) r50.1) (some 48) r51.1) (some 49) r52.1) (some 50) r53.1) (some 51) r54.1) (some 52) r55.1) (some 4) r56.1), r56.2)) (
      bnd (oMv (R 7) r55.2) fun r57 =>
      bnd (oBin Tryd.prog .add 3 false true r57.1 (.int .i64 1) r57.2) fun r58 =>
      bnd (oMv r58.1 r58.2) fun r59 =>
      some (X.normal, (rput (rput (rput (rput (rput (rput (rput (rput (rput (rput (rput (rput (rput (rput (rput R (some 39) r44.1) (some 40) r45.1) (some 41) r46.1) (some 42) r47.1) (some 43) r48.1) (some 46) r49.1) (some 47) r50.1) (some 48) r51.1) (some 49) r52.1) (some 50) r53.1) (some 51) r54.1) (some 52) r55.1) (some 44) r57.1) (some 45) r58.1) (some 7) r59.1), r59.2))) (
    some (X.exit 2, (rput (rput (rput (rput (rput R (some 39) r44.1) (some 40) r45.1) (some 41) r46.1) (some 42) r47.1) (some 43) r48.1), r48.2))
noncomputable def ref15_section (call : Eng.Callee) (x0 x1 : Value) (W : AW) : Option (Value × AW) :=
  bnd (oBox x0 W) fun r1 =>
  bnd (oMv (.int .i64 0) r1.2) fun r2 =>
  bnd (faO 3 r1.1 r2.2) fun r3 =>
  bnd (ldC r3.1 r3.2) fun r4 =>
  bnd (oMv x1 r4.2) fun r5 =>
  bnd (ixS 3 r4.1 r5.1 r5.2) fun r6 =>
  bnd (ldA 3 r6.1 r6.2) fun r7 =>
  bnd (oAlloc Tryd.prog 62 r7.2) fun r8 =>
  bnd (stV 3 r8.1 r7.1 r8.2) fun r9 =>
  bnd (faO 0 r8.1 r9.2) fun r10 =>
  bnd (ldC r10.1 r10.2) fun r11 =>
  bnd (call (fnV 81) [r11.1] r11.2) fun r12 =>
  bnd (oUn Tryd.prog .not r12.1 r12.2) fun r13 =>
  vIf r13.1 (
    bnd (oMv (.int .i64 6) r13.2) fun r14 =>
    oRes Tryd.prog [(r14.1, none)] r14.2) (
    bnd (oMv (.int .i64 0) r13.2) fun r15 =>
    bnd (loopO (ref15_section_L1 call) (rput (rput (rput (rput (rput (rput (rput (rput (rput (rput (rput (rput (rput (argGo 0 [x0, x1] PlanTab.blank) (some 2) r1.1) (some 4) r2.1) (some 8) r3.1) (some 9) r4.1) (some 10) r5.1) (some 11) r6.1) (some 12) r7.1) (some 5) r8.1) (some 13) r10.1) (some 14) r11.1) (some 15) r12.1) (some 16) r13.1) (some 6) r15.1) r15.2) fun r32 =>
    kExit 0 r32.1 (
      bnd (faO 1 (r32.2.1 5) r32.2.2) fun r33 =>
      bnd (ldC r33.1 r33.2) fun r34 =>
      bnd (oBuiltin Tryd.prog .len #[38] 3 #[false] [r34.1] r34.2) fun r35 =>
      bnd (oBin Tryd.prog .eql 3 false true r35.1 (.int .i64 0) r35.2) fun r36 =>
      vIf r36.1 (
        bnd (oMv (.int .i64 6) r36.2) fun r37 =>
        oRes Tryd.prog [(r37.1, none)] r37.2) (
        bnd (faO 1 (r32.2.1 5) r36.2) fun r38 =>
        bnd (ldC r38.1 r38.2) fun r39 =>
        bnd (oBuiltin Tryd.prog .len #[38] 3 #[false] [r39.1] r39.2) fun r40 =>
        bnd (oBin Tryd.prog .gtr 3 false true r40.1 (.int .i64 16) r40.2) fun r41 =>
        vIf r41.1 (
          bnd (oMv (.int .i64 3) r41.2) fun r42 =>
          oRes Tryd.prog [(r42.1, none)] r42.2) (
          bnd (oMv (.int .i64 0) r41.2) fun r43 =>
          bnd (loopO (ref15_section_L2 call) (rput (rput (rput (rput (rput (rput (rput (rput (rput r32.2.1 (some 31) r33.1) (some 32) r34.1) (some 33) r35.1) (some 34) r36.1) (some 35) r38.1) (some 36) r39.1) (some 37) r40.1) (some 38) r41.1) (some 7) r43.1) r43.2) fun r60 =>
          kExit 2 r60.1 (
            bnd (faO 2 (r60.2.1 5) r60.2.2) fun r61 =>
            bnd (ldC r61.1 r61.2) fun r62 =>
            bnd (call (fnV 61) [r62.1, (.int .i64 0), (.int .i64 64)] r62.2) fun r63 =>
            bnd (oUn Tryd.prog .not r63.1 r63.2) fun r64 =>
            vIf r64.1 (
              bnd (oMv (.int .i64 7) r64.2) fun r65 =>
              oRes Tryd.prog [(r65.1, none)] r65.2) (
              bnd (oMv (.int .i64 0) r64.2) fun r66 =>
              oRes Tryd.prog [(r66.1, none)] r66.2)) (kRetX r60.1 (
            oRes Tryd.prog [((r60.2.1 4), none)] r60.2.2))))) (kRetX r32.1 (
      oRes Tryd.prog [((r32.2.1 4), none)] r32.2.2)))
theorem ref15_section_eq (call : Eng.Callee) (x0 x1 : Value) (W : AW) : kFun Tryd.prog call 57 (cod 62) (rss 62) [x0, x1] W = ref15_section call x0 x1 W := by kernel_rfl
theorem ref15_section_om {x0 x1 : Value} {W : AW} {r : Value × AW} (h : ref15_section omS x0 x1 W = some r) : omS (.func (.func 62) #[] #[]) [x0, x1] W = some (gc W r) := om_of (nt := 57) (n := 2) (by kernel_rfl) (by kernel_rfl) rfl ((ref15_section_eq omS x0 x1 W).trans h)
noncomputable def ref15_Places_L1_L2_L3 (call : Eng.Callee) (R : Nat → Value) (W : AW) : Option LT :=
  bnd (oMv (R 6) W) fun r21 =>
  bnd (faO 3 (R 1) r21.2) fun r22 =>
  bnd (ldC r22.1 r22.2) fun r23 =>
  bnd (oMv (R 4) r23.2) fun r24 =>
  bnd (ixS 3 r23.1 r24.1 r24.2) fun r25 =>
  bnd (faO 1 r25.1 r25.2) fun r26 =>
  bnd (ldC r26.1 r26.2) fun r27 =>
  bnd (oMv (R 5) r27.2) fun r28 =>
  bnd (ixS 1 r27.1 r28.1 r28.2) fun r29 =>
  bnd (ldC r29.1 r29.2) fun r30 =>
  bnd (oBin Tryd.prog .lss 3 false false r21.1 r30.1 r30.2) fun r31 =>
  vIf r31.1 (
    bnd (oMv (R 3) r31.2) fun r32 =>
    bnd (oMv (R 4) r32.2) fun r33 =>
    bnd (oMv (R 5) r33.2) fun r34 =>
    bnd (oMv (R 6) r34.2) fun r35 =>
    bnd (oBuild Tryd.prog 65 [(0, r33.1), (1, r34.1), (2, r35.1)] r35.2) fun r36 =>
    bnd (oBuildSlice Tryd.prog 100 1 [(0, r36.1)] r36.2) fun r37 =>
    bnd (aAppend Tryd.prog r37.2 #[100, 100] r32.1 r37.1) fun r38 =>
    bnd (oMv r38.1 r38.2) fun r39 =>
    bnd (oMv (R 6) r39.2) fun r40 =>
    bnd (oBin Tryd.prog .add 3 false true r40.1 (.int .i64 1) r40.2) fun r41 =>
    bnd (oMv r41.1 r41.2) fun r42 =>
    some (X.normal, (rput (rput (rput (rput (rput (rput (rput (rput (rput (rput (rput (rput (rput (rput (rput (rput (rput (rput (rput (rput (rput (rput R (some 25) r21.1) (some 26) r22.1) (some 27) r23.1) (some 28) r24.1) (some 29) r25.1) (some 30) r26.1) (some 31) r27.1) (some 32) r28.1) (some 33) r29.1) (some 34) r30.1) (some 35) r31.1) (some 38) r32.1) (some 39) r33.1) (some 40) r34.1) (some 41) r35.1) (some 42) r36.1) (some 43) r37.1) (some 44) r38.1) (some 3) r39.1) (some 36) r40.1) (some 37) r41.1) (some 6) r42.1), r42.2)) (
    some (X.exit 4, (rput (rput (rput (rput (rput (rput (rput (rput (rput (rput (rput R (some 25) r21.1) (some 26) r22.1) (some 27) r23.1) (some 28) r24.1) (some 29) r25.1) (some 30) r26.1) (some 31) r27.1) (some 32) r28.1) (some 33) r29.1) (some 34) r30.1) (some 35) r31.1), r31.2))
noncomputable def ref15_Places_L1_L2 (call : Eng.Callee) (R : Nat → Value) (W : AW) : Option LT :=
  bnd (oMv (R 5) W) fun r11 =>
  bnd (faO 3 (R 1) r11.2) fun r12 =>
  bnd (ldC r12.1 r12.2) fun r13 =>
  bnd (oMv (R 4) r13.2) fun r14 =>
  bnd (ixS 3 r13.1 r14.1 r14.2) fun r15 =>
  bnd (faO 1 r15.1 r15.2) fun r16 =>
  bnd (ldC r16.1 r16.2) fun r17 =>
  bnd (oBuiltin Tryd.prog .len #[38] 3 #[false] [r17.1] r17.2) fun r18 =>
  bnd (oBin Tryd.prog .lss 3 false false r11.1 r18.1 r18.2) fun r19 =>
  vIf r19.1 (
    bnd (oMv (.int .i64 0) r19.2) fun r20 =>
    bnd (loopO (ref15_Places_L1_L2_L3 call) (rput (rput (rput (rput (rput (rput (rput (rput (rput (rput R (some 14) r11.1) (some 15) r12.1) (some 16) r13.1) (some 17) r14.1) (some 18) r15.1) (some 19) r16.1) (some 20) r17.1) (some 21) r18.1) (some 22) r19.1) (some 6) r20.1) r20.2) fun r43 =>
    kExit 4 r43.1 (
      bnd (oMv (r43.2.1 5) r43.2.2) fun r44 =>
      bnd (oBin Tryd.prog .add 3 false true r44.1 (.int .i64 1) r44.2) fun r45 =>
      bnd (oMv r45.1 r45.2) fun r46 =>
      some (X.normal, (rput (rput (rput r43.2.1 (some 23) r44.1) (some 24) r45.1) (some 5) r46.1), r46.2)) (none)) (
    some (X.exit 2, (rput (rput (rput (rput (rput (rput (rput (rput (rput R (some 14) r11.1) (some 15) r12.1) (some 16) r13.1) (some 17) r14.1) (some 18) r15.1) (some 19) r16.1) (some 20) r17.1) (some 21) r18.1) (some 22) r19.1), r19.2))
noncomputable def ref15_Places_L1 (call : Eng.Callee) (R : Nat → Value) (W : AW) : Option LT :=
  bnd (oMv (R 4) W) fun r5 =>
  bnd (faO 3 (R 1) r5.2) fun r6 =>
  bnd (ldC r6.1 r6.2) fun r7 =>
  bnd (oBuiltin Tryd.prog .len #[34] 3 #[false] [r7.1] r7.2) fun r8 =>
  bnd (oBin Tryd.prog .lss 3 false false r5.1 r8.1 r8.2) fun r9 =>
  vIf r9.1 (
    bnd (oMv (.int .i64 0) r9.2) fun r10 =>
    bnd (loopO (ref15_Places_L1_L2 call) (rput (rput (rput (rput (rput (rput R (some 7) r5.1) (some 8) r6.1) (some 9) r7.1) (some 10) r8.1) (some 11) r9.1) (some 5) r10.1) r10.2) fun r47 =>
    kExit 2 r47.1 (
      bnd (oMv (r47.2.1 4) r47.2.2) fun r48 =>
      bnd (oBin Tryd.prog .add 3 false true r48.1 (.int .i64 1) r48.2) fun r49 =>
      bnd (oMv r49.1 r49.2) fun r50 =>
      some (X.normal, (rput (rput (rput r47.2.1 (some 12) r48.1) (some 13) r49.1) (some 4) r50.1), r50.2)) (none)) (
    some (X.exit 0, (rput (rput (rput (rput (rput R (some 7) r5.1) (some 8) r6.1) (some 9) r7.1) (some 10) r8.1) (some 11) r9.1), r9.2))
noncomputable def ref15_Places (call : Eng.Callee) (x0 : Value) (W : AW) : Option (Value × AW) :=
  bnd (oBox x0 W) fun r1 =>
  bnd (oMv (.slice none 0 0) r1.2) fun r2 =>
  bnd (oMv (.slice none 0 0) r2.2) fun r3 =>
  bnd (oMv (.int .i64 0) r3.2) fun r4 =>
  bnd (loopO (ref15_Places_L1 call) (rput (rput (rput (rput (argGo 0 [x0] PlanTab.blank) (some 1) r1.1) (some 2) r2.1) (some 3) r3.1) (some 4) r4.1) r4.2) fun r51 =>
  kExit 0 r51.1 (
    bnd (oMv (r51.2.1 3) r51.2.2) fun r52 =>
    bnd (oMv r52.1 r52.2) fun r53 =>
    oRes Tryd.prog [(r53.1, none)] r53.2) (none)
theorem ref15_Places_eq (call : Eng.Callee) (x0 : Value) (W : AW) : kFun Tryd.prog call 46 (cod 63) (rss 63) [x0] W = ref15_Places call x0 W := by kernel_rfl
theorem ref15_Places_om {x0 : Value} {W : AW} {r : Value × AW} (h : ref15_Places omS x0 W = some r) : omS (.func (.func 63) #[] #[]) [x0] W = some (gc W r) := om_of (nt := 46) (n := 1) (by kernel_rfl) (by kernel_rfl) rfl ((ref15_Places_eq omS x0 W).trans h)
noncomputable def ref15_Of (call : Eng.Callee) (x0 x1 : Value) (W : AW) : Option (Value × AW) :=
  bnd (oBox x0 W) fun r1 =>
  bnd (oMv (.int .i64 0) r1.2) fun r2 =>
  bnd (oMv (.int .i64 0) r2.2) fun r3 =>
  bnd (oMv (.int .i64 0) r3.2) fun r4 =>
  bnd (ldA 4 r1.1 r4.2) fun r5 =>
  bnd (oMv x1 r5.2) fun r6 =>
  bnd (call (fnV 82) [r5.1, r6.1, (.int .i64 (-1))] r6.2) fun r7 =>
  bnd (oExtract r7.1 0 r7.2) fun r8 =>
  bnd (oExtract r7.1 1 r8.2) fun r9 =>
  bnd (oExtract r7.1 2 r9.2) fun r10 =>
  bnd (oMv r8.1 r10.2) fun r11 =>
  bnd (oMv r9.1 r11.2) fun r12 =>
  bnd (oMv r10.1 r12.2) fun r13 =>
  oRes Tryd.prog [(r11.1, none), (r12.1, none), (r13.1, none)] r13.2
theorem ref15_Of_eq (call : Eng.Callee) (x0 x1 : Value) (W : AW) : kFun Tryd.prog call 13 (cod 64) (rss 64) [x0, x1] W = ref15_Of call x0 x1 W := by kernel_rfl
theorem ref15_Of_om {x0 x1 : Value} {W : AW} {r : Value × AW} (h : ref15_Of omS x0 x1 W = some r) : omS (.func (.func 64) #[] #[]) [x0, x1] W = some (gc W r) := om_of (nt := 13) (n := 2) (by kernel_rfl) (by kernel_rfl) rfl ((ref15_Of_eq omS x0 x1 W).trans h)
noncomputable def ref15_Seats (call : Eng.Callee) (x0 : Value) (W : AW) : Option (Value × AW) :=
  bnd (oBox x0 W) fun r1 =>
  bnd (oMv (.int .i64 0) r1.2) fun r2 =>
  bnd (oMv (.int .i64 0) r2.2) fun r3 =>
  bnd (ldA 4 r1.1 r3.2) fun r4 =>
  bnd (call (fnV 43) [r4.1] r4.2) fun r5 =>
  bnd (oMv r5.1 r5.2) fun r6 =>
  bnd (oExtract r6.1 0 r6.2) fun r7 =>
  bnd (oExtract r6.1 1 r7.2) fun r8 =>
  bnd (oMv r7.1 r8.2) fun r9 =>
  bnd (oMv r8.1 r9.2) fun r10 =>
  bnd (oMv r10.1 r10.2) fun r11 =>
  bnd (oBin Tryd.prog .neq 28 false true r11.1 (.int .i64 0) r11.2) fun r12 =>
  vIf r12.1 (
    bnd (oMv r10.1 r12.2) fun r13 =>
    bnd (oMv (.int .i64 0) r13.2) fun r14 =>
    bnd (oMv r13.1 r14.2) fun r15 =>
    oRes Tryd.prog [(r14.1, none), (r15.1, none)] r15.2) (
    bnd (ldA 4 r1.1 r12.2) fun r16 =>
    bnd (call (fnV 63) [r16.1] r16.2) fun r17 =>
    bnd (oBuiltin Tryd.prog .len #[100] 3 #[false] [r17.1] r17.2) fun r18 =>
    bnd (oMv r18.1 r18.2) fun r19 =>
    bnd (oMv (.int .i64 0) r19.2) fun r20 =>
    oRes Tryd.prog [(r19.1, none), (r20.1, none)] r20.2)
theorem ref15_Seats_eq (call : Eng.Callee) (x0 : Value) (W : AW) : kFun Tryd.prog call 17 (cod 65) (rss 65) [x0] W = ref15_Seats call x0 W := by kernel_rfl
theorem ref15_Seats_om {x0 : Value} {W : AW} {r : Value × AW} (h : ref15_Seats omS x0 W = some r) : omS (.func (.func 65) #[] #[]) [x0] W = some (gc W r) := om_of (nt := 17) (n := 1) (by kernel_rfl) (by kernel_rfl) rfl ((ref15_Seats_eq omS x0 W).trans h)
noncomputable def venue_rows_1_L1_L2 (call : Eng.Callee) (R : Nat → Value) (W : AW) : Option LT :=
  bnd (oBin Tryd.prog .lss 3 false false (R 19) (R 18) W) fun r17 =>
  vIf r17.1 (
    bnd (oMv (R 19) r17.2) fun r18 =>
    bnd (ixS 1 (R 17) (R 19) r18.2) fun r19 =>
    bnd (ldC r19.1 r19.2) fun r20 =>
    bnd (oMv r18.1 r20.2) fun r21 =>
    bnd (oMv r20.1 r21.2) fun r22 =>
    bnd (oMv (R 0) r22.2) fun r23 =>
    bnd (oMv (R 4) r23.2) fun r24 =>
    bnd (oMv r21.1 r24.2) fun r25 =>
    bnd (oMv (R 3) r25.2) fun r26 =>
    bnd (oMv r22.1 r26.2) fun r27 =>
    bnd (oBuild Tryd.prog 92 [(0, r24.1), (1, r25.1), (2, r26.1), (3, r27.1)] r27.2) fun r28 =>
    bnd (call r23.1 [r28.1] r28.2) fun r29 =>
    bnd (oUn Tryd.prog .not r29.1 r29.2) fun r30 =>
    vIf r30.1 (
      some (X.ret, (rput (rput (rput (rput (rput (rput (rput (rput (rput (rput (rput (rput (rput (rput R (some 20) r17.1) (some 21) r18.1) (some 22) r19.1) (some 23) r20.1) (some 6) r21.1) (some 7) r22.1) (some 24) r23.1) (some 25) r24.1) (some 26) r25.1) (some 27) r26.1) (some 28) r27.1) (some 29) r28.1) (some 30) r29.1) (some 31) r30.1), r30.2)) (
      bnd (oMv (R 3) r30.2) fun r31 =>
      bnd (oMv r22.1 r31.2) fun r32 =>
      bnd (oBin Tryd.prog .add 3 false false r31.1 r32.1 r32.2) fun r33 =>
      bnd (oMv r33.1 r33.2) fun r34 =>
      bnd (oBin Tryd.prog .add 3 false true (R 19) (.int .i64 1) r34.2) fun r35 =>
      bnd (oMv r35.1 r35.2) fun r36 =>
      some (X.normal, (rput (rput (rput (rput (rput (rput (rput (rput (rput (rput (rput (rput (rput (rput (rput (rput (rput (rput (rput (rput R (some 20) r17.1) (some 21) r18.1) (some 22) r19.1) (some 23) r20.1) (some 6) r21.1) (some 7) r22.1) (some 24) r23.1) (some 25) r24.1) (some 26) r25.1) (some 27) r26.1) (some 28) r27.1) (some 29) r28.1) (some 30) r29.1) (some 31) r30.1) (some 32) r31.1) (some 33) r32.1) (some 34) r33.1) (some 3) r34.1) (some 35) r35.1) (some 19) r36.1), r36.2))) (
    some (X.exit 2, (rput R (some 20) r17.1), r17.2))
noncomputable def venue_rows_1_L1 (call : Eng.Callee) (R : Nat → Value) (W : AW) : Option LT :=
  bnd (oBin Tryd.prog .lss 3 false false (R 11) (R 10) W) fun r6 =>
  vIf r6.1 (
    bnd (oMv (R 11) r6.2) fun r7 =>
    bnd (ixS 3 (R 9) (R 11) r7.2) fun r8 =>
    bnd (ldA 3 r8.1 r8.2) fun r9 =>
    bnd (oAlloc Tryd.prog 62 r9.2) fun r10 =>
    bnd (oMv r7.1 r10.2) fun r11 =>
    bnd (stV 3 r10.1 r9.1 r11.2) fun r12 =>
    bnd (faO 1 r10.1 r12.2) fun r13 =>
    bnd (ldC r13.1 r13.2) fun r14 =>
    bnd (oBuiltin Tryd.prog .len #[38] 3 #[false] [r14.1] r14.2) fun r15 =>
    bnd (oMv (.int .i64 0) r15.2) fun r16 =>
    bnd (loopO (venue_rows_1_L1_L2 call) (rput (rput (rput (rput (rput (rput (rput (rput (rput (rput R (some 12) r6.1) (some 13) r7.1) (some 14) r8.1) (some 15) r9.1) (some 5) r10.1) (some 4) r11.1) (some 16) r13.1) (some 17) r14.1) (some 18) r15.1) (some 19) r16.1) r16.2) fun r37 =>
    kExit 2 r37.1 (
      bnd (oBin Tryd.prog .add 3 false true (r37.2.1 11) (.int .i64 1) r37.2.2) fun r38 =>
      bnd (oMv r38.1 r38.2) fun r39 =>
      some (X.normal, (rput (rput r37.2.1 (some 36) r38.1) (some 11) r39.1), r39.2)) (kRetX r37.1 (
      some (X.ret, r37.2.1, r37.2.2)))) (
    some (X.exit 0, (rput R (some 12) r6.1), r6.2))
noncomputable def venue_rows_1 (call : Eng.Callee) (x0 x1 : Value) (W : AW) : Option (Value × AW) :=
  bnd (oMv (.int .i64 0) W) fun r1 =>
  bnd (faO 3 x1 r1.2) fun r2 =>
  bnd (ldC r2.1 r2.2) fun r3 =>
  bnd (oBuiltin Tryd.prog .len #[34] 3 #[false] [r3.1] r3.2) fun r4 =>
  bnd (oMv (.int .i64 0) r4.2) fun r5 =>
  bnd (loopO (venue_rows_1_L1 call) (rput (rput (rput (rput (rput (argGo 0 [x0, x1] PlanTab.blank) (some 3) r1.1) (some 8) r2.1) (some 9) r3.1) (some 10) r4.1) (some 11) r5.1) r5.2) fun r40 =>
  kExit 0 r40.1 (
    oRes Tryd.prog [] r40.2.2) (kRetX r40.1 (
    oRes Tryd.prog [] r40.2.2))
theorem venue_rows_1_eq (call : Eng.Callee) (x0 x1 : Value) (W : AW) : kFun Tryd.prog call 37 (cod 73) (rss 73) [x0, x1] W = venue_rows_1 call x0 x1 W := by kernel_rfl
theorem venue_rows_1_om {x0 x1 : Value} {W : AW} {r : Value × AW} (h : venue_rows_1 omS x0 x1 W = some r) : omS (.func (.func 73) #[] #[x1]) [x0] W = some (gc W r) := om_of (nt := 37) (n := 2) (by kernel_rfl) (by kernel_rfl) rfl ((venue_rows_1_eq omS x0 x1 W).trans h)
noncomputable def slices_ContainsFuncapi_VnSectionapi_VnSection (call : Eng.Callee) (x0 x1 : Value) (W : AW) : Option (Value × AW) :=
  bnd (oMv (.bool false) W) fun r1 =>
  bnd (oMv x0 r1.2) fun r2 =>
  bnd (oMv x1 r2.2) fun r3 =>
  bnd (call (fnV 99) [r2.1, r3.1] r3.2) fun r4 =>
  bnd (oBin Tryd.prog .geq 3 false true r4.1 (.int .i64 0) r4.2) fun r5 =>
  bnd (oMv r5.1 r5.2) fun r6 =>
  oRes Tryd.prog [(r6.1, none)] r6.2
theorem slices_ContainsFuncapi_VnSectionapi_VnSection_eq (call : Eng.Callee) (x0 x1 : Value) (W : AW) : kFun Tryd.prog call 9 (cod 77) (rss 77) [x0, x1] W = slices_ContainsFuncapi_VnSectionapi_VnSection call x0 x1 W := by kernel_rfl
theorem slices_ContainsFuncapi_VnSectionapi_VnSection_om {x0 x1 : Value} {W : AW} {r : Value × AW} (h : slices_ContainsFuncapi_VnSectionapi_VnSection omS x0 x1 W = some r) : omS (.func (.func 77) #[] #[]) [x0, x1] W = some (gc W r) := om_of (nt := 9) (n := 2) (by kernel_rfl) (by kernel_rfl) rfl ((slices_ContainsFuncapi_VnSectionapi_VnSection_eq omS x0 x1 W).trans h)
noncomputable def venue_check_1 (call : Eng.Callee) (x0 x1 : Value) (W : AW) : Option (Value × AW) :=
  bnd (oBox x0 W) fun r1 =>
  bnd (oMv (.bool false) r1.2) fun r2 =>
  bnd (faO 0 r1.1 r2.2) fun r3 =>
  bnd (ldC r3.1 r3.2) fun r4 =>
  bnd (faO 0 x1 r4.2) fun r5 =>
  bnd (ldC r5.1 r5.2) fun r6 =>
  bnd (oBin Tryd.prog .eql 9 false false r4.1 r6.1 r6.2) fun r7 =>
  bnd (oMv r7.1 r7.2) fun r8 =>
  oRes Tryd.prog [(r8.1, none)] r8.2
theorem venue_check_1_eq (call : Eng.Callee) (x0 x1 : Value) (W : AW) : kFun Tryd.prog call 9 (cod 78) (rss 78) [x0, x1] W = venue_check_1 call x0 x1 W := by kernel_rfl
theorem venue_check_1_om {x0 x1 : Value} {W : AW} {r : Value × AW} (h : venue_check_1 omS x0 x1 W = some r) : omS (.func (.func 78) #[] #[x1]) [x0] W = some (gc W r) := om_of (nt := 9) (n := 2) (by kernel_rfl) (by kernel_rfl) rfl ((venue_check_1_eq omS x0 x1 W).trans h)
noncomputable def slices_ContainsFuncintint (call : Eng.Callee) (x0 x1 : Value) (W : AW) : Option (Value × AW) :=
  bnd (oMv (.bool false) W) fun r1 =>
  bnd (oMv x0 r1.2) fun r2 =>
  bnd (oMv x1 r2.2) fun r3 =>
  bnd (call (fnV 100) [r2.1, r3.1] r3.2) fun r4 =>
  bnd (oBin Tryd.prog .geq 3 false true r4.1 (.int .i64 0) r4.2) fun r5 =>
  bnd (oMv r5.1 r5.2) fun r6 =>
  oRes Tryd.prog [(r6.1, none)] r6.2
theorem slices_ContainsFuncintint_eq (call : Eng.Callee) (x0 x1 : Value) (W : AW) : kFun Tryd.prog call 9 (cod 79) (rss 79) [x0, x1] W = slices_ContainsFuncintint call x0 x1 W := by kernel_rfl
theorem slices_ContainsFuncintint_om {x0 x1 : Value} {W : AW} {r : Value × AW} (h : slices_ContainsFuncintint omS x0 x1 W = some r) : omS (.func (.func 79) #[] #[]) [x0, x1] W = some (gc W r) := om_of (nt := 9) (n := 2) (by kernel_rfl) (by kernel_rfl) rfl ((slices_ContainsFuncintint_eq omS x0 x1 W).trans h)
noncomputable def venue_check_2 (call : Eng.Callee) (x0 : Value) (W : AW) : Option (Value × AW) :=
  bnd (oMv (.bool false) W) fun r1 =>
  bnd (oMv x0 r1.2) fun r2 =>
  bnd (call (fnV 56) [r2.1, (.int .i64 1), (.int .i64 64)] r2.2) fun r3 =>
  bnd (oMv r3.1 r3.2) fun r4 =>
  oRes Tryd.prog [(r4.1, none)] r4.2
theorem venue_check_2_eq (call : Eng.Callee) (x0 : Value) (W : AW) : kFun Tryd.prog call 5 (cod 80) (rss 80) [x0] W = venue_check_2 call x0 W := by kernel_rfl
theorem venue_check_2_om {x0 : Value} {W : AW} {r : Value × AW} (h : venue_check_2 omS x0 W = some r) : omS (.func (.func 80) #[] #[]) [x0] W = some (gc W r) := om_of (nt := 5) (n := 1) (by kernel_rfl) (by kernel_rfl) rfl ((venue_check_2_eq omS x0 W).trans h)
noncomputable def ref01_Name_L1 (call : Eng.Callee) (R : Nat → Value) (W : AW) : Option LT :=
  bnd (oMv (R 3) W) fun r18 =>
  bnd (oMv (R 0) r18.2) fun r19 =>
  bnd (oBuiltin Tryd.prog .len #[9] 3 #[false] [r19.1] r19.2) fun r20 =>
  bnd (oBin Tryd.prog .lss 3 false false r18.1 r20.1 r20.2) fun r21 =>
  vIf r21.1 (
    bnd (oMv (R 0) r21.2) fun r22 =>
    bnd (oMv (R 3) r22.2) fun r23 =>
    bnd (oIndex Tryd.prog 9 r22.1 r23.1 r23.2) fun r24 =>
    bnd (call (fnV 101) [r24.1] r24.2) fun r25 =>
    bnd (oUn Tryd.prog .not r25.1 r25.2) fun r26 =>
    bnd (oMv r26.1 r26.2) fun r27 =>
    bnd (bIf (wnt r27.1 true) (oMv (R 0) r27.2) (some (undef, r27.2))) fun r28 =>
    bnd (bIf (wnt r27.1 true) (oMv (R 3) r28.2) (some (undef, r28.2))) fun r29 =>
    bnd (bIf (wnt r27.1 true) (oIndex Tryd.prog 9 r28.1 r29.1 r29.2) (some (undef, r29.2))) fun r30 =>
    bnd (bIf (wnt r27.1 true) (call (fnV 102) [r30.1] r30.2) (some (undef, r30.2))) fun r31 =>
    bnd (bIf (wnt r27.1 true) (oUn Tryd.prog .not r31.1 r31.2) (some (undef, r31.2))) fun r32 =>
    bnd (oPick r27.1 r32.1 (.bool false) r32.2) fun r33 =>
    bnd (oMv r33.1 r33.2) fun r34 =>
    bnd (bIf (wnt r34.1 true) (oMv (R 0) r34.2) (some (undef, r34.2))) fun r35 =>
    bnd (bIf (wnt r34.1 true) (oMv (R 3) r35.2) (some (undef, r35.2))) fun r36 =>
    bnd (bIf (wnt r34.1 true) (oIndex Tryd.prog 9 r35.1 r36.1 r36.2) (some (undef, r36.2))) fun r37 =>
    bnd (bIf (wnt r34.1 true) (oBin Tryd.prog .neq 5 false true r37.1 (.int .u8 45) r37.2) (some (undef, r37.2))) fun r38 =>
    bnd (oPick r34.1 r38.1 (.bool false) r38.2) fun r39 =>
    vIf r39.1 (
      bnd (oMv (.bool false) r39.2) fun r40 =>
      some (X.ret, (rput (rput (rput (rput (rput (rput (rput (rput (rput (rput (rput (rput (rput (rput (rput (rput (rput (rput (rput (rput (rput (rput (rput R (some 18) r18.1) (some 19) r19.1) (some 20) r20.1) (some 21) r21.1) (some 24) r22.1) (some 25) r23.1) (some 26) r24.1) (some 27) r25.1) (some 28) r26.1) (some 29) r27.1) (some 30) r28.1) (some 31) r29.1) (some 32) r30.1) (some 33) r31.1) (some 34) r32.1) (some 35) r33.1) (some 36) r34.1) (some 37) r35.1) (some 38) r36.1) (some 39) r37.1) (some 40) r38.1) (some 41) r39.1) (some 2) r40.1), r40.2)) (
      bnd (oMv (R 3) r39.2) fun r41 =>
      bnd (oBin Tryd.prog .add 3 false true r41.1 (.int .i64 1) r41.2) fun r42 =>
      bnd (oMv r42.1 r42.2) fun r43 =>
      some (X.normal, (rput (rput (rput (rput (rput (rput (rput (rput (rput (rput (rput (rput (rput (rput (rput (rput (rput (rput (rput (rput (rput (rput (rput (rput (rput R (some 18) r18.1) (some 19) r19.1) (some 20) r20.1) (some 21) r21.1) (some 24) r22.1) (some 25) r23.1) (some 26) r24.1) (some 27) r25.1) (some 28) r26.1) (some 29) r27.1) (some 30) r28.1) (some 31) r29.1) (some 32) r30.1) (some 33) r31.1) (some 34) r32.1) (some 35) r33.1) (some 36) r34.1) (some 37) r35.1) (some 38) r36.1) (some 39) r37.1) (some 40) r38.1) (some 41) r39.1) (some 22) r41.1) (some 23) r42.1) (some 3) r43.1), r43.2))) (
    some (X.exit 0, (rput (rput (rput (rput R (some 18) r18.1) (some 19) r19.1) (some 20) r20.1) (some 21) r21.1), r21.2))
noncomputable def ref01_Name (call : Eng.Callee) (x0 : Value) (W : AW) : Option (Value × AW) :=
  bnd (oMv (.bool false) W) fun r1 =>
  bnd (oMv x0 r1.2) fun r2 =>
  bnd (oBuiltin Tryd.prog .len #[9] 3 #[false] [r2.1] r2.2) fun r3 =>
  bnd (oBin Tryd.prog .lss 3 false true r3.1 (.int .i64 1) r3.2) fun r4 =>
  bnd (oMv r4.1 r4.2) fun r5 =>
  bnd (bIf (wnt r5.1 false) (oMv x0 r5.2) (some (undef, r5.2))) fun r6 =>
  bnd (bIf (wnt r5.1 false) (oBuiltin Tryd.prog .len #[9] 3 #[false] [r6.1] r6.2) (some (undef, r6.2))) fun r7 =>
  bnd (bIf (wnt r5.1 false) (oBin Tryd.prog .gtr 3 false true r7.1 (.int .i64 16) r7.2) (some (undef, r7.2))) fun r8 =>
  bnd (oPick r5.1 (.bool true) r8.1 r8.2) fun r9 =>
  bnd (oMv r9.1 r9.2) fun r10 =>
  bnd (bIf (wnt r10.1 false) (oMv x0 r10.2) (some (undef, r10.2))) fun r11 =>
  bnd (bIf (wnt r10.1 false) (oIndex Tryd.prog 9 r11.1 (.int .i64 0) r11.2) (some (undef, r11.2))) fun r12 =>
  bnd (bIf (wnt r10.1 false) (call (fnV 101) [r12.1] r12.2) (some (undef, r12.2))) fun r13 =>
  bnd (bIf (wnt r10.1 false) (oUn Tryd.prog .not r13.1 r13.2) (some (undef, r13.2))) fun r14 =>
  bnd (oPick r10.1 (.bool true) r14.1 r14.2) fun r15 =>
  vIf r15.1 (
    bnd (oMv (.bool false) r15.2) fun r16 =>
    oRes Tryd.prog [(r16.1, none)] r16.2) (
    bnd (oMv (.int .i64 0) r15.2) fun r17 =>
    bnd (loopO (ref01_Name_L1 call) (rput (rput (rput (rput (rput (rput (rput (rput (rput (rput (rput (rput (rput (rput (rput (rput (argGo 0 [x0] PlanTab.blank) (some 2) r1.1) (some 4) r2.1) (some 5) r3.1) (some 6) r4.1) (some 7) r5.1) (some 8) r6.1) (some 9) r7.1) (some 10) r8.1) (some 11) r9.1) (some 12) r10.1) (some 13) r11.1) (some 14) r12.1) (some 15) r13.1) (some 16) r14.1) (some 17) r15.1) (some 3) r17.1) r17.2) fun r44 =>
    kExit 0 r44.1 (
      bnd (oMv (.bool true) r44.2.2) fun r45 =>
      oRes Tryd.prog [(r45.1, none)] r45.2) (kRetX r44.1 (
      oRes Tryd.prog [((r44.2.1 2), none)] r44.2.2)))
theorem ref01_Name_eq (call : Eng.Callee) (x0 : Value) (W : AW) : kFun Tryd.prog call 42 (cod 81) (rss 81) [x0] W = ref01_Name call x0 W := by kernel_rfl
theorem ref01_Name_om {x0 : Value} {W : AW} {r : Value × AW} (h : ref01_Name omS x0 W = some r) : omS (.func (.func 81) #[] #[]) [x0] W = some (gc W r) := om_of (nt := 42) (n := 1) (by kernel_rfl) (by kernel_rfl) rfl ((ref01_Name_eq omS x0 W).trans h)
noncomputable def ref15_some_L1 (call : Eng.Callee) (R : Nat → Value) (W : AW) : Option LT :=
  bnd (oMv (R 14) W) fun r24 =>
  bnd (oMv (R 13) r24.2) fun r25 =>
  bnd (oBuiltin Tryd.prog .len #[100] 3 #[false] [r25.1] r25.2) fun r26 =>
  bnd (oBin Tryd.prog .lss 3 false false r24.1 r26.1 r26.2) fun r27 =>
  vIf r27.1 (
    bnd (oMv (R 13) r27.2) fun r28 =>
    bnd (oMv (R 14) r28.2) fun r29 =>
    bnd (ixS 3 r28.1 r29.1 r29.2) fun r30 =>
    bnd (faO 0 r30.1 r30.2) fun r31 =>
    bnd (ldC r31.1 r31.2) fun r32 =>
    bnd (oMv (R 1) r32.2) fun r33 =>
    bnd (oBin Tryd.prog .eql 3 false false r32.1 r33.1 r33.2) fun r34 =>
    bnd (oMv r34.1 r34.2) fun r35 =>
    bnd (bIf (wnt r35.1 true) (oMv (R 2) r35.2) (some (undef, r35.2))) fun r36 =>
    bnd (bIf (wnt r35.1 true) (oBin Tryd.prog .eql 3 false true r36.1 (.int .i64 (-1)) r36.2) (some (undef, r36.2))) fun r37 =>
    bnd (bIf (wnt r35.1 true) (oMv r37.1 r37.2) (some (undef, r37.2))) fun r38 =>
    bnd (bIf (wnt r38.1 false) (oMv (R 13) r38.2) (some (undef, r38.2))) fun r39 =>
    bnd (bIf (wnt r38.1 false) (oMv (R 14) r39.2) (some (undef, r39.2))) fun r40 =>
    bnd (bIf (wnt r38.1 false) (ixS 3 r39.1 r40.1 r40.2) (some (undef, r40.2))) fun r41 =>
    bnd (bIf (wnt r38.1 false) (faO 1 r41.1 r41.2) (some (undef, r41.2))) fun r42 =>
    bnd (bIf (wnt r38.1 false) (ldC r42.1 r42.2) (some (undef, r42.2))) fun r43 =>
    bnd (bIf (wnt r38.1 false) (oMv (R 2) r43.2) (some (undef, r43.2))) fun r44 =>
    bnd (bIf (wnt r38.1 false) (oBin Tryd.prog .eql 3 false false r43.1 r44.1 r44.2) (some (undef, r44.2))) fun r45 =>
    bnd (bIf (wnt r35.1 true) (oPick r38.1 (.bool true) r45.1 r45.2) (some (undef, r45.2))) fun r46 =>
    bnd (oPick r35.1 r46.1 (.bool false) r46.2) fun r47 =>
    vIf r47.1 (
      bnd (oMv (R 12) r47.2) fun r48 =>
      bnd (oBin Tryd.prog .eql 3 false true r48.1 (.int .i64 0) r48.2) fun r49 =>
      vIf r49.1 (
        bnd (oMv (R 14) r49.2) fun r50 =>
        bnd (oMv r50.1 r50.2) fun r51 =>
        bnd (oMv (R 12) r51.2) fun r52 =>
        bnd (oBin Tryd.prog .add 3 false true r52.1 (.int .i64 1) r52.2) fun r53 =>
        bnd (oMv r53.1 r53.2) fun r54 =>
        bnd (oMv (R 14) r54.2) fun r55 =>
        bnd (oBin Tryd.prog .add 3 false true r55.1 (.int .i64 1) r55.2) fun r56 =>
        bnd (oMv r56.1 r56.2) fun r57 =>
        some (X.normal, (rput (rput (rput (rput (rput (rput (rput (rput (rput (rput (rput (rput (rput (rput (rput (rput (rput (rput (rput (rput (rput (rput (rput (rput (rput (rput (rput (rput (rput (rput (rput (rput (rput (rput R (some 25) r24.1) (some 26) r25.1) (some 27) r26.1) (some 28) r27.1) (some 31) r28.1) (some 32) r29.1) (some 33) r30.1) (some 34) r31.1) (some 35) r32.1) (some 36) r33.1) (some 37) r34.1) (some 38) r35.1) (some 39) r36.1) (some 40) r37.1) (some 41) r38.1) (some 42) r39.1) (some 43) r40.1) (some 44) r41.1) (some 45) r42.1) (some 46) r43.1) (some 47) r44.1) (some 48) r45.1) (some 49) r46.1) (some 50) r47.1) (some 51) r48.1) (some 52) r49.1) (some 53) r50.1) (some 11) r51.1) (some 54) r52.1) (some 55) r53.1) (some 12) r54.1) (some 29) r55.1) (some 30) r56.1) (some 14) r57.1), r57.2)) (
        bnd (oMv (R 12) r49.2) fun r58 =>
        bnd (oBin Tryd.prog .add 3 false true r58.1 (.int .i64 1) r58.2) fun r59 =>
        bnd (oMv r59.1 r59.2) fun r60 =>
        bnd (oMv (R 14) r60.2) fun r61 =>
        bnd (oBin Tryd.prog .add 3 false true r61.1 (.int .i64 1) r61.2) fun r62 =>
        bnd (oMv r62.1 r62.2) fun r63 =>
        some (X.normal, (rput (rput (rput (rput (rput (rput (rput (rput (rput (rput (rput (rput (rput (rput (rput (rput (rput (rput (rput (rput (rput (rput (rput (rput (rput (rput (rput (rput (rput (rput (rput (rput R (some 25) r24.1) (some 26) r25.1) (some 27) r26.1) (some 28) r27.1) (some 31) r28.1) (some 32) r29.1) (some 33) r30.1) (some 34) r31.1) (some 35) r32.1) (some 36) r33.1) (some 37) r34.1) (some 38) r35.1) (some 39) r36.1) (some 40) r37.1) (some 41) r38.1) (some 42) r39.1) (some 43) r40.1) (some 44) r41.1) (some 45) r42.1) (some 46) r43.1) (some 47) r44.1) (some 48) r45.1) (some 49) r46.1) (some 50) r47.1) (some 51) r48.1) (some 52) r49.1) (some 54) r58.1) (some 55) r59.1) (some 12) r60.1) (some 29) r61.1) (some 30) r62.1) (some 14) r63.1), r63.2))) (
      bnd (oMv (R 14) r47.2) fun r64 =>
      bnd (oBin Tryd.prog .add 3 false true r64.1 (.int .i64 1) r64.2) fun r65 =>
      bnd (oMv r65.1 r65.2) fun r66 =>
      some (X.normal, (rput (rput (rput (rput (rput (rput (rput (rput (rput (rput (rput (rput (rput (rput (rput (rput (rput (rput (rput (rput (rput (rput (rput (rput (rput (rput (rput R (some 25) r24.1) (some 26) r25.1) (some 27) r26.1) (some 28) r27.1) (some 31) r28.1) (some 32) r29.1) (some 33) r30.1) (some 34) r31.1) (some 35) r32.1) (some 36) r33.1) (some 37) r34.1) (some 38) r35.1) (some 39) r36.1) (some 40) r37.1) (some 41) r38.1) (some 42) r39.1) (some 43) r40.1) (some 44) r41.1) (some 45) r42.1) (some 46) r43.1) (some 47) r44.1) (some 48) r45.1) (some 49) r46.1) (some 50) r47.1) (some 29) r64.1) (some 30) r65.1) (some 14) r66.1), r66.2))) (
    some (X.exit 0, (rput (rput (rput (rput R (some 25) r24.1) (some 26) r25.1) (some 27) r26.1) (some 28) r27.1), r27.2))
noncomputable def ref15_some (call : Eng.Callee) (x0 x1 x2 : Value) (W : AW) : Option (Value × AW) :=
  bnd (oBox x0 W) fun r1 =>
  bnd (oMv (.int .i64 0) r1.2) fun r2 =>
  bnd (oMv (.int .i64 0) r2.2) fun r3 =>
  bnd (oMv (.int .i64 0) r3.2) fun r4 =>
  bnd (ldA 4 r1.1 r4.2) fun r5 =>
  bnd (call (fnV 43) [r5.1] r5.2) fun r6 =>
  bnd (oMv r6.1 r6.2) fun r7 =>
  bnd (oExtract r7.1 0 r7.2) fun r8 =>
  bnd (oExtract r7.1 1 r8.2) fun r9 =>
  bnd (oMv r8.1 r9.2) fun r10 =>
  bnd (oMv r9.1 r10.2) fun r11 =>
  bnd (oMv r11.1 r11.2) fun r12 =>
  bnd (oBin Tryd.prog .neq 28 false true r12.1 (.int .i64 0) r12.2) fun r13 =>
  vIf r13.1 (
    bnd (oMv r11.1 r13.2) fun r14 =>
    bnd (oMv (.int .i64 0) r14.2) fun r15 =>
    bnd (oMv (.int .i64 0) r15.2) fun r16 =>
    bnd (oMv r14.1 r16.2) fun r17 =>
    oRes Tryd.prog [(r15.1, none), (r16.1, none), (r17.1, none)] r17.2) (
    bnd (oMv (.int .i64 0) r13.2) fun r18 =>
    bnd (oMv (.int .i64 0) r18.2) fun r19 =>
    bnd (ldA 4 r1.1 r19.2) fun r20 =>
    bnd (call (fnV 63) [r20.1] r20.2) fun r21 =>
    bnd (oMv r21.1 r21.2) fun r22 =>
    bnd (oMv (.int .i64 0) r22.2) fun r23 =>
    bnd (loopO (ref15_some_L1 call) (rput (rput (rput (rput (rput (rput (rput (rput (rput (rput (rput (rput (rput (rput (rput (rput (rput (rput (rput (argGo 0 [x0, x1, x2] PlanTab.blank) (some 3) r1.1) (some 6) r2.1) (some 7) r3.1) (some 8) r4.1) (some 16) r5.1) (some 17) r6.1) (some 15) r7.1) (some 18) r8.1) (some 19) r9.1) (some 9) r10.1) (some 10) r11.1) (some 20) r12.1) (some 21) r13.1) (some 11) r18.1) (some 12) r19.1) (some 23) r20.1) (some 24) r21.1) (some 13) r22.1) (some 14) r23.1) r23.2) fun r67 =>
    kExit 0 r67.1 (
      bnd (oMv (r67.2.1 12) r67.2.2) fun r68 =>
      bnd (oBin Tryd.prog .eql 3 false true r68.1 (.int .i64 0) r68.2) fun r69 =>
      vIf r69.1 (
        bnd (oMv (.int .i64 0) r69.2) fun r70 =>
        bnd (oMv (.int .i64 0) r70.2) fun r71 =>
        bnd (oMv (.int .i64 4) r71.2) fun r72 =>
        oRes Tryd.prog [(r70.1, none), (r71.1, none), (r72.1, none)] r72.2) (
        bnd (oMv (r67.2.1 11) r69.2) fun r73 =>
        bnd (oMv (r67.2.1 12) r73.2) fun r74 =>
        bnd (oMv r73.1 r74.2) fun r75 =>
        bnd (oMv r74.1 r75.2) fun r76 =>
        bnd (oMv (.int .i64 0) r76.2) fun r77 =>
        oRes Tryd.prog [(r75.1, none), (r76.1, none), (r77.1, none)] r77.2)) (none))
theorem ref15_some_eq (call : Eng.Callee) (x0 x1 x2 : Value) (W : AW) : kFun Tryd.prog call 60 (cod 82) (rss 82) [x0, x1, x2] W = ref15_some call x0 x1 x2 W := by kernel_rfl
theorem ref15_some_om {x0 x1 x2 : Value} {W : AW} {r : Value × AW} (h : ref15_some omS x0 x1 x2 W = some r) : omS (.func (.func 82) #[] #[]) [x0, x1, x2] W = some (gc W r) := om_of (nt := 60) (n := 3) (by kernel_rfl) (by kernel_rfl) rfl ((ref15_some_eq omS x0 x1 x2 W).trans h)
noncomputable def slices_IndexFuncapi_VnSectionapi_VnSection_L1 (call : Eng.Callee) (R : Nat → Value) (W : AW) : Option LT :=
  bnd (oBin Tryd.prog .lss 3 false false (R 8) (R 7) W) fun r5 =>
  vIf r5.1 (
    bnd (oMv (R 8) r5.2) fun r6 =>
    bnd (oMv r6.1 r6.2) fun r7 =>
    bnd (oMv (R 1) r7.2) fun r8 =>
    bnd (oMv (R 0) r8.2) fun r9 =>
    bnd (oMv r7.1 r9.2) fun r10 =>
    bnd (ixS 3 r9.1 r10.1 r10.2) fun r11 =>
    bnd (ldA 3 r11.1 r11.2) fun r12 =>
    bnd (call r8.1 [r12.1] r12.2) fun r13 =>
    vIf r13.1 (
      bnd (oMv r7.1 r13.2) fun r14 =>
      bnd (oMv r14.1 r14.2) fun r15 =>
      some (X.ret, (rput (rput (rput (rput (rput (rput (rput (rput (rput (rput (rput R (some 9) r5.1) (some 10) r6.1) (some 5) r7.1) (some 11) r8.1) (some 12) r9.1) (some 13) r10.1) (some 14) r11.1) (some 15) r12.1) (some 16) r13.1) (some 17) r14.1) (some 4) r15.1), r15.2)) (
      bnd (oBin Tryd.prog .add 3 false true (R 8) (.int .i64 1) r13.2) fun r16 =>
      bnd (oMv r16.1 r16.2) fun r17 =>
      some (X.normal, (rput (rput (rput (rput (rput (rput (rput (rput (rput (rput (rput R (some 9) r5.1) (some 10) r6.1) (some 5) r7.1) (some 11) r8.1) (some 12) r9.1) (some 13) r10.1) (some 14) r11.1) (some 15) r12.1) (some 16) r13.1) (some 18) r16.1) (some 8) r17.1), r17.2))) (
    some (X.exit 0, (rput R (some 9) r5.1), r5.2))
noncomputable def slices_IndexFuncapi_VnSectionapi_VnSection (call : Eng.Callee) (x0 x1 : Value) (W : AW) : Option (Value × AW) :=
  bnd (oMv (.int .i64 0) W) fun r1 =>
  bnd (oMv x0 r1.2) fun r2 =>
  bnd (oBuiltin Tryd.prog .len #[34] 3 #[false] [r2.1] r2.2) fun r3 =>
  bnd (oMv (.int .i64 0) r3.2) fun r4 =>
  bnd (loopO (slices_IndexFuncapi_VnSectionapi_VnSection_L1 call) (rput (rput (rput (rput (argGo 0 [x0, x1] PlanTab.blank) (some 4) r1.1) (some 6) r2.1) (some 7) r3.1) (some 8) r4.1) r4.2) fun r18 =>
  kExit 0 r18.1 (
    bnd (oMv (.int .i64 (-1)) r18.2.2) fun r19 =>
    oRes Tryd.prog [(r19.1, none)] r19.2) (kRetX r18.1 (
    oRes Tryd.prog [((r18.2.1 4), none)] r18.2.2))
theorem slices_IndexFuncapi_VnSectionapi_VnSection_eq (call : Eng.Callee) (x0 x1 : Value) (W : AW) : kFun Tryd.prog call 19 (cod 99) (rss 99) [x0, x1] W = slices_IndexFuncapi_VnSectionapi_VnSection call x0 x1 W := by kernel_rfl
theorem slices_IndexFuncapi_VnSectionapi_VnSection_om {x0 x1 : Value} {W : AW} {r : Value × AW} (h : slices_IndexFuncapi_VnSectionapi_VnSection omS x0 x1 W = some r) : omS (.func (.func 99) #[] #[]) [x0, x1] W = some (gc W r) := om_of (nt := 19) (n := 2) (by kernel_rfl) (by kernel_rfl) rfl ((slices_IndexFuncapi_VnSectionapi_VnSection_eq omS x0 x1 W).trans h)
noncomputable def slices_IndexFuncintint_L1 (call : Eng.Callee) (R : Nat → Value) (W : AW) : Option LT :=
  bnd (oBin Tryd.prog .lss 3 false false (R 8) (R 7) W) fun r5 =>
  vIf r5.1 (
    bnd (oMv (R 8) r5.2) fun r6 =>
    bnd (oMv r6.1 r6.2) fun r7 =>
    bnd (oMv (R 1) r7.2) fun r8 =>
    bnd (oMv (R 0) r8.2) fun r9 =>
    bnd (oMv r7.1 r9.2) fun r10 =>
    bnd (ixS 1 r9.1 r10.1 r10.2) fun r11 =>
    bnd (ldC r11.1 r11.2) fun r12 =>
    bnd (call r8.1 [r12.1] r12.2) fun r13 =>
    vIf r13.1 (
      bnd (oMv r7.1 r13.2) fun r14 =>
      bnd (oMv r14.1 r14.2) fun r15 =>
      some (X.ret, (rput (rput (rput (rput (rput (rput (rput (rput (rput (rput (rput R (some 9) r5.1) (some 10) r6.1) (some 5) r7.1) (some 11) r8.1) (some 12) r9.1) (some 13) r10.1) (some 14) r11.1) (some 15) r12.1) (some 16) r13.1) (some 17) r14.1) (some 4) r15.1), r15.2)) (
      bnd (oBin Tryd.prog .add 3 false true (R 8) (.int .i64 1) r13.2) fun r16 =>
      bnd (oMv r16.1 r16.2) fun r17 =>
      some (X.normal, (rput (rput (rput (rput (rput (rput (rput (rput (rput (rput (rput R (some 9) r5.1) (some 10) r6.1) (some 5) r7.1) (some 11) r8.1) (some 12) r9.1) (some 13) r10.1) (some 14) r11.1) (some 15) r12.1) (some 16) r13.1) (some 18) r16.1) (some 8) r17.1), r17.2))) (
    some (X.exit 0, (rput R (some 9) r5.1), r5.2))
noncomputable def slices_IndexFuncintint (call : Eng.Callee) (x0 x1 : Value) (W : AW) : Option (Value × AW) :=
  bnd (oMv (.int .i64 0) W) fun r1 =>
  bnd (oMv x0 r1.2) fun r2 =>
  bnd (oBuiltin Tryd.prog .len #[38] 3 #[false] [r2.1] r2.2) fun r3 =>
  bnd (oMv (.int .i64 0) r3.2) fun r4 =>
  bnd (loopO (slices_IndexFuncintint_L1 call) (rput (rput (rput (rput (argGo 0 [x0, x1] PlanTab.blank) (some 4) r1.1) (some 6) r2.1) (some 7) r3.1) (some 8) r4.1) r4.2) fun r18 =>
  kExit 0 r18.1 (
    bnd (oMv (.int .i64 (-1)) r18.2.2) fun r19 =>
    oRes Tryd.prog [(r19.1, none)] r19.2) (kRetX r18.1 (
    oRes Tryd.prog [((r18.2.1 4), none)] r18.2.2))
theorem slices_IndexFuncintint_eq (call : Eng.Callee) (x0 x1 : Value) (W : AW) : kFun Tryd.prog call 19 (cod 100) (rss 100) [x0, x1] W = slices_IndexFuncintint call x0 x1 W := by kernel_rfl
theorem slices_IndexFuncintint_om {x0 x1 : Value} {W : AW} {r : Value × AW} (h : slices_IndexFuncintint omS x0 x1 W = some r) : omS (.func (.func 100) #[] #[]) [x0, x1] W = some (gc W r) := om_of (nt := 19) (n := 2) (by kernel_rfl) (by kernel_rfl) rfl ((slices_IndexFuncintint_eq omS x0 x1 W).trans h)
noncomputable def ref01_lower (call : Eng.Callee) (x0 : Value) (W : AW) : Option (Value × AW) :=
  bnd (oMv (.bool false) W) fun r1 =>
  bnd (oMv x0 r1.2) fun r2 =>
  bnd (oBin Tryd.prog .geq 5 false true r2.1 (.int .u8 97) r2.2) fun r3 =>
  bnd (oMv r3.1 r3.2) fun r4 =>
  bnd (bIf (wnt r4.1 true) (oMv x0 r4.2) (some (undef, r4.2))) fun r5 =>
  bnd (bIf (wnt r4.1 true) (oBin Tryd.prog .leq 5 false true r5.1 (.int .u8 122) r5.2) (some (undef, r5.2))) fun r6 =>
  bnd (oPick r4.1 r6.1 (.bool false) r6.2) fun r7 =>
  bnd (oMv r7.1 r7.2) fun r8 =>
  oRes Tryd.prog [(r8.1, none)] r8.2
theorem ref01_lower_eq (call : Eng.Callee) (x0 : Value) (W : AW) : kFun Tryd.prog call 9 (cod 101) (rss 101) [x0] W = ref01_lower call x0 W := by kernel_rfl
theorem ref01_lower_om {x0 : Value} {W : AW} {r : Value × AW} (h : ref01_lower omS x0 W = some r) : omS (.func (.func 101) #[] #[]) [x0] W = some (gc W r) := om_of (nt := 9) (n := 1) (by kernel_rfl) (by kernel_rfl) rfl ((ref01_lower_eq omS x0 W).trans h)
noncomputable def ref01_digit (call : Eng.Callee) (x0 : Value) (W : AW) : Option (Value × AW) :=
  bnd (oMv (.bool false) W) fun r1 =>
  bnd (oMv x0 r1.2) fun r2 =>
  bnd (oBin Tryd.prog .geq 5 false true r2.1 (.int .u8 48) r2.2) fun r3 =>
  bnd (oMv r3.1 r3.2) fun r4 =>
  bnd (bIf (wnt r4.1 true) (oMv x0 r4.2) (some (undef, r4.2))) fun r5 =>
  bnd (bIf (wnt r4.1 true) (oBin Tryd.prog .leq 5 false true r5.1 (.int .u8 57) r5.2) (some (undef, r5.2))) fun r6 =>
  bnd (oPick r4.1 r6.1 (.bool false) r6.2) fun r7 =>
  bnd (oMv r7.1 r7.2) fun r8 =>
  oRes Tryd.prog [(r8.1, none)] r8.2
theorem ref01_digit_eq (call : Eng.Callee) (x0 : Value) (W : AW) : kFun Tryd.prog call 9 (cod 102) (rss 102) [x0] W = ref01_digit call x0 W := by kernel_rfl
theorem ref01_digit_om {x0 : Value} {W : AW} {r : Value × AW} (h : ref01_digit omS x0 W = some r) : omS (.func (.func 102) #[] #[]) [x0] W = some (gc W r) := om_of (nt := 9) (n := 1) (by kernel_rfl) (by kernel_rfl) rfl ((ref01_digit_eq omS x0 W).trans h)
end Go.Proofs.YtfcfglpkgcheiaaDoor
