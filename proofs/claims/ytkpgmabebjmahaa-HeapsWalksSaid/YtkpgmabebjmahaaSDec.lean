/- Texts of the program told in continuations: written by a program, shown by the kernel. -/
import Derived.Test.YtkpgmabebjmahaaSBase
import Derived.KernelRfl
namespace Go.Proofs.Ytkpgmabebjmahaa
open Go Go.Eng
set_option linter.unusedVariables false
set_option maxRecDepth 100000
noncomputable def law06_made_L1 (call : Eng.Callee) (R : Nat → Value) (W : AW) : Option LT :=
  bnd (oMv (R 6) W) fun r15 =>
  bnd (oMv (R 1) r15.2) fun r16 =>
  bnd (oBuiltin Try.prog .len #[22] 3 #[false] [r16.1] r16.2) fun r17 =>
  bnd (oBin Try.prog .lss 3 false false r15.1 r17.1 r17.2) fun r18 =>
  vIf r18.1 (
    bnd (oMv (R 5) r18.2) fun r19 =>
    bnd (oMv (R 1) r19.2) fun r20 =>
    bnd (oMv (R 6) r20.2) fun r21 =>
    bnd (ixS 1 r20.1 r21.1 r21.2) fun r22 =>
    bnd (ldC r22.1 r22.2) fun r23 =>
    bnd (call (fnV 25) [r19.1, r23.1] r23.2) fun r24 =>
    bnd (oMv r24.1 r24.2) fun r25 =>
    bnd (oExtract r25.1 0 r25.2) fun r26 =>
    bnd (oExtract r25.1 1 r26.2) fun r27 =>
    bnd (oMv r26.1 r27.2) fun r28 =>
    bnd (oMv r27.1 r28.2) fun r29 =>
    bnd (oMv r29.1 r29.2) fun r30 =>
    bnd (oBin Try.prog .neq 29 false true r30.1 (.int .i64 0) r30.2) fun r31 =>
    vIf r31.1 (
      bnd (oMv (.pointer none) r31.2) fun r32 =>
      some (X.ret, (rput (rput (rput (rput (rput (rput (rput (rput (rput (rput (rput (rput (rput (rput (rput (rput (rput (rput R (some 19) r15.1) (some 20) r16.1) (some 21) r17.1) (some 22) r18.1) (some 26) r19.1) (some 27) r20.1) (some 28) r21.1) (some 29) r22.1) (some 30) r23.1) (some 31) r24.1) (some 25) r25.1) (some 32) r26.1) (some 33) r27.1) (some 7) r28.1) (some 8) r29.1) (some 34) r30.1) (some 35) r31.1) (some 4) r32.1), r32.2)) (
      bnd (oMv (R 6) r31.2) fun r33 =>
      bnd (oBin Try.prog .add 3 false true r33.1 (.int .i64 1) r33.2) fun r34 =>
      bnd (oMv r34.1 r34.2) fun r35 =>
      some (X.normal, (rput (rput (rput (rput (rput (rput (rput (rput (rput (rput (rput (rput (rput (rput (rput (rput (rput (rput (rput (rput R (some 19) r15.1) (some 20) r16.1) (some 21) r17.1) (some 22) r18.1) (some 26) r19.1) (some 27) r20.1) (some 28) r21.1) (some 29) r22.1) (some 30) r23.1) (some 31) r24.1) (some 25) r25.1) (some 32) r26.1) (some 33) r27.1) (some 7) r28.1) (some 8) r29.1) (some 34) r30.1) (some 35) r31.1) (some 23) r33.1) (some 24) r34.1) (some 6) r35.1), r35.2))) (
    some (X.exit 0, (rput (rput (rput (rput R (some 19) r15.1) (some 20) r16.1) (some 21) r17.1) (some 22) r18.1), r18.2))
noncomputable def law06_made (call : Eng.Callee) (x0 x1 : Value) (W : AW) : Option (Value × AW) :=
  bnd (oMv (.pointer none) W) fun r1 =>
  bnd (oMv x0 r1.2) fun r2 =>
  bnd (call (fnV 14) [r2.1] r2.2) fun r3 =>
  bnd (call (fnV 38) [r3.1] r3.2) fun r4 =>
  bnd (oMv r4.1 r4.2) fun r5 =>
  bnd (oMv r5.1 r5.2) fun r6 =>
  bnd (oBin Try.prog .eql 24 false true r6.1 (.pointer none) r6.2) fun r7 =>
  bnd (oMv r7.1 r7.2) fun r8 =>
  bnd (bIf (wnt r8.1 false) (oMv x1 r8.2) (some (undef, r8.2))) fun r9 =>
  bnd (bIf (wnt r8.1 false) (oBuiltin Try.prog .len #[22] 3 #[false] [r9.1] r9.2) (some (undef, r9.2))) fun r10 =>
  bnd (bIf (wnt r8.1 false) (oBin Try.prog .gtr 3 false true r10.1 (.int .i64 300) r10.2) (some (undef, r10.2))) fun r11 =>
  bnd (oPick r8.1 (.bool true) r11.1 r11.2) fun r12 =>
  vIf r12.1 (
    bnd (oMv (.pointer none) r12.2) fun r13 =>
    oRes Try.prog [(r13.1, none)] r13.2) (
    bnd (oMv (.int .i64 0) r12.2) fun r14 =>
    bnd (loopO (law06_made_L1 call) (rput (rput (rput (rput (rput (rput (rput (rput (rput (rput (rput (rput (rput (argGo 0 [x0, x1] PlanTab.blank) (some 4) r1.1) (some 9) r2.1) (some 10) r3.1) (some 11) r4.1) (some 5) r5.1) (some 12) r6.1) (some 13) r7.1) (some 14) r8.1) (some 15) r9.1) (some 16) r10.1) (some 17) r11.1) (some 18) r12.1) (some 6) r14.1) r14.2) fun r36 =>
    kExit 0 r36.1 (
      bnd (oMv (r36.2.1 5) r36.2.2) fun r37 =>
      bnd (oMv r37.1 r37.2) fun r38 =>
      oRes Try.prog [(r38.1, none)] r38.2) (kRetX r36.1 (
      oRes Try.prog [((r36.2.1 4), none)] r36.2.2)))
theorem law06_made_eq (call : Eng.Callee) (x0 x1 : Value) (W : AW) : kFun Try.prog call 37 (cod 13) (rss 13) [x0, x1] W = law06_made call x0 x1 W := by kernel_rfl
theorem law06_made_om {x0 x1 : Value} {W : AW} {r : Value × AW} (h : law06_made omS x0 x1 W = some r) : omS (.func (.func 13) #[] #[]) [x0, x1] W = some (gc W r) := om_of (nt := 37) (n := 2) (by kernel_rfl) (by kernel_rfl) rfl ((law06_made_eq omS x0 x1 W).trans h)
noncomputable def law06_order (call : Eng.Callee) (x0 : Value) (W : AW) : Option (Value × AW) :=
  bnd (oMv .nilFunc W) fun r1 =>
  bnd (oMv x0 r1.2) fun r2 =>
  bnd (oBin Try.prog .rem 5 false true r2.1 (.int .u8 2) r2.2) fun r3 =>
  bnd (oBin Try.prog .eql 5 false true r3.1 (.int .u8 1) r3.2) fun r4 =>
  vIf r4.1 (
    bnd (oMv (fnV 52) r4.2) fun r5 =>
    oRes Try.prog [(r5.1, none)] r5.2) (
    bnd (oMv (fnV 35) r4.2) fun r6 =>
    oRes Try.prog [(r6.1, none)] r6.2)
theorem law06_order_eq (call : Eng.Callee) (x0 : Value) (W : AW) : kFun Try.prog call 6 (cod 14) (rss 14) [x0] W = law06_order call x0 W := by kernel_rfl
theorem law06_order_om {x0 : Value} {W : AW} {r : Value × AW} (h : law06_order omS x0 W = some r) : omS (.func (.func 14) #[] #[]) [x0] W = some (gc W r) := om_of (nt := 6) (n := 1) (by kernel_rfl) (by kernel_rfl) rfl ((law06_order_eq omS x0 W).trans h)
noncomputable def heaps_Queueint_Pop (call : Eng.Callee) (x0 : Value) (W : AW) : Option (Value × AW) :=
  bnd (oMv (.int .i64 0) W) fun r1 =>
  bnd (oMv (.int .i64 0) r1.2) fun r2 =>
  bnd (oMv (.int .i64 0) r2.2) fun r3 =>
  bnd (oMv x0 r3.2) fun r4 =>
  bnd (call (fnV 51) [r4.1] r4.2) fun r5 =>
  bnd (oMv r5.1 r5.2) fun r6 =>
  bnd (oExtract r6.1 0 r6.2) fun r7 =>
  bnd (oExtract r6.1 1 r7.2) fun r8 =>
  bnd (oExtract r6.1 2 r8.2) fun r9 =>
  bnd (oMv r7.1 r9.2) fun r10 =>
  bnd (oMv r8.1 r10.2) fun r11 =>
  bnd (oMv r9.1 r11.2) fun r12 =>
  bnd (oMv r12.1 r12.2) fun r13 =>
  bnd (oBin Try.prog .neq 29 false true r13.1 (.int .i64 0) r13.2) fun r14 =>
  vIf r14.1 (
    bnd (oMv r11.1 r14.2) fun r15 =>
    bnd (oMv r12.1 r15.2) fun r16 =>
    bnd (oMv (.int .i64 0) r16.2) fun r17 =>
    bnd (oMv r15.1 r17.2) fun r18 =>
    bnd (oMv r16.1 r18.2) fun r19 =>
    oRes Try.prog [(r17.1, none), (r18.1, none), (r19.1, none)] r19.2) (
    bnd (oMv x0 r14.2) fun r20 =>
    bnd (oNilCheck r20.1 r20.2) fun r21 =>
    bnd (faO 0 r21.1 r21.2) fun r22 =>
    bnd (oMkIface Try.prog 103 r22.1 r22.2) fun r23 =>
    bnd (call (fnV 53) [r23.1] r23.2) fun r24 =>
    bnd (oMv x0 r24.2) fun r25 =>
    bnd (oNilCheck r25.1 r25.2) fun r26 =>
    bnd (faO 2 r26.1 r26.2) fun r27 =>
    bnd (ldC r27.1 r27.2) fun r28 =>
    bnd (oMv r10.1 r28.2) fun r29 =>
    bnd (oBuiltin Try.prog .delete #[107, 2] 0 #[false, false] [r28.1, r29.1] r29.2) fun r30 =>
    bnd (oMv r10.1 r30.2) fun r31 =>
    bnd (oMv r11.1 r31.2) fun r32 =>
    bnd (oMv r31.1 r32.2) fun r33 =>
    bnd (oMv r32.1 r33.2) fun r34 =>
    bnd (oMv (.int .i64 0) r34.2) fun r35 =>
    oRes Try.prog [(r33.1, none), (r34.1, none), (r35.1, none)] r35.2)
theorem heaps_Queueint_Pop_eq (call : Eng.Callee) (x0 : Value) (W : AW) : kFun Try.prog call 27 (cod 15) (rss 15) [x0] W = heaps_Queueint_Pop call x0 W := by kernel_rfl
theorem heaps_Queueint_Pop_om {x0 : Value} {W : AW} {r : Value × AW} (h : heaps_Queueint_Pop omS x0 W = some r) : omS (.func (.func 15) #[] #[]) [x0] W = some (gc W r) := om_of (nt := 27) (n := 1) (by kernel_rfl) (by kernel_rfl) rfl ((heaps_Queueint_Pop_eq omS x0 W).trans h)
noncomputable def heaps_Queueint_Push (call : Eng.Callee) (x0 x1 : Value) (W : AW) : Option (Value × AW) :=
  bnd (oMv (.int .i64 0) W) fun r1 =>
  bnd (oMv (.int .i64 0) r1.2) fun r2 =>
  bnd (oMv x0 r2.2) fun r3 =>
  bnd (call (fnV 54) [r3.1] r3.2) fun r4 =>
  bnd (oUn Try.prog .not r4.1 r4.2) fun r5 =>
  bnd (oMv r5.1 r5.2) fun r6 =>
  vIf r6.1 (
    bnd (oMv (.int .i64 0) r6.2) fun r7 =>
    bnd (oMv (.int .i64 1) r7.2) fun r8 =>
    oRes Try.prog [(r7.1, none), (r8.1, none)] r8.2) (
    bnd (oMv x0 r6.2) fun r9 =>
    bnd (oNilCheck r9.1 r9.2) fun r10 =>
    bnd (faO 0 r10.1 r10.2) fun r11 =>
    bnd (faO 0 r11.1 r11.2) fun r12 =>
    bnd (ldC r12.1 r12.2) fun r13 =>
    bnd (oBuiltin Try.prog .len #[104] 3 #[false] [r13.1] r13.2) fun r14 =>
    bnd (oBin Try.prog .geq 3 false true r14.1 (.int .i64 5000) r14.2) fun r15 =>
    bnd (oMv r15.1 r15.2) fun r16 =>
    bnd (bIf (wnt r16.1 false) (oMv x0 r16.2) (some (undef, r16.2))) fun r17 =>
    bnd (bIf (wnt r16.1 false) (oNilCheck r17.1 r17.2) (some (undef, r17.2))) fun r18 =>
    bnd (bIf (wnt r16.1 false) (faO 3 r18.1 r18.2) (some (undef, r18.2))) fun r19 =>
    bnd (bIf (wnt r16.1 false) (ldC r19.1 r19.2) (some (undef, r19.2))) fun r20 =>
    bnd (bIf (wnt r16.1 false) (oBin Try.prog .geq 2 false true r20.1 (.int .i64 1000000000000000) r20.2) (some (undef, r20.2))) fun r21 =>
    bnd (oPick r16.1 (.bool true) r21.1 r21.2) fun r22 =>
    bnd (oMv r22.1 r22.2) fun r23 =>
    vIf r23.1 (
      bnd (oMv (.int .i64 0) r23.2) fun r24 =>
      bnd (oMv (.int .i64 5) r24.2) fun r25 =>
      oRes Try.prog [(r24.1, none), (r25.1, none)] r25.2) (
      bnd (oMv x0 r23.2) fun r26 =>
      bnd (oNilCheck r26.1 r26.2) fun r27 =>
      bnd (faO 3 r27.1 r27.2) fun r28 =>
      bnd (ldC r28.1 r28.2) fun r29 =>
      bnd (oMv x1 r29.2) fun r30 =>
      bnd (oBuild Try.prog 132 [(0, r29.1), (1, r30.1)] r30.2) fun r31 =>
      bnd (oBox r31.1 r31.2) fun r32 =>
      bnd (oMv r32.1 r32.2) fun r33 =>
      bnd (oMv x0 r33.2) fun r34 =>
      bnd (oNilCheck r34.1 r34.2) fun r35 =>
      bnd (faO 3 r35.1 r35.2) fun r36 =>
      bnd (ldC r36.1 r36.2) fun r37 =>
      bnd (oBin Try.prog .add 2 false true r37.1 (.int .i64 1) r37.2) fun r38 =>
      bnd (oNilCheck r34.1 r38.2) fun r39 =>
      bnd (faO 3 r39.1 r39.2) fun r40 =>
      bnd (stV 1 r40.1 r38.1 r40.2) fun r41 =>
      bnd (oMv x0 r41.2) fun r42 =>
      bnd (oNilCheck r42.1 r42.2) fun r43 =>
      bnd (faO 2 r43.1 r43.2) fun r44 =>
      bnd (ldC r44.1 r44.2) fun r45 =>
      bnd (oMv r33.1 r45.2) fun r46 =>
      bnd (oNilCheck r46.1 r46.2) fun r47 =>
      bnd (faO 0 r47.1 r47.2) fun r48 =>
      bnd (ldC r48.1 r48.2) fun r49 =>
      bnd (oMv r33.1 r49.2) fun r50 =>
      bnd (oMapUpdate Try.prog 107 r45.1 r49.1 r50.1 r50.2) fun r51 =>
      bnd (oMv x0 r51.2) fun r52 =>
      bnd (oNilCheck r52.1 r52.2) fun r53 =>
      bnd (faO 0 r53.1 r53.2) fun r54 =>
      bnd (oMkIface Try.prog 103 r54.1 r54.2) fun r55 =>
      bnd (oMv r33.1 r55.2) fun r56 =>
      bnd (oMkIface Try.prog 127 r56.1 r56.2) fun r57 =>
      bnd (call (fnV 70) [r55.1, r57.1] r57.2) fun r58 =>
      bnd (oMv r33.1 r58.2) fun r59 =>
      bnd (oNilCheck r59.1 r59.2) fun r60 =>
      bnd (faO 0 r60.1 r60.2) fun r61 =>
      bnd (ldC r61.1 r61.2) fun r62 =>
      bnd (oMv r62.1 r62.2) fun r63 =>
      bnd (oMv (.int .i64 0) r63.2) fun r64 =>
      oRes Try.prog [(r63.1, none), (r64.1, none)] r64.2))
theorem heaps_Queueint_Push_eq (call : Eng.Callee) (x0 x1 : Value) (W : AW) : kFun Try.prog call 60 (cod 25) (rss 25) [x0, x1] W = heaps_Queueint_Push call x0 x1 W := by kernel_rfl
theorem heaps_Queueint_Push_om {x0 x1 : Value} {W : AW} {r : Value × AW} (h : heaps_Queueint_Push omS x0 x1 W = some r) : omS (.func (.func 25) #[] #[]) [x0, x1] W = some (gc W r) := om_of (nt := 60) (n := 2) (by kernel_rfl) (by kernel_rfl) rfl ((heaps_Queueint_Push_eq omS x0 x1 W).trans h)
noncomputable def law06_less (call : Eng.Callee) (x0 x1 : Value) (W : AW) : Option (Value × AW) :=
  bnd (oMv (.bool false) W) fun r1 =>
  bnd (oMv x0 r1.2) fun r2 =>
  bnd (oMv x1 r2.2) fun r3 =>
  bnd (oBin Try.prog .lss 3 false false r2.1 r3.1 r3.2) fun r4 =>
  bnd (oMv r4.1 r4.2) fun r5 =>
  oRes Try.prog [(r5.1, none)] r5.2
theorem law06_less_eq (call : Eng.Callee) (x0 x1 : Value) (W : AW) : kFun Try.prog call 8 (cod 35) (rss 35) [x0, x1] W = law06_less call x0 x1 W := by kernel_rfl
theorem law06_less_om {x0 x1 : Value} {W : AW} {r : Value × AW} (h : law06_less omS x0 x1 W = some r) : omS (.func (.func 35) #[] #[]) [x0, x1] W = some (gc W r) := om_of (nt := 8) (n := 2) (by kernel_rfl) (by kernel_rfl) rfl ((law06_less_eq omS x0 x1 W).trans h)
theorem law06_less_om1 {x0 x1 : Value} {W : AW} {r : Value × AW} (h : law06_less om1 x0 x1 W = some r) : om1 (.func (.func 35) #[] #[]) [x0, x1] W = some (gc W r) := om_of (nt := 8) (n := 2) (by kernel_rfl) (by kernel_rfl) rfl ((law06_less_eq om1 x0 x1 W).trans h)
noncomputable def heaps_Newint (call : Eng.Callee) (x0 : Value) (W : AW) : Option (Value × AW) :=
  bnd (oMv (.pointer none) W) fun r1 =>
  bnd (oMv x0 r1.2) fun r2 =>
  bnd (oBin Try.prog .eql 26 false true r2.1 .nilFunc r2.2) fun r3 =>
  vIf r3.1 (
    bnd (oMv (.pointer none) r3.2) fun r4 =>
    oRes Try.prog [(r4.1, none)] r4.2) (
    bnd (oMv x0 r3.2) fun r5 =>
    bnd (oBuild Try.prog 106 [(1, r5.1)] r5.2) fun r6 =>
    bnd (oMkMap Try.prog 107 none r6.2) fun r7 =>
    bnd (oBuild Try.prog 109 [(0, r6.1), (1, r7.1), (2, (.int .i64 1))] r7.2) fun r8 =>
    bnd (oBox r8.1 r8.2) fun r9 =>
    bnd (oMv r9.1 r9.2) fun r10 =>
    oRes Try.prog [(r10.1, none)] r10.2)
theorem heaps_Newint_eq (call : Eng.Callee) (x0 : Value) (W : AW) : kFun Try.prog call 10 (cod 38) (rss 38) [x0] W = heaps_Newint call x0 W := by kernel_rfl
theorem heaps_Newint_om {x0 : Value} {W : AW} {r : Value × AW} (h : heaps_Newint omS x0 W = some r) : omS (.func (.func 38) #[] #[]) [x0] W = some (gc W r) := om_of (nt := 10) (n := 1) (by kernel_rfl) (by kernel_rfl) rfl ((heaps_Newint_eq omS x0 W).trans h)
noncomputable def heaps_Queueint_Peek (call : Eng.Callee) (x0 : Value) (W : AW) : Option (Value × AW) :=
  bnd (oMv (.int .i64 0) W) fun r1 =>
  bnd (oMv (.int .i64 0) r1.2) fun r2 =>
  bnd (oMv (.int .i64 0) r2.2) fun r3 =>
  bnd (oMv x0 r3.2) fun r4 =>
  bnd (call (fnV 54) [r4.1] r4.2) fun r5 =>
  bnd (oUn Try.prog .not r5.1 r5.2) fun r6 =>
  bnd (oMv r6.1 r6.2) fun r7 =>
  vIf r7.1 (
    bnd (oMv r2.1 r7.2) fun r8 =>
    bnd (oMv (.int .i64 0) r8.2) fun r9 =>
    bnd (oMv r8.1 r9.2) fun r10 =>
    bnd (oMv (.int .i64 1) r10.2) fun r11 =>
    oRes Try.prog [(r9.1, none), (r10.1, none), (r11.1, none)] r11.2) (
    bnd (oMv x0 r7.2) fun r12 =>
    bnd (oNilCheck r12.1 r12.2) fun r13 =>
    bnd (faO 0 r13.1 r13.2) fun r14 =>
    bnd (faO 0 r14.1 r14.2) fun r15 =>
    bnd (ldC r15.1 r15.2) fun r16 =>
    bnd (oBuiltin Try.prog .len #[104] 3 #[false] [r16.1] r16.2) fun r17 =>
    bnd (oBin Try.prog .eql 3 false true r17.1 (.int .i64 0) r17.2) fun r18 =>
    bnd (oMv r18.1 r18.2) fun r19 =>
    vIf r19.1 (
      bnd (oMv r2.1 r19.2) fun r20 =>
      bnd (oMv (.int .i64 0) r20.2) fun r21 =>
      bnd (oMv r20.1 r21.2) fun r22 =>
      bnd (oMv (.int .i64 4) r22.2) fun r23 =>
      oRes Try.prog [(r21.1, none), (r22.1, none), (r23.1, none)] r23.2) (
      bnd (oMv x0 r19.2) fun r24 =>
      bnd (oNilCheck r24.1 r24.2) fun r25 =>
      bnd (faO 0 r25.1 r25.2) fun r26 =>
      bnd (faO 0 r26.1 r26.2) fun r27 =>
      bnd (ldC r27.1 r27.2) fun r28 =>
      bnd (ixS 1 r28.1 (.int .i64 0) r28.2) fun r29 =>
      bnd (ldC r29.1 r29.2) fun r30 =>
      bnd (oMv r30.1 r30.2) fun r31 =>
      bnd (oMv r31.1 r31.2) fun r32 =>
      bnd (oNilCheck r32.1 r32.2) fun r33 =>
      bnd (faO 0 r33.1 r33.2) fun r34 =>
      bnd (ldC r34.1 r34.2) fun r35 =>
      bnd (oMv r31.1 r35.2) fun r36 =>
      bnd (oNilCheck r36.1 r36.2) fun r37 =>
      bnd (faO 1 r37.1 r37.2) fun r38 =>
      bnd (ldC r38.1 r38.2) fun r39 =>
      bnd (oMv r35.1 r39.2) fun r40 =>
      bnd (oMv r39.1 r40.2) fun r41 =>
      bnd (oMv (.int .i64 0) r41.2) fun r42 =>
      oRes Try.prog [(r40.1, none), (r41.1, none), (r42.1, none)] r42.2))
theorem heaps_Queueint_Peek_eq (call : Eng.Callee) (x0 : Value) (W : AW) : kFun Try.prog call 35 (cod 51) (rss 51) [x0] W = heaps_Queueint_Peek call x0 W := by kernel_rfl
theorem heaps_Queueint_Peek_om {x0 : Value} {W : AW} {r : Value × AW} (h : heaps_Queueint_Peek omS x0 W = some r) : omS (.func (.func 51) #[] #[]) [x0] W = some (gc W r) := om_of (nt := 35) (n := 1) (by kernel_rfl) (by kernel_rfl) rfl ((heaps_Queueint_Peek_eq omS x0 W).trans h)
noncomputable def law06_tens (call : Eng.Callee) (x0 x1 : Value) (W : AW) : Option (Value × AW) :=
  bnd (oMv (.bool false) W) fun r1 =>
  bnd (oMv x0 r1.2) fun r2 =>
  bnd (oBuiltin Try.prog .max #[3, 3] 3 #[false, true] [r2.1, (.int .i64 0)] r2.2) fun r3 =>
  bnd (oBin Try.prog .rem 3 false true r3.1 (.int .i64 10) r3.2) fun r4 =>
  bnd (oMv x1 r4.2) fun r5 =>
  bnd (oBuiltin Try.prog .max #[3, 3] 3 #[false, true] [r5.1, (.int .i64 0)] r5.2) fun r6 =>
  bnd (oBin Try.prog .rem 3 false true r6.1 (.int .i64 10) r6.2) fun r7 =>
  bnd (oBin Try.prog .gtr 3 false false r4.1 r7.1 r7.2) fun r8 =>
  bnd (oMv r8.1 r8.2) fun r9 =>
  oRes Try.prog [(r9.1, none)] r9.2
theorem law06_tens_eq (call : Eng.Callee) (x0 x1 : Value) (W : AW) : kFun Try.prog call 12 (cod 52) (rss 52) [x0, x1] W = law06_tens call x0 x1 W := by kernel_rfl
theorem law06_tens_om {x0 x1 : Value} {W : AW} {r : Value × AW} (h : law06_tens omS x0 x1 W = some r) : omS (.func (.func 52) #[] #[]) [x0, x1] W = some (gc W r) := om_of (nt := 12) (n := 2) (by kernel_rfl) (by kernel_rfl) rfl ((law06_tens_eq omS x0 x1 W).trans h)
theorem law06_tens_om1 {x0 x1 : Value} {W : AW} {r : Value × AW} (h : law06_tens om1 x0 x1 W = some r) : om1 (.func (.func 52) #[] #[]) [x0, x1] W = some (gc W r) := om_of (nt := 12) (n := 2) (by kernel_rfl) (by kernel_rfl) rfl ((law06_tens_eq om1 x0 x1 W).trans h)
noncomputable def containerheap_Pop (call : Eng.Callee) (x0 : Value) (W : AW) : Option (Value × AW) :=
  bnd (oMv .nilIface W) fun r1 =>
  bnd (oMv x0 r1.2) fun r2 =>
  bnd (oInvoke Try.prog call r2.1 "Len" [] r2.2) fun r3 =>
  bnd (oBin Try.prog .sub 3 false true r3.1 (.int .i64 1) r3.2) fun r4 =>
  bnd (oMv r4.1 r4.2) fun r5 =>
  bnd (oMv x0 r5.2) fun r6 =>
  bnd (oMv r5.1 r6.2) fun r7 =>
  bnd (oInvoke Try.prog call r6.1 "Swap" [(.int .i64 0), r7.1] r7.2) fun r8 =>
  bnd (oMv x0 r8.2) fun r9 =>
  bnd (oMv r5.1 r9.2) fun r10 =>
  bnd (call (fnV 94) [r9.1, (.int .i64 0), r10.1] r10.2) fun r11 =>
  bnd (oMv x0 r11.2) fun r12 =>
  bnd (oInvoke Try.prog call r12.1 "Pop" [] r12.2) fun r13 =>
  bnd (oMv r13.1 r13.2) fun r14 =>
  oRes Try.prog [(r14.1, none)] r14.2
theorem containerheap_Pop_eq (call : Eng.Callee) (x0 : Value) (W : AW) : kFun Try.prog call 15 (cod 53) (rss 53) [x0] W = containerheap_Pop call x0 W := by kernel_rfl
theorem containerheap_Pop_om {x0 : Value} {W : AW} {r : Value × AW} (h : containerheap_Pop omS x0 W = some r) : omS (.func (.func 53) #[] #[]) [x0] W = some (gc W r) := om_of (nt := 15) (n := 1) (by kernel_rfl) (by kernel_rfl) rfl ((containerheap_Pop_eq omS x0 W).trans h)
noncomputable def heaps_Queueint_made (call : Eng.Callee) (x0 : Value) (W : AW) : Option (Value × AW) :=
  bnd (oMv (.bool false) W) fun r1 =>
  bnd (oMv x0 r1.2) fun r2 =>
  bnd (oBin Try.prog .neq 24 false true r2.1 (.pointer none) r2.2) fun r3 =>
  bnd (oMv r3.1 r3.2) fun r4 =>
  bnd (bIf (wnt r4.1 true) (oMv x0 r4.2) (some (undef, r4.2))) fun r5 =>
  bnd (bIf (wnt r4.1 true) (oNilCheck r5.1 r5.2) (some (undef, r5.2))) fun r6 =>
  bnd (bIf (wnt r4.1 true) (faO 2 r6.1 r6.2) (some (undef, r6.2))) fun r7 =>
  bnd (bIf (wnt r4.1 true) (ldC r7.1 r7.2) (some (undef, r7.2))) fun r8 =>
  bnd (bIf (wnt r4.1 true) (oBin Try.prog .neq 107 false true r8.1 (.map none) r8.2) (some (undef, r8.2))) fun r9 =>
  bnd (oPick r4.1 r9.1 (.bool false) r9.2) fun r10 =>
  bnd (oMv r10.1 r10.2) fun r11 =>
  oRes Try.prog [(r11.1, none)] r11.2
theorem heaps_Queueint_made_eq (call : Eng.Callee) (x0 : Value) (W : AW) : kFun Try.prog call 12 (cod 54) (rss 54) [x0] W = heaps_Queueint_made call x0 W := by kernel_rfl
theorem heaps_Queueint_made_om {x0 : Value} {W : AW} {r : Value × AW} (h : heaps_Queueint_made omS x0 W = some r) : omS (.func (.func 54) #[] #[]) [x0] W = some (gc W r) := om_of (nt := 12) (n := 1) (by kernel_rfl) (by kernel_rfl) rfl ((heaps_Queueint_made_eq omS x0 W).trans h)
noncomputable def containerheap_Push (call : Eng.Callee) (x0 x1 : Value) (W : AW) : Option (Value × AW) :=
  bnd (oMv x0 W) fun r1 =>
  bnd (oMv x1 r1.2) fun r2 =>
  bnd (oInvoke Try.prog call r1.1 "Push" [r2.1] r2.2) fun r3 =>
  bnd (oMv x0 r3.2) fun r4 =>
  bnd (oMv x0 r4.2) fun r5 =>
  bnd (oInvoke Try.prog call r5.1 "Len" [] r5.2) fun r6 =>
  bnd (oBin Try.prog .sub 3 false true r6.1 (.int .i64 1) r6.2) fun r7 =>
  bnd (call (fnV 104) [r4.1, r7.1] r7.2) fun r8 =>
  oRes Try.prog [] r8.2
theorem containerheap_Push_eq (call : Eng.Callee) (x0 x1 : Value) (W : AW) : kFun Try.prog call 12 (cod 70) (rss 70) [x0, x1] W = containerheap_Push call x0 x1 W := by kernel_rfl
theorem containerheap_Push_om {x0 x1 : Value} {W : AW} {r : Value × AW} (h : containerheap_Push omS x0 x1 W = some r) : omS (.func (.func 70) #[] #[]) [x0, x1] W = some (gc W r) := om_of (nt := 12) (n := 2) (by kernel_rfl) (by kernel_rfl) rfl ((containerheap_Push_eq omS x0 x1 W).trans h)
noncomputable def heaps_pileint_Less (call : Eng.Callee) (x0 x1 x2 : Value) (W : AW) : Option (Value × AW) :=
  bnd (oMv (.bool false) W) fun r1 =>
  bnd (oMv x0 r1.2) fun r2 =>
  bnd (oMv x0 r2.2) fun r3 =>
  bnd (oNilCheck r3.1 r3.2) fun r4 =>
  bnd (faO 0 r4.1 r4.2) fun r5 =>
  bnd (ldC r5.1 r5.2) fun r6 =>
  bnd (oMv x1 r6.2) fun r7 =>
  bnd (ixS 1 r6.1 r7.1 r7.2) fun r8 =>
  bnd (ldC r8.1 r8.2) fun r9 =>
  bnd (oMv x0 r9.2) fun r10 =>
  bnd (oNilCheck r10.1 r10.2) fun r11 =>
  bnd (faO 0 r11.1 r11.2) fun r12 =>
  bnd (ldC r12.1 r12.2) fun r13 =>
  bnd (oMv x2 r13.2) fun r14 =>
  bnd (ixS 1 r13.1 r14.1 r14.2) fun r15 =>
  bnd (ldC r15.1 r15.2) fun r16 =>
  bnd (call (fnV 103) [r2.1, r9.1, r16.1] r16.2) fun r17 =>
  bnd (oMv r17.1 r17.2) fun r18 =>
  oRes Try.prog [(r18.1, none)] r18.2
theorem heaps_pileint_Less_eq (call : Eng.Callee) (x0 x1 x2 : Value) (W : AW) : kFun Try.prog call 23 (cod 73) (rss 73) [x0, x1, x2] W = heaps_pileint_Less call x0 x1 x2 W := by kernel_rfl
theorem heaps_pileint_Less_om {x0 x1 x2 : Value} {W : AW} {r : Value × AW} (h : heaps_pileint_Less omS x0 x1 x2 W = some r) : omS (.func (.func 73) #[] #[]) [x0, x1, x2] W = some (gc W r) := om_of (nt := 23) (n := 3) (by kernel_rfl) (by kernel_rfl) rfl ((heaps_pileint_Less_eq omS x0 x1 x2 W).trans h)
noncomputable def containerheap_down_L1 (call : Eng.Callee) (R : Nat → Value) (W : AW) : Option LT :=
  bnd (oMv (R 7) W) fun r4 =>
  bnd (oBin Try.prog .mul 3 true false (.int .i64 2) r4.1 r4.2) fun r5 =>
  bnd (oBin Try.prog .add 3 false true r5.1 (.int .i64 1) r5.2) fun r6 =>
  bnd (oMv r6.1 r6.2) fun r7 =>
  bnd (oMv r7.1 r7.2) fun r8 =>
  bnd (oMv (R 2) r8.2) fun r9 =>
  bnd (oBin Try.prog .geq 3 false false r8.1 r9.1 r9.2) fun r10 =>
  bnd (oMv r10.1 r10.2) fun r11 =>
  bnd (bIf (wnt r11.1 false) (oMv r7.1 r11.2) (some (undef, r11.2))) fun r12 =>
  bnd (bIf (wnt r11.1 false) (oBin Try.prog .lss 3 false true r12.1 (.int .i64 0) r12.2) (some (undef, r12.2))) fun r13 =>
  bnd (oPick r11.1 (.bool true) r13.1 r13.2) fun r14 =>
  vIf r14.1 (
    some (X.exit 0, (rput (rput (rput (rput (rput (rput (rput (rput (rput (rput (rput R (some 12) r4.1) (some 13) r5.1) (some 14) r6.1) (some 8) r7.1) (some 15) r8.1) (some 16) r9.1) (some 17) r10.1) (some 18) r11.1) (some 19) r12.1) (some 20) r13.1) (some 21) r14.1), r14.2)) (
    bnd (oMv r7.1 r14.2) fun r15 =>
    bnd (oMv r15.1 r15.2) fun r16 =>
    bnd (oMv r7.1 r16.2) fun r17 =>
    bnd (oBin Try.prog .add 3 false true r17.1 (.int .i64 1) r17.2) fun r18 =>
    bnd (oMv r18.1 r18.2) fun r19 =>
    bnd (oMv r19.1 r19.2) fun r20 =>
    bnd (oMv (R 2) r20.2) fun r21 =>
    bnd (oBin Try.prog .lss 3 false false r20.1 r21.1 r21.2) fun r22 =>
    bnd (oMv r22.1 r22.2) fun r23 =>
    bnd (bIf (wnt r23.1 true) (oMv (R 0) r23.2) (some (undef, r23.2))) fun r24 =>
    bnd (bIf (wnt r23.1 true) (oMv r19.1 r24.2) (some (undef, r24.2))) fun r25 =>
    bnd (bIf (wnt r23.1 true) (oMv r7.1 r25.2) (some (undef, r25.2))) fun r26 =>
    bnd (bIf (wnt r23.1 true) (oInvoke Try.prog call r24.1 "Less" [r25.1, r26.1] r26.2) (some (undef, r26.2))) fun r27 =>
    bnd (oPick r23.1 r27.1 (.bool false) r27.2) fun r28 =>
    vIf r28.1 (
      bnd (oMv r19.1 r28.2) fun r29 =>
      bnd (oMv r29.1 r29.2) fun r30 =>
      bnd (oMv (R 0) r30.2) fun r31 =>
      bnd (oMv r30.1 r31.2) fun r32 =>
      bnd (oMv (R 7) r32.2) fun r33 =>
      bnd (oInvoke Try.prog call r31.1 "Less" [r32.1, r33.1] r33.2) fun r34 =>
      bnd (oUn Try.prog .not r34.1 r34.2) fun r35 =>
      vIf r35.1 (
        some (X.exit 0, (rput (rput (rput (rput (rput (rput (rput (rput (rput (rput (rput (rput (rput (rput (rput (rput (rput (rput (rput (rput (rput (rput (rput (rput (rput (rput (rput (rput (rput (rput (rput (rput R (some 12) r4.1) (some 13) r5.1) (some 14) r6.1) (some 8) r7.1) (some 15) r8.1) (some 16) r9.1) (some 17) r10.1) (some 18) r11.1) (some 19) r12.1) (some 20) r13.1) (some 21) r14.1) (some 22) r15.1) (some 9) r16.1) (some 23) r17.1) (some 24) r18.1) (some 10) r19.1) (some 25) r20.1) (some 26) r21.1) (some 27) r22.1) (some 28) r23.1) (some 29) r24.1) (some 30) r25.1) (some 31) r26.1) (some 32) r27.1) (some 33) r28.1) (some 34) r29.1) (some 9) r30.1) (some 35) r31.1) (some 36) r32.1) (some 37) r33.1) (some 38) r34.1) (some 39) r35.1), r35.2)) (
        bnd (oMv (R 0) r35.2) fun r36 =>
        bnd (oMv (R 7) r36.2) fun r37 =>
        bnd (oMv r30.1 r37.2) fun r38 =>
        bnd (oInvoke Try.prog call r36.1 "Swap" [r37.1, r38.1] r38.2) fun r39 =>
        bnd (oMv r30.1 r39.2) fun r40 =>
        bnd (oMv r40.1 r40.2) fun r41 =>
        some (X.normal, (rput (rput (rput (rput (rput (rput (rput (rput (rput (rput (rput (rput (rput (rput (rput (rput (rput (rput (rput (rput (rput (rput (rput (rput (rput (rput (rput (rput (rput (rput (rput (rput (rput (rput (rput (rput (rput (rput R (some 12) r4.1) (some 13) r5.1) (some 14) r6.1) (some 8) r7.1) (some 15) r8.1) (some 16) r9.1) (some 17) r10.1) (some 18) r11.1) (some 19) r12.1) (some 20) r13.1) (some 21) r14.1) (some 22) r15.1) (some 9) r16.1) (some 23) r17.1) (some 24) r18.1) (some 10) r19.1) (some 25) r20.1) (some 26) r21.1) (some 27) r22.1) (some 28) r23.1) (some 29) r24.1) (some 30) r25.1) (some 31) r26.1) (some 32) r27.1) (some 33) r28.1) (some 34) r29.1) (some 9) r30.1) (some 35) r31.1) (some 36) r32.1) (some 37) r33.1) (some 38) r34.1) (some 39) r35.1) (some 40) r36.1) (some 41) r37.1) (some 42) r38.1) (some 43) r39.1) (some 44) r40.1) (some 7) r41.1), r41.2))) (
      bnd (oMv (R 0) r28.2) fun r42 =>
      bnd (oMv r16.1 r42.2) fun r43 =>
      bnd (oMv (R 7) r43.2) fun r44 =>
      bnd (oInvoke Try.prog call r42.1 "Less" [r43.1, r44.1] r44.2) fun r45 =>
      bnd (oUn Try.prog .not r45.1 r45.2) fun r46 =>
      vIf r46.1 (
        some (X.exit 0, (rput (rput (rput (rput (rput (rput (rput (rput (rput (rput (rput (rput (rput (rput (rput (rput (rput (rput (rput (rput (rput (rput (rput (rput (rput (rput (rput (rput (rput (rput R (some 12) r4.1) (some 13) r5.1) (some 14) r6.1) (some 8) r7.1) (some 15) r8.1) (some 16) r9.1) (some 17) r10.1) (some 18) r11.1) (some 19) r12.1) (some 20) r13.1) (some 21) r14.1) (some 22) r15.1) (some 9) r16.1) (some 23) r17.1) (some 24) r18.1) (some 10) r19.1) (some 25) r20.1) (some 26) r21.1) (some 27) r22.1) (some 28) r23.1) (some 29) r24.1) (some 30) r25.1) (some 31) r26.1) (some 32) r27.1) (some 33) r28.1) (some 35) r42.1) (some 36) r43.1) (some 37) r44.1) (some 38) r45.1) (some 39) r46.1), r46.2)) (
        bnd (oMv (R 0) r46.2) fun r47 =>
        bnd (oMv (R 7) r47.2) fun r48 =>
        bnd (oMv r16.1 r48.2) fun r49 =>
        bnd (oInvoke Try.prog call r47.1 "Swap" [r48.1, r49.1] r49.2) fun r50 =>
        bnd (oMv r16.1 r50.2) fun r51 =>
        bnd (oMv r51.1 r51.2) fun r52 =>
        some (X.normal, (rput (rput (rput (rput (rput (rput (rput (rput (rput (rput (rput (rput (rput (rput (rput (rput (rput (rput (rput (rput (rput (rput (rput (rput (rput (rput (rput (rput (rput (rput (rput (rput (rput (rput (rput (rput R (some 12) r4.1) (some 13) r5.1) (some 14) r6.1) (some 8) r7.1) (some 15) r8.1) (some 16) r9.1) (some 17) r10.1) (some 18) r11.1) (some 19) r12.1) (some 20) r13.1) (some 21) r14.1) (some 22) r15.1) (some 9) r16.1) (some 23) r17.1) (some 24) r18.1) (some 10) r19.1) (some 25) r20.1) (some 26) r21.1) (some 27) r22.1) (some 28) r23.1) (some 29) r24.1) (some 30) r25.1) (some 31) r26.1) (some 32) r27.1) (some 33) r28.1) (some 35) r42.1) (some 36) r43.1) (some 37) r44.1) (some 38) r45.1) (some 39) r46.1) (some 40) r47.1) (some 41) r48.1) (some 42) r49.1) (some 43) r50.1) (some 44) r51.1) (some 7) r52.1), r52.2))))
noncomputable def containerheap_down (call : Eng.Callee) (x0 x1 x2 : Value) (W : AW) : Option (Value × AW) :=
  bnd (oMv (.bool false) W) fun r1 =>
  bnd (oMv x1 r1.2) fun r2 =>
  bnd (oMv r2.1 r2.2) fun r3 =>
  bnd (loopO (containerheap_down_L1 call) (rput (rput (rput (argGo 0 [x0, x1, x2] PlanTab.blank) (some 6) r1.1) (some 11) r2.1) (some 7) r3.1) r3.2) fun r53 =>
  kExit 0 r53.1 (
    bnd (oMv (r53.2.1 7) r53.2.2) fun r54 =>
    bnd (oMv (r53.2.1 1) r54.2) fun r55 =>
    bnd (oBin Try.prog .gtr 3 false false r54.1 r55.1 r55.2) fun r56 =>
    bnd (oMv r56.1 r56.2) fun r57 =>
    oRes Try.prog [(r57.1, none)] r57.2) (none)
theorem containerheap_down_eq (call : Eng.Callee) (x0 x1 x2 : Value) (W : AW) : kFun Try.prog call 48 (cod 94) (rss 94) [x0, x1, x2] W = containerheap_down call x0 x1 x2 W := by kernel_rfl
theorem containerheap_down_om {x0 x1 x2 : Value} {W : AW} {r : Value × AW} (h : containerheap_down omS x0 x1 x2 W = some r) : omS (.func (.func 94) #[] #[]) [x0, x1, x2] W = some (gc W r) := om_of (nt := 48) (n := 3) (by kernel_rfl) (by kernel_rfl) rfl ((containerheap_down_eq omS x0 x1 x2 W).trans h)
noncomputable def heaps_pileint_before (call : Eng.Callee) (x0 x1 x2 : Value) (W : AW) : Option (Value × AW) :=
  bnd (oMv (.bool false) W) fun r1 =>
  bnd (oMv x0 r1.2) fun r2 =>
  bnd (oNilCheck r2.1 r2.2) fun r3 =>
  bnd (faO 1 r3.1 r3.2) fun r4 =>
  bnd (ldC r4.1 r4.2) fun r5 =>
  bnd (oMv x1 r5.2) fun r6 =>
  bnd (oNilCheck r6.1 r6.2) fun r7 =>
  bnd (faO 1 r7.1 r7.2) fun r8 =>
  bnd (ldC r8.1 r8.2) fun r9 =>
  bnd (oMv x2 r9.2) fun r10 =>
  bnd (oNilCheck r10.1 r10.2) fun r11 =>
  bnd (faO 1 r11.1 r11.2) fun r12 =>
  bnd (ldC r12.1 r12.2) fun r13 =>
  bnd (call r5.1 [r9.1, r13.1] r13.2) fun r14 =>
  bnd (oMv r14.1 r14.2) fun r15 =>
  vIf r15.1 (
    bnd (oMv (.bool true) r15.2) fun r16 =>
    oRes Try.prog [(r16.1, none)] r16.2) (
    bnd (oMv x0 r15.2) fun r17 =>
    bnd (oNilCheck r17.1 r17.2) fun r18 =>
    bnd (faO 1 r18.1 r18.2) fun r19 =>
    bnd (ldC r19.1 r19.2) fun r20 =>
    bnd (oMv x2 r20.2) fun r21 =>
    bnd (oNilCheck r21.1 r21.2) fun r22 =>
    bnd (faO 1 r22.1 r22.2) fun r23 =>
    bnd (ldC r23.1 r23.2) fun r24 =>
    bnd (oMv x1 r24.2) fun r25 =>
    bnd (oNilCheck r25.1 r25.2) fun r26 =>
    bnd (faO 1 r26.1 r26.2) fun r27 =>
    bnd (ldC r27.1 r27.2) fun r28 =>
    bnd (call r20.1 [r24.1, r28.1] r28.2) fun r29 =>
    bnd (oMv r29.1 r29.2) fun r30 =>
    vIf r30.1 (
      bnd (oMv (.bool false) r30.2) fun r31 =>
      oRes Try.prog [(r31.1, none)] r31.2) (
      bnd (oMv x1 r30.2) fun r32 =>
      bnd (oNilCheck r32.1 r32.2) fun r33 =>
      bnd (faO 0 r33.1 r33.2) fun r34 =>
      bnd (ldC r34.1 r34.2) fun r35 =>
      bnd (oMv x2 r35.2) fun r36 =>
      bnd (oNilCheck r36.1 r36.2) fun r37 =>
      bnd (faO 0 r37.1 r37.2) fun r38 =>
      bnd (ldC r38.1 r38.2) fun r39 =>
      bnd (oBin Try.prog .lss 2 false false r35.1 r39.1 r39.2) fun r40 =>
      bnd (oMv r40.1 r40.2) fun r41 =>
      oRes Try.prog [(r41.1, none)] r41.2))
theorem heaps_pileint_before_eq (call : Eng.Callee) (x0 x1 x2 : Value) (W : AW) : kFun Try.prog call 44 (cod 103) (rss 103) [x0, x1, x2] W = heaps_pileint_before call x0 x1 x2 W := by kernel_rfl
theorem heaps_pileint_before_om {x0 x1 x2 : Value} {W : AW} {r : Value × AW} (h : heaps_pileint_before omS x0 x1 x2 W = some r) : omS (.func (.func 103) #[] #[]) [x0, x1, x2] W = some (gc W r) := om_of (nt := 44) (n := 3) (by kernel_rfl) (by kernel_rfl) rfl ((heaps_pileint_before_eq omS x0 x1 x2 W).trans h)
theorem heaps_pileint_before_om1 {x0 x1 x2 : Value} {W : AW} {r : Value × AW} (h : heaps_pileint_before om1 x0 x1 x2 W = some r) : om1 (.func (.func 103) #[] #[]) [x0, x1, x2] W = some (gc W r) := om_of (nt := 44) (n := 3) (by kernel_rfl) (by kernel_rfl) rfl ((heaps_pileint_before_eq om1 x0 x1 x2 W).trans h)
noncomputable def containerheap_up_L1 (call : Eng.Callee) (R : Nat → Value) (W : AW) : Option LT :=
  bnd (oMv (R 1) W) fun r1 =>
  bnd (oBin Try.prog .sub 3 false true r1.1 (.int .i64 1) r1.2) fun r2 =>
  bnd (oBin Try.prog .quo 3 false true r2.1 (.int .i64 2) r2.2) fun r3 =>
  bnd (oMv r3.1 r3.2) fun r4 =>
  bnd (oMv r4.1 r4.2) fun r5 =>
  bnd (oMv (R 1) r5.2) fun r6 =>
  bnd (oBin Try.prog .eql 3 false false r5.1 r6.1 r6.2) fun r7 =>
  bnd (oMv r7.1 r7.2) fun r8 =>
  bnd (bIf (wnt r8.1 false) (oMv (R 0) r8.2) (some (undef, r8.2))) fun r9 =>
  bnd (bIf (wnt r8.1 false) (oMv (R 1) r9.2) (some (undef, r9.2))) fun r10 =>
  bnd (bIf (wnt r8.1 false) (oMv r4.1 r10.2) (some (undef, r10.2))) fun r11 =>
  bnd (bIf (wnt r8.1 false) (oInvoke Try.prog call r9.1 "Less" [r10.1, r11.1] r11.2) (some (undef, r11.2))) fun r12 =>
  bnd (bIf (wnt r8.1 false) (oUn Try.prog .not r12.1 r12.2) (some (undef, r12.2))) fun r13 =>
  bnd (oPick r8.1 (.bool true) r13.1 r13.2) fun r14 =>
  vIf r14.1 (
    some (X.exit 0, (rput (rput (rput (rput (rput (rput (rput (rput (rput (rput (rput (rput (rput (rput R (some 5) r1.1) (some 6) r2.1) (some 7) r3.1) (some 4) r4.1) (some 8) r5.1) (some 9) r6.1) (some 10) r7.1) (some 11) r8.1) (some 12) r9.1) (some 13) r10.1) (some 14) r11.1) (some 15) r12.1) (some 16) r13.1) (some 17) r14.1), r14.2)) (
    bnd (oMv (R 0) r14.2) fun r15 =>
    bnd (oMv r4.1 r15.2) fun r16 =>
    bnd (oMv (R 1) r16.2) fun r17 =>
    bnd (oInvoke Try.prog call r15.1 "Swap" [r16.1, r17.1] r17.2) fun r18 =>
    bnd (oMv r4.1 r18.2) fun r19 =>
    bnd (oMv r19.1 r19.2) fun r20 =>
    some (X.normal, (rput (rput (rput (rput (rput (rput (rput (rput (rput (rput (rput (rput (rput (rput (rput (rput (rput (rput (rput (rput R (some 5) r1.1) (some 6) r2.1) (some 7) r3.1) (some 4) r4.1) (some 8) r5.1) (some 9) r6.1) (some 10) r7.1) (some 11) r8.1) (some 12) r9.1) (some 13) r10.1) (some 14) r11.1) (some 15) r12.1) (some 16) r13.1) (some 17) r14.1) (some 18) r15.1) (some 19) r16.1) (some 20) r17.1) (some 21) r18.1) (some 22) r19.1) (some 1) r20.1), r20.2))
noncomputable def containerheap_up (call : Eng.Callee) (x0 x1 : Value) (W : AW) : Option (Value × AW) :=
  bnd (loopO (containerheap_up_L1 call) (argGo 0 [x0, x1] PlanTab.blank) W) fun r21 =>
  kExit 0 r21.1 (
    oRes Try.prog [] r21.2.2) (none)
theorem containerheap_up_eq (call : Eng.Callee) (x0 x1 : Value) (W : AW) : kFun Try.prog call 23 (cod 104) (rss 104) [x0, x1] W = containerheap_up call x0 x1 W := by kernel_rfl
theorem containerheap_up_om {x0 x1 : Value} {W : AW} {r : Value × AW} (h : containerheap_up omS x0 x1 W = some r) : omS (.func (.func 104) #[] #[]) [x0, x1] W = some (gc W r) := om_of (nt := 23) (n := 2) (by kernel_rfl) (by kernel_rfl) rfl ((containerheap_up_eq omS x0 x1 W).trans h)
noncomputable def heaps_pileint_Len (call : Eng.Callee) (x0 : Value) (W : AW) : Option (Value × AW) :=
  bnd (oMv (.int .i64 0) W) fun r1 =>
  bnd (oMv x0 r1.2) fun r2 =>
  bnd (oNilCheck r2.1 r2.2) fun r3 =>
  bnd (faO 0 r3.1 r3.2) fun r4 =>
  bnd (ldC r4.1 r4.2) fun r5 =>
  bnd (oBuiltin Try.prog .len #[104] 3 #[false] [r5.1] r5.2) fun r6 =>
  bnd (oMv r6.1 r6.2) fun r7 =>
  oRes Try.prog [(r7.1, none)] r7.2
theorem heaps_pileint_Len_eq (call : Eng.Callee) (x0 : Value) (W : AW) : kFun Try.prog call 8 (cod 190) (rss 190) [x0] W = heaps_pileint_Len call x0 W := by kernel_rfl
theorem heaps_pileint_Len_om {x0 : Value} {W : AW} {r : Value × AW} (h : heaps_pileint_Len omS x0 W = some r) : omS (.func (.func 190) #[] #[]) [x0] W = some (gc W r) := om_of (nt := 8) (n := 1) (by kernel_rfl) (by kernel_rfl) rfl ((heaps_pileint_Len_eq omS x0 W).trans h)
noncomputable def heaps_pileint_Pop (call : Eng.Callee) (x0 : Value) (W : AW) : Option (Value × AW) :=
  bnd (oMv .nilIface W) fun r1 =>
  bnd (oMv x0 r1.2) fun r2 =>
  bnd (oNilCheck r2.1 r2.2) fun r3 =>
  bnd (faO 0 r3.1 r3.2) fun r4 =>
  bnd (ldC r4.1 r4.2) fun r5 =>
  bnd (oBuiltin Try.prog .len #[104] 3 #[false] [r5.1] r5.2) fun r6 =>
  bnd (oBin Try.prog .sub 3 false true r6.1 (.int .i64 1) r6.2) fun r7 =>
  bnd (oMv r7.1 r7.2) fun r8 =>
  bnd (oMv x0 r8.2) fun r9 =>
  bnd (oNilCheck r9.1 r9.2) fun r10 =>
  bnd (faO 0 r10.1 r10.2) fun r11 =>
  bnd (ldC r11.1 r11.2) fun r12 =>
  bnd (oMv r8.1 r12.2) fun r13 =>
  bnd (ixS 1 r12.1 r13.1 r13.2) fun r14 =>
  bnd (ldC r14.1 r14.2) fun r15 =>
  bnd (oMv r15.1 r15.2) fun r16 =>
  bnd (oMv x0 r16.2) fun r17 =>
  bnd (oNilCheck r17.1 r17.2) fun r18 =>
  bnd (faO 0 r18.1 r18.2) fun r19 =>
  bnd (ldC r19.1 r19.2) fun r20 =>
  bnd (oMv r8.1 r20.2) fun r21 =>
  bnd (ixS 1 r20.1 r21.1 r21.2) fun r22 =>
  bnd (stV 1 r22.1 (.pointer none) r22.2) fun r23 =>
  bnd (oMv x0 r23.2) fun r24 =>
  bnd (oMv x0 r24.2) fun r25 =>
  bnd (oNilCheck r25.1 r25.2) fun r26 =>
  bnd (faO 0 r26.1 r26.2) fun r27 =>
  bnd (ldC r27.1 r27.2) fun r28 =>
  bnd (oMv r8.1 r28.2) fun r29 =>
  bnd (oSlice Try.prog 104 r28.1 none (some r29.1) none r29.2) fun r30 =>
  bnd (oNilCheck r24.1 r30.2) fun r31 =>
  bnd (faO 0 r31.1 r31.2) fun r32 =>
  bnd (stV 1 r32.1 r30.1 r32.2) fun r33 =>
  bnd (oMv r16.1 r33.2) fun r34 =>
  bnd (oMkIface Try.prog 127 r34.1 r34.2) fun r35 =>
  bnd (oMv r35.1 r35.2) fun r36 =>
  oRes Try.prog [(r36.1, none)] r36.2
theorem heaps_pileint_Pop_eq (call : Eng.Callee) (x0 : Value) (W : AW) : kFun Try.prog call 35 (cod 191) (rss 191) [x0] W = heaps_pileint_Pop call x0 W := by kernel_rfl
theorem heaps_pileint_Pop_om {x0 : Value} {W : AW} {r : Value × AW} (h : heaps_pileint_Pop omS x0 W = some r) : omS (.func (.func 191) #[] #[]) [x0] W = some (gc W r) := om_of (nt := 35) (n := 1) (by kernel_rfl) (by kernel_rfl) rfl ((heaps_pileint_Pop_eq omS x0 W).trans h)
noncomputable def heaps_pileint_Push (call : Eng.Callee) (x0 x1 : Value) (W : AW) : Option (Value × AW) :=
  bnd (oMv x1 W) fun r1 =>
  bnd (oAssert Try.prog r1.1 127 false r1.2) fun r2 =>
  bnd (oMv r2.1 r2.2) fun r3 =>
  bnd (oMv r3.1 r3.2) fun r4 =>
  bnd (oMv x0 r4.2) fun r5 =>
  bnd (oNilCheck r5.1 r5.2) fun r6 =>
  bnd (faO 0 r6.1 r6.2) fun r7 =>
  bnd (ldC r7.1 r7.2) fun r8 =>
  bnd (oBuiltin Try.prog .len #[104] 3 #[false] [r8.1] r8.2) fun r9 =>
  bnd (oNilCheck r4.1 r9.2) fun r10 =>
  bnd (faO 2 r10.1 r10.2) fun r11 =>
  bnd (stV 1 r11.1 r9.1 r11.2) fun r12 =>
  bnd (oMv x0 r12.2) fun r13 =>
  bnd (oMv x0 r13.2) fun r14 =>
  bnd (oNilCheck r14.1 r14.2) fun r15 =>
  bnd (faO 0 r15.1 r15.2) fun r16 =>
  bnd (ldC r16.1 r16.2) fun r17 =>
  bnd (oMv r3.1 r17.2) fun r18 =>
  bnd (oBuildSlice Try.prog 104 1 [(0, r18.1)] r18.2) fun r19 =>
  bnd (aAppend Try.prog r19.2 #[104, 104] r17.1 r19.1) fun r20 =>
  bnd (oNilCheck r13.1 r20.2) fun r21 =>
  bnd (faO 0 r21.1 r21.2) fun r22 =>
  bnd (stV 1 r22.1 r20.1 r22.2) fun r23 =>
  oRes Try.prog [] r23.2
theorem heaps_pileint_Push_eq (call : Eng.Callee) (x0 x1 : Value) (W : AW) : kFun Try.prog call 25 (cod 192) (rss 192) [x0, x1] W = heaps_pileint_Push call x0 x1 W := by kernel_rfl
theorem heaps_pileint_Push_om {x0 x1 : Value} {W : AW} {r : Value × AW} (h : heaps_pileint_Push omS x0 x1 W = some r) : omS (.func (.func 192) #[] #[]) [x0, x1] W = some (gc W r) := om_of (nt := 25) (n := 2) (by kernel_rfl) (by kernel_rfl) rfl ((heaps_pileint_Push_eq omS x0 x1 W).trans h)
noncomputable def heaps_pileint_Swap (call : Eng.Callee) (x0 x1 x2 : Value) (W : AW) : Option (Value × AW) :=
  bnd (oMv x0 W) fun r1 =>
  bnd (oNilCheck r1.1 r1.2) fun r2 =>
  bnd (faO 0 r2.1 r2.2) fun r3 =>
  bnd (ldC r3.1 r3.2) fun r4 =>
  bnd (oMv x1 r4.2) fun r5 =>
  bnd (oMv x0 r5.2) fun r6 =>
  bnd (oNilCheck r6.1 r6.2) fun r7 =>
  bnd (faO 0 r7.1 r7.2) fun r8 =>
  bnd (ldC r8.1 r8.2) fun r9 =>
  bnd (oMv x2 r9.2) fun r10 =>
  bnd (oMv x0 r10.2) fun r11 =>
  bnd (oNilCheck r11.1 r11.2) fun r12 =>
  bnd (faO 0 r12.1 r12.2) fun r13 =>
  bnd (ldC r13.1 r13.2) fun r14 =>
  bnd (oMv x2 r14.2) fun r15 =>
  bnd (ixS 1 r14.1 r15.1 r15.2) fun r16 =>
  bnd (ldC r16.1 r16.2) fun r17 =>
  bnd (oMv x0 r17.2) fun r18 =>
  bnd (oNilCheck r18.1 r18.2) fun r19 =>
  bnd (faO 0 r19.1 r19.2) fun r20 =>
  bnd (ldC r20.1 r20.2) fun r21 =>
  bnd (oMv x1 r21.2) fun r22 =>
  bnd (ixS 1 r21.1 r22.1 r22.2) fun r23 =>
  bnd (ldC r23.1 r23.2) fun r24 =>
  bnd (ixS 1 r4.1 r5.1 r24.2) fun r25 =>
  bnd (stV 1 r25.1 r17.1 r25.2) fun r26 =>
  bnd (ixS 1 r9.1 r10.1 r26.2) fun r27 =>
  bnd (stV 1 r27.1 r24.1 r27.2) fun r28 =>
  bnd (oMv x0 r28.2) fun r29 =>
  bnd (oNilCheck r29.1 r29.2) fun r30 =>
  bnd (faO 0 r30.1 r30.2) fun r31 =>
  bnd (ldC r31.1 r31.2) fun r32 =>
  bnd (oMv x1 r32.2) fun r33 =>
  bnd (ixS 1 r32.1 r33.1 r33.2) fun r34 =>
  bnd (ldC r34.1 r34.2) fun r35 =>
  bnd (oMv x0 r35.2) fun r36 =>
  bnd (oNilCheck r36.1 r36.2) fun r37 =>
  bnd (faO 0 r37.1 r37.2) fun r38 =>
  bnd (ldC r38.1 r38.2) fun r39 =>
  bnd (oMv x2 r39.2) fun r40 =>
  bnd (ixS 1 r39.1 r40.1 r40.2) fun r41 =>
  bnd (ldC r41.1 r41.2) fun r42 =>
  bnd (oMv x1 r42.2) fun r43 =>
  bnd (oMv x2 r43.2) fun r44 =>
  bnd (oNilCheck r35.1 r44.2) fun r45 =>
  bnd (faO 2 r45.1 r45.2) fun r46 =>
  bnd (stV 1 r46.1 r43.1 r46.2) fun r47 =>
  bnd (oNilCheck r42.1 r47.2) fun r48 =>
  bnd (faO 2 r48.1 r48.2) fun r49 =>
  bnd (stV 1 r49.1 r44.1 r49.2) fun r50 =>
  oRes Try.prog [] r50.2
theorem heaps_pileint_Swap_eq (call : Eng.Callee) (x0 x1 x2 : Value) (W : AW) : kFun Try.prog call 52 (cod 193) (rss 193) [x0, x1, x2] W = heaps_pileint_Swap call x0 x1 x2 W := by kernel_rfl
theorem heaps_pileint_Swap_om {x0 x1 x2 : Value} {W : AW} {r : Value × AW} (h : heaps_pileint_Swap omS x0 x1 x2 W = some r) : omS (.func (.func 193) #[] #[]) [x0, x1, x2] W = some (gc W r) := om_of (nt := 52) (n := 3) (by kernel_rfl) (by kernel_rfl) rfl ((heaps_pileint_Swap_eq omS x0 x1 x2 W).trans h)
noncomputable def law06_HeapsWalks_Y1a (call : Eng.Callee) (R : Nat → Value) (W : AW) : Option LT :=
  bnd (oMv (R 33) W) fun r29 =>
  bnd (oMv (R 34) r29.2) fun r30 =>
  some (X.normal, (rput (rput R (some 10) r29.1) (some 11) r30.1), r30.2)
theorem law06_HeapsWalks_Y1a_eq (call : Eng.Callee) (R : Nat → Value) (W : AW) : kCode Try.prog call false 93 (cAt [1, 1, 1, 1, 1, 0, 1, 0, 0] (cod 5)) LT R W ret3 = law06_HeapsWalks_Y1a call R W := by kernel_rfl
noncomputable def law06_HeapsWalks_Y1b (call : Eng.Callee) (R : Nat → Value) (W : AW) : Option LT :=
  bnd (ldC (R 8) W) fun r31 =>
  bnd (call (fnV 15) [r31.1] r31.2) fun r32 =>
  bnd (oMv r32.1 r32.2) fun r33 =>
  bnd (oExtract r33.1 0 r33.2) fun r34 =>
  bnd (oExtract r33.1 1 r34.2) fun r35 =>
  bnd (oExtract r33.1 2 r35.2) fun r36 =>
  bnd (oMv r34.1 r36.2) fun r37 =>
  bnd (oMv r35.1 r37.2) fun r38 =>
  bnd (oMv r36.1 r38.2) fun r39 =>
  bnd (oMv r39.1 r39.2) fun r40 =>
  bnd (oBin Try.prog .neq 29 false true r40.1 (.int .i64 0) r40.2) fun r41 =>
  bnd (oMv r41.1 r41.2) fun r42 =>
  bnd (bIf (wnt r42.1 false) (oMv (R 10) r42.2) (some (undef, r42.2))) fun r43 =>
  bnd (bIf (wnt r42.1 false) (oMv r37.1 r43.2) (some (undef, r43.2))) fun r44 =>
  bnd (bIf (wnt r42.1 false) (oBin Try.prog .neq 2 false false r43.1 r44.1 r44.2) (some (undef, r44.2))) fun r45 =>
  bnd (oPick r42.1 (.bool true) r45.1 r45.2) fun r46 =>
  bnd (oMv r46.1 r46.2) fun r47 =>
  bnd (bIf (wnt r47.1 false) (oMv (R 11) r47.2) (some (undef, r47.2))) fun r48 =>
  bnd (bIf (wnt r47.1 false) (oMv r38.1 r48.2) (some (undef, r48.2))) fun r49 =>
  bnd (bIf (wnt r47.1 false) (oBin Try.prog .neq 3 false false r48.1 r49.1 r49.2) (some (undef, r49.2))) fun r50 =>
  bnd (oPick r47.1 (.bool true) r50.1 r50.2) fun r51 =>
  bnd (oMv r51.1 r51.2) fun r52 =>
  bnd (bIf (wnt r52.1 false) (ldC (R 9) r52.2) (some (undef, r52.2))) fun r53 =>
  bnd (bIf (wnt r52.1 false) (oBin Try.prog .gtr 3 false true r53.1 (.int .i64 100) r53.2) (some (undef, r53.2))) fun r54 =>
  bnd (oPick r52.1 (.bool true) r54.1 r54.2) fun r55 =>
  vIf r55.1 (
    bnd (stV 1 (R 6) (.bool false) r55.2) fun r56 =>
    some (X.ret, (rput (rput (rput (rput (rput (rput (rput (rput (rput (rput (rput (rput (rput (rput (rput (rput (rput (rput (rput (rput (rput (rput (rput (rput (rput R (some 36) r31.1) (some 37) r32.1) (some 35) r33.1) (some 38) r34.1) (some 39) r35.1) (some 40) r36.1) (some 12) r37.1) (some 13) r38.1) (some 14) r39.1) (some 41) r40.1) (some 42) r41.1) (some 43) r42.1) (some 44) r43.1) (some 45) r44.1) (some 46) r45.1) (some 47) r46.1) (some 48) r47.1) (some 49) r48.1) (some 50) r49.1) (some 51) r50.1) (some 52) r51.1) (some 53) r52.1) (some 54) r53.1) (some 55) r54.1) (some 56) r55.1), r56.2)) (
    bnd (ldC (R 9) r55.2) fun r57 =>
    bnd (ldC (R 5) r57.2) fun r58 =>
    bnd (oBuiltin Try.prog .len #[47] 3 #[false] [r58.1] r58.2) fun r59 =>
    bnd (oBin Try.prog .lss 3 false false r57.1 r59.1 r59.2) fun r60 =>
    vIf r60.1 (
      bnd (ldC (R 5) r60.2) fun r61 =>
      bnd (ldC (R 9) r61.2) fun r62 =>
      bnd (ixS 1 r61.1 r62.1 r62.2) fun r63 =>
      bnd (ldC r63.1 r63.2) fun r64 =>
      bnd (oBin Try.prog .rem 5 false true r64.1 (.int .u8 4) r64.2) fun r65 =>
      bnd (oBin Try.prog .eql 5 false true r65.1 (.int .u8 0) r65.2) fun r66 =>
      bnd (oMv r66.1 r66.2) fun r67 =>
      vIf r67.1 (
        bnd (ldC (R 7) r67.2) fun r68 =>
        bnd (oMv (R 10) r68.2) fun r69 =>
        bnd (call (fnV 24) [r68.1, r69.1] r69.2) fun r70 =>
        bnd (ldC (R 9) r70.2) fun r71 =>
        bnd (oBin Try.prog .add 3 false true r71.1 (.int .i64 1) r71.2) fun r72 =>
        bnd (stV 1 (R 9) r72.1 r72.2) fun r73 =>
        some (X.normal, (rput (rput (rput (rput (rput (rput (rput (rput (rput (rput (rput (rput (rput (rput (rput (rput (rput (rput (rput (rput (rput (rput (rput (rput (rput (rput (rput (rput (rput (rput (rput (rput (rput (rput (rput (rput (rput (rput (rput (rput (rput R (some 36) r31.1) (some 37) r32.1) (some 35) r33.1) (some 38) r34.1) (some 39) r35.1) (some 40) r36.1) (some 12) r37.1) (some 13) r38.1) (some 14) r39.1) (some 41) r40.1) (some 42) r41.1) (some 43) r42.1) (some 44) r43.1) (some 45) r44.1) (some 46) r45.1) (some 47) r46.1) (some 48) r47.1) (some 49) r48.1) (some 50) r49.1) (some 51) r50.1) (some 52) r51.1) (some 53) r52.1) (some 54) r53.1) (some 55) r54.1) (some 56) r55.1) (some 57) r57.1) (some 58) r58.1) (some 59) r59.1) (some 60) r60.1) (some 61) r61.1) (some 62) r62.1) (some 63) r63.1) (some 64) r64.1) (some 65) r65.1) (some 67) r66.1) (some 66) r67.1) (some 68) r68.1) (some 69) r69.1) (some 70) r70.1) (some 84) r71.1) (some 85) r72.1), r73.2)) (
        bnd (oBin Try.prog .eql 5 false true r65.1 (.int .u8 1) r67.2) fun r74 =>
        bnd (oMv r74.1 r74.2) fun r75 =>
        vIf r75.1 (
          bnd (ldC (R 7) r75.2) fun r76 =>
          bnd (oMv (R 11) r76.2) fun r77 =>
          bnd (call (fnV 25) [r76.1, r77.1] r77.2) fun r78 =>
          bnd (ldC (R 9) r78.2) fun r79 =>
          bnd (oBin Try.prog .add 3 false true r79.1 (.int .i64 1) r79.2) fun r80 =>
          bnd (stV 1 (R 9) r80.1 r80.2) fun r81 =>
          some (X.normal, (rput (rput (rput (rput (rput (rput (rput (rput (rput (rput (rput (rput (rput (rput (rput (rput (rput (rput (rput (rput (rput (rput (rput (rput (rput (rput (rput (rput (rput (rput (rput (rput (rput (rput (rput (rput (rput (rput (rput (rput (rput (rput (rput R (some 36) r31.1) (some 37) r32.1) (some 35) r33.1) (some 38) r34.1) (some 39) r35.1) (some 40) r36.1) (some 12) r37.1) (some 13) r38.1) (some 14) r39.1) (some 41) r40.1) (some 42) r41.1) (some 43) r42.1) (some 44) r43.1) (some 45) r44.1) (some 46) r45.1) (some 47) r46.1) (some 48) r47.1) (some 49) r48.1) (some 50) r49.1) (some 51) r50.1) (some 52) r51.1) (some 53) r52.1) (some 54) r53.1) (some 55) r54.1) (some 56) r55.1) (some 57) r57.1) (some 58) r58.1) (some 59) r59.1) (some 60) r60.1) (some 61) r61.1) (some 62) r62.1) (some 63) r63.1) (some 64) r64.1) (some 65) r65.1) (some 67) r66.1) (some 66) r67.1) (some 72) r74.1) (some 71) r75.1) (some 73) r76.1) (some 74) r77.1) (some 75) r78.1) (some 84) r79.1) (some 85) r80.1), r81.2)) (
          bnd (oBin Try.prog .eql 5 false true r65.1 (.int .u8 2) r75.2) fun r82 =>
          bnd (oMv r82.1 r82.2) fun r83 =>
          vIf r83.1 (
            bnd (ldC (R 7) r83.2) fun r84 =>
            bnd (oMv (R 10) r84.2) fun r85 =>
            bnd (oMv (R 11) r85.2) fun r86 =>
            bnd (oUn Try.prog .neg r86.1 r86.2) fun r87 =>
            bnd (oBin Try.prog .quo 3 false true r87.1 (.int .i64 2) r87.2) fun r88 =>
            bnd (call (fnV 26) [r84.1, r85.1, r88.1] r88.2) fun r89 =>
            bnd (ldC (R 9) r89.2) fun r90 =>
            bnd (oBin Try.prog .add 3 false true r90.1 (.int .i64 1) r90.2) fun r91 =>
            bnd (stV 1 (R 9) r91.1 r91.2) fun r92 =>
            some (X.normal, (rput (rput (rput (rput (rput (rput (rput (rput (rput (rput (rput (rput (rput (rput (rput (rput (rput (rput (rput (rput (rput (rput (rput (rput (rput (rput (rput (rput (rput (rput (rput (rput (rput (rput (rput (rput (rput (rput (rput (rput (rput (rput (rput (rput (rput (rput (rput (rput R (some 36) r31.1) (some 37) r32.1) (some 35) r33.1) (some 38) r34.1) (some 39) r35.1) (some 40) r36.1) (some 12) r37.1) (some 13) r38.1) (some 14) r39.1) (some 41) r40.1) (some 42) r41.1) (some 43) r42.1) (some 44) r43.1) (some 45) r44.1) (some 46) r45.1) (some 47) r46.1) (some 48) r47.1) (some 49) r48.1) (some 50) r49.1) (some 51) r50.1) (some 52) r51.1) (some 53) r52.1) (some 54) r53.1) (some 55) r54.1) (some 56) r55.1) (some 57) r57.1) (some 58) r58.1) (some 59) r59.1) (some 60) r60.1) (some 61) r61.1) (some 62) r62.1) (some 63) r63.1) (some 64) r64.1) (some 65) r65.1) (some 67) r66.1) (some 66) r67.1) (some 72) r74.1) (some 71) r75.1) (some 77) r82.1) (some 76) r83.1) (some 78) r84.1) (some 79) r85.1) (some 80) r86.1) (some 81) r87.1) (some 82) r88.1) (some 83) r89.1) (some 84) r90.1) (some 85) r91.1), r92.2)) (
            bnd (ldC (R 9) r83.2) fun r93 =>
            bnd (oBin Try.prog .add 3 false true r93.1 (.int .i64 1) r93.2) fun r94 =>
            bnd (stV 1 (R 9) r94.1 r94.2) fun r95 =>
            some (X.normal, (rput (rput (rput (rput (rput (rput (rput (rput (rput (rput (rput (rput (rput (rput (rput (rput (rput (rput (rput (rput (rput (rput (rput (rput (rput (rput (rput (rput (rput (rput (rput (rput (rput (rput (rput (rput (rput (rput (rput (rput (rput (rput R (some 36) r31.1) (some 37) r32.1) (some 35) r33.1) (some 38) r34.1) (some 39) r35.1) (some 40) r36.1) (some 12) r37.1) (some 13) r38.1) (some 14) r39.1) (some 41) r40.1) (some 42) r41.1) (some 43) r42.1) (some 44) r43.1) (some 45) r44.1) (some 46) r45.1) (some 47) r46.1) (some 48) r47.1) (some 49) r48.1) (some 50) r49.1) (some 51) r50.1) (some 52) r51.1) (some 53) r52.1) (some 54) r53.1) (some 55) r54.1) (some 56) r55.1) (some 57) r57.1) (some 58) r58.1) (some 59) r59.1) (some 60) r60.1) (some 61) r61.1) (some 62) r62.1) (some 63) r63.1) (some 64) r64.1) (some 65) r65.1) (some 67) r66.1) (some 66) r67.1) (some 72) r74.1) (some 71) r75.1) (some 77) r82.1) (some 76) r83.1) (some 84) r93.1) (some 85) r94.1), r95.2))))) (
      bnd (ldC (R 9) r60.2) fun r96 =>
      bnd (oBin Try.prog .add 3 false true r96.1 (.int .i64 1) r96.2) fun r97 =>
      bnd (stV 1 (R 9) r97.1 r97.2) fun r98 =>
      some (X.normal, (rput (rput (rput (rput (rput (rput (rput (rput (rput (rput (rput (rput (rput (rput (rput (rput (rput (rput (rput (rput (rput (rput (rput (rput (rput (rput (rput (rput (rput (rput (rput R (some 36) r31.1) (some 37) r32.1) (some 35) r33.1) (some 38) r34.1) (some 39) r35.1) (some 40) r36.1) (some 12) r37.1) (some 13) r38.1) (some 14) r39.1) (some 41) r40.1) (some 42) r41.1) (some 43) r42.1) (some 44) r43.1) (some 45) r44.1) (some 46) r45.1) (some 47) r46.1) (some 48) r47.1) (some 49) r48.1) (some 50) r49.1) (some 51) r50.1) (some 52) r51.1) (some 53) r52.1) (some 54) r53.1) (some 55) r54.1) (some 56) r55.1) (some 57) r57.1) (some 58) r58.1) (some 59) r59.1) (some 60) r60.1) (some 84) r96.1) (some 85) r97.1), r98.2)))
theorem law06_HeapsWalks_Y1b_eq (call : Eng.Callee) (R : Nat → Value) (W : AW) : kCode Try.prog call false 93 (cAt [1, 1, 1, 1, 1, 0, 1, 0, 1] (cod 5)) LT R W ret3 = law06_HeapsWalks_Y1b call R W := by kernel_rfl
noncomputable def law06_HeapsWalks (call : Eng.Callee) (x0 x1 x2 : Value) (W : AW) : Option (Value × AW) :=
  bnd (oBox x2 W) fun r1 =>
  bnd (oAlloc Try.prog 4 r1.2) fun r2 =>
  bnd (oMv x1 r2.2) fun r3 =>
  bnd (oBuiltin Try.prog .len #[22] 3 #[false] [r3.1] r3.2) fun r4 =>
  bnd (oBin Try.prog .gtr 3 false true r4.1 (.int .i64 100) r4.2) fun r5 =>
  vIf r5.1 (
    bnd (call (fnV 12) [] r5.2) fun r6 =>
    bnd (stV 1 r2.1 r6.1 r6.2) fun r7 =>
    oRes Try.prog [(r2.1, some 4)] r7.2) (
    bnd (oMv x0 r5.2) fun r8 =>
    bnd (oMv x1 r8.2) fun r9 =>
    bnd (call (fnV 13) [r8.1, r9.1] r9.2) fun r10 =>
    bnd (oMv x0 r10.2) fun r11 =>
    bnd (oMv x1 r11.2) fun r12 =>
    bnd (call (fnV 13) [r11.1, r12.1] r12.2) fun r13 =>
    bnd (oAlloc Try.prog 24 r13.2) fun r14 =>
    bnd (oAlloc Try.prog 24 r14.2) fun r15 =>
    bnd (stV 1 r14.1 r10.1 r15.2) fun r16 =>
    bnd (stV 1 r15.1 r13.1 r16.2) fun r17 =>
    bnd (ldC r14.1 r17.2) fun r18 =>
    bnd (oBin Try.prog .eql 24 false true r18.1 (.pointer none) r18.2) fun r19 =>
    bnd (oMv r19.1 r19.2) fun r20 =>
    bnd (bIf (wnt r20.1 false) (ldC r15.1 r20.2) (some (undef, r20.2))) fun r21 =>
    bnd (bIf (wnt r20.1 false) (oBin Try.prog .eql 24 false true r21.1 (.pointer none) r21.2) (some (undef, r21.2))) fun r22 =>
    bnd (oPick r20.1 (.bool true) r22.1 r22.2) fun r23 =>
    vIf r23.1 (
      bnd (stV 1 r2.1 (.bool false) r23.2) fun r24 =>
      oRes Try.prog [(r2.1, some 4)] r24.2) (
      bnd (oAlloc Try.prog 3 r23.2) fun r25 =>
      bnd (stV 1 r25.1 (.int .i64 0) r25.2) fun r26 =>
      bnd (ldC r14.1 r26.2) fun r27 =>
      bnd (call (fnV 23) [r27.1] r27.2) fun r28 =>
      bnd (oRange call r28.1 (.loop .ready none (rput (rput (rput (rput (rput (rput (rput (rput (rput (rput (rput (rput (rput (rput (rput (rput (rput (rput (rput (rput (rput (rput (argGo 0 [x0, x1, x2] PlanTab.blank) (some 5) r1.1) (some 6) r2.1) (some 15) r3.1) (some 16) r4.1) (some 17) r5.1) (some 19) r8.1) (some 20) r9.1) (some 21) r10.1) (some 22) r11.1) (some 23) r12.1) (some 24) r13.1) (some 7) r14.1) (some 8) r15.1) (some 25) r18.1) (some 26) r19.1) (some 27) r20.1) (some 28) r21.1) (some 29) r22.1) (some 30) r23.1) (some 9) r25.1) (some 31) r27.1) (some 32) r28.1) 93 #[33, 34] (cAt [1, 1, 1, 1, 1, 0, 1, 0, 0] (cod 5)) (cAt [1, 1, 1, 1, 1, 0, 1, 0, 1] (cod 5))) r28.2) fun r99 =>
      kNorm r99.1 (
        bnd (ldC r25.1 r99.2) fun r100 =>
        bnd (oMv x1 r100.2) fun r101 =>
        bnd (oBuiltin Try.prog .len #[22] 3 #[false] [r101.1] r101.2) fun r102 =>
        bnd (oBin Try.prog .eql 3 false false r100.1 r102.1 r102.2) fun r103 =>
        bnd (oMv r103.1 r103.2) fun r104 =>
        bnd (bIf (wnt r104.1 true) (call (fnV 12) [] r104.2) (some (undef, r104.2))) fun r105 =>
        bnd (oPick r104.1 r105.1 (.bool false) r105.2) fun r106 =>
        bnd (stV 1 r2.1 r106.1 r106.2) fun r107 =>
        oRes Try.prog [(r2.1, some 4)] r107.2) (kRetX r99.1 (
        oRes Try.prog [(r2.1, some 4)] r99.2))))
theorem law06_HeapsWalks_eq (call : Eng.Callee) (x0 x1 x2 : Value) (W : AW) : kFun Try.prog call 93 (cod 5) (rss 5) [x0, x1, x2] W = law06_HeapsWalks call x0 x1 x2 W := by kernel_rfl
theorem law06_HeapsWalks_om {x0 x1 x2 : Value} {W : AW} {r : Value × AW} (h : law06_HeapsWalks omS x0 x1 x2 W = some r) : omS (.func (.func 5) #[] #[]) [x0, x1, x2] W = some (gc W r) := om_of (nt := 93) (n := 3) (by kernel_rfl) (by kernel_rfl) rfl ((law06_HeapsWalks_eq omS x0 x1 x2 W).trans h)
noncomputable def heaps_Queueint_All (call : Eng.Callee) (x0 : Value) (W : AW) : Option (Value × AW) :=
  bnd (oBox x0 W) fun r1 =>
  bnd (oMv .nilFunc r1.2) fun r2 =>
  bnd (oMkFunc (.func 66) #[] #[r1.1] r2.2) fun r3 =>
  bnd (oMv r3.1 r3.2) fun r4 =>
  oRes Try.prog [(r4.1, none)] r4.2
theorem heaps_Queueint_All_eq (call : Eng.Callee) (x0 : Value) (W : AW) : kFun Try.prog call 4 (cod 23) (rss 23) [x0] W = heaps_Queueint_All call x0 W := by kernel_rfl
theorem heaps_Queueint_All_om {x0 : Value} {W : AW} {r : Value × AW} (h : heaps_Queueint_All omS x0 W = some r) : omS (.func (.func 23) #[] #[]) [x0] W = some (gc W r) := om_of (nt := 4) (n := 1) (by kernel_rfl) (by kernel_rfl) rfl ((heaps_Queueint_All_eq omS x0 W).trans h)
noncomputable def heaps_Queueint_Remove (call : Eng.Callee) (x0 x1 : Value) (W : AW) : Option (Value × AW) :=
  bnd (oMv (.int .i64 0) W) fun r1 =>
  bnd (oMv (.int .i64 0) r1.2) fun r2 =>
  bnd (oMv x0 r2.2) fun r3 =>
  bnd (oMv x1 r3.2) fun r4 =>
  bnd (call (fnV 68) [r3.1, r4.1] r4.2) fun r5 =>
  bnd (oMv r5.1 r5.2) fun r6 =>
  bnd (oExtract r6.1 0 r6.2) fun r7 =>
  bnd (oExtract r6.1 1 r7.2) fun r8 =>
  bnd (oMv r7.1 r8.2) fun r9 =>
  bnd (oMv r8.1 r9.2) fun r10 =>
  bnd (oMv r10.1 r10.2) fun r11 =>
  bnd (oBin Try.prog .neq 29 false true r11.1 (.int .i64 0) r11.2) fun r12 =>
  vIf r12.1 (
    bnd (oMv r1.1 r12.2) fun r13 =>
    bnd (oMv r10.1 r13.2) fun r14 =>
    bnd (oMv r13.1 r14.2) fun r15 =>
    bnd (oMv r14.1 r15.2) fun r16 =>
    oRes Try.prog [(r15.1, none), (r16.1, none)] r16.2) (
    bnd (oMv x0 r12.2) fun r17 =>
    bnd (oNilCheck r17.1 r17.2) fun r18 =>
    bnd (faO 0 r18.1 r18.2) fun r19 =>
    bnd (oMkIface Try.prog 103 r19.1 r19.2) fun r20 =>
    bnd (oMv r9.1 r20.2) fun r21 =>
    bnd (oNilCheck r21.1 r21.2) fun r22 =>
    bnd (faO 2 r22.1 r22.2) fun r23 =>
    bnd (ldC r23.1 r23.2) fun r24 =>
    bnd (call (fnV 69) [r20.1, r24.1] r24.2) fun r25 =>
    bnd (oMv x0 r25.2) fun r26 =>
    bnd (oNilCheck r26.1 r26.2) fun r27 =>
    bnd (faO 2 r27.1 r27.2) fun r28 =>
    bnd (ldC r28.1 r28.2) fun r29 =>
    bnd (oMv x1 r29.2) fun r30 =>
    bnd (oBuiltin Try.prog .delete #[107, 2] 0 #[false, false] [r29.1, r30.1] r30.2) fun r31 =>
    bnd (oMv r9.1 r31.2) fun r32 =>
    bnd (oNilCheck r32.1 r32.2) fun r33 =>
    bnd (faO 1 r33.1 r33.2) fun r34 =>
    bnd (ldC r34.1 r34.2) fun r35 =>
    bnd (oMv r35.1 r35.2) fun r36 =>
    bnd (oMv (.int .i64 0) r36.2) fun r37 =>
    oRes Try.prog [(r36.1, none), (r37.1, none)] r37.2)
theorem heaps_Queueint_Remove_eq (call : Eng.Callee) (x0 x1 : Value) (W : AW) : kFun Try.prog call 35 (cod 24) (rss 24) [x0, x1] W = heaps_Queueint_Remove call x0 x1 W := by kernel_rfl
theorem heaps_Queueint_Remove_om {x0 x1 : Value} {W : AW} {r : Value × AW} (h : heaps_Queueint_Remove omS x0 x1 W = some r) : omS (.func (.func 24) #[] #[]) [x0, x1] W = some (gc W r) := om_of (nt := 35) (n := 2) (by kernel_rfl) (by kernel_rfl) rfl ((heaps_Queueint_Remove_eq omS x0 x1 W).trans h)
noncomputable def heaps_Queueint_Set (call : Eng.Callee) (x0 x1 x2 : Value) (W : AW) : Option (Value × AW) :=
  bnd (oMv (.int .i64 0) W) fun r1 =>
  bnd (oMv x0 r1.2) fun r2 =>
  bnd (oMv x1 r2.2) fun r3 =>
  bnd (call (fnV 68) [r2.1, r3.1] r3.2) fun r4 =>
  bnd (oMv r4.1 r4.2) fun r5 =>
  bnd (oExtract r5.1 0 r5.2) fun r6 =>
  bnd (oExtract r5.1 1 r6.2) fun r7 =>
  bnd (oMv r6.1 r7.2) fun r8 =>
  bnd (oMv r7.1 r8.2) fun r9 =>
  bnd (oMv r9.1 r9.2) fun r10 =>
  bnd (oBin Try.prog .neq 29 false true r10.1 (.int .i64 0) r10.2) fun r11 =>
  vIf r11.1 (
    bnd (oMv r9.1 r11.2) fun r12 =>
    bnd (oMv r12.1 r12.2) fun r13 =>
    oRes Try.prog [(r13.1, none)] r13.2) (
    bnd (oMv r8.1 r11.2) fun r14 =>
    bnd (oMv x2 r14.2) fun r15 =>
    bnd (oNilCheck r14.1 r15.2) fun r16 =>
    bnd (faO 1 r16.1 r16.2) fun r17 =>
    bnd (stV 1 r17.1 r15.1 r17.2) fun r18 =>
    bnd (oMv x0 r18.2) fun r19 =>
    bnd (oNilCheck r19.1 r19.2) fun r20 =>
    bnd (faO 0 r20.1 r20.2) fun r21 =>
    bnd (oMkIface Try.prog 103 r21.1 r21.2) fun r22 =>
    bnd (oMv r8.1 r22.2) fun r23 =>
    bnd (oNilCheck r23.1 r23.2) fun r24 =>
    bnd (faO 2 r24.1 r24.2) fun r25 =>
    bnd (ldC r25.1 r25.2) fun r26 =>
    bnd (call (fnV 71) [r22.1, r26.1] r26.2) fun r27 =>
    bnd (oMv (.int .i64 0) r27.2) fun r28 =>
    oRes Try.prog [(r28.1, none)] r28.2)
theorem heaps_Queueint_Set_eq (call : Eng.Callee) (x0 x1 x2 : Value) (W : AW) : kFun Try.prog call 31 (cod 26) (rss 26) [x0, x1, x2] W = heaps_Queueint_Set call x0 x1 x2 W := by kernel_rfl
theorem heaps_Queueint_Set_om {x0 x1 x2 : Value} {W : AW} {r : Value × AW} (h : heaps_Queueint_Set omS x0 x1 x2 W = some r) : omS (.func (.func 26) #[] #[]) [x0, x1, x2] W = some (gc W r) := om_of (nt := 31) (n := 3) (by kernel_rfl) (by kernel_rfl) rfl ((heaps_Queueint_Set_eq omS x0 x1 x2 W).trans h)
noncomputable def heaps_Queueint_All_1_L1 (call : Eng.Callee) (R : Nat → Value) (W : AW) : Option LT :=
  bnd (oBin Try.prog .lss 3 false false (R 11) (R 10) W) fun r8 =>
  vIf r8.1 (
    bnd (ixS 2 (R 9) (R 11) r8.2) fun r9 =>
    bnd (ldA 2 r9.1 r9.2) fun r10 =>
    bnd (oAlloc Try.prog 65 r10.2) fun r11 =>
    bnd (stV 2 r11.1 r10.1 r11.2) fun r12 =>
    bnd (oMv (R 0) r12.2) fun r13 =>
    bnd (faO 0 r11.1 r13.2) fun r14 =>
    bnd (ldC r14.1 r14.2) fun r15 =>
    bnd (faO 1 r11.1 r15.2) fun r16 =>
    bnd (ldC r16.1 r16.2) fun r17 =>
    bnd (call r13.1 [r15.1, r17.1] r17.2) fun r18 =>
    bnd (oUn Try.prog .not r18.1 r18.2) fun r19 =>
    vIf r19.1 (
      some (X.ret, (rput (rput (rput (rput (rput (rput (rput (rput (rput (rput (rput R (some 12) r8.1) (some 13) r9.1) (some 14) r10.1) (some 4) r11.1) (some 15) r13.1) (some 16) r14.1) (some 17) r15.1) (some 18) r16.1) (some 19) r17.1) (some 20) r18.1) (some 21) r19.1), r19.2)) (
      bnd (oBin Try.prog .add 3 false true (R 11) (.int .i64 1) r19.2) fun r20 =>
      bnd (oMv r20.1 r20.2) fun r21 =>
      some (X.normal, (rput (rput (rput (rput (rput (rput (rput (rput (rput (rput (rput (rput (rput R (some 12) r8.1) (some 13) r9.1) (some 14) r10.1) (some 4) r11.1) (some 15) r13.1) (some 16) r14.1) (some 17) r15.1) (some 18) r16.1) (some 19) r17.1) (some 20) r18.1) (some 21) r19.1) (some 22) r20.1) (some 11) r21.1), r21.2))) (
    some (X.exit 0, (rput R (some 12) r8.1), r8.2))
noncomputable def heaps_Queueint_All_1 (call : Eng.Callee) (x0 x1 : Value) (W : AW) : Option (Value × AW) :=
  bnd (ldC x1 W) fun r1 =>
  bnd (call (fnV 54) [r1.1] r1.2) fun r2 =>
  bnd (oUn Try.prog .not r2.1 r2.2) fun r3 =>
  vIf r3.1 (
    oRes Try.prog [] r3.2) (
    bnd (ldC x1 r3.2) fun r4 =>
    bnd (call (fnV 67) [r4.1] r4.2) fun r5 =>
    bnd (oBuiltin Try.prog .len #[58] 3 #[false] [r5.1] r5.2) fun r6 =>
    bnd (oMv (.int .i64 0) r6.2) fun r7 =>
    bnd (loopO (heaps_Queueint_All_1_L1 call) (rput (rput (rput (rput (rput (rput (rput (argGo 0 [x0, x1] PlanTab.blank) (some 5) r1.1) (some 6) r2.1) (some 7) r3.1) (some 8) r4.1) (some 9) r5.1) (some 10) r6.1) (some 11) r7.1) r7.2) fun r22 =>
    kExit 0 r22.1 (
      oRes Try.prog [] r22.2.2) (kRetX r22.1 (
      oRes Try.prog [] r22.2.2)))
theorem heaps_Queueint_All_1_eq (call : Eng.Callee) (x0 x1 : Value) (W : AW) : kFun Try.prog call 23 (cod 66) (rss 66) [x0, x1] W = heaps_Queueint_All_1 call x0 x1 W := by kernel_rfl
theorem heaps_Queueint_All_1_om {x0 x1 : Value} {W : AW} {r : Value × AW} (h : heaps_Queueint_All_1 omS x0 x1 W = some r) : omS (.func (.func 66) #[] #[x1]) [x0] W = some (gc W r) := om_of (nt := 23) (n := 2) (by kernel_rfl) (by kernel_rfl) rfl ((heaps_Queueint_All_1_eq omS x0 x1 W).trans h)
noncomputable def heaps_Queueint_sorted_L1 (call : Eng.Callee) (R : Nat → Value) (W : AW) : Option LT :=
  bnd (oBin Try.prog .lss 3 false false (R 18) (R 17) W) fun r17 =>
  vIf r17.1 (
    bnd (ixS 1 (R 16) (R 18) r17.2) fun r18 =>
    bnd (ldC r18.1 r18.2) fun r19 =>
    bnd (oMv r19.1 r19.2) fun r20 =>
    bnd (oMv (R 4) r20.2) fun r21 =>
    bnd (oMv r20.1 r21.2) fun r22 =>
    bnd (oNilCheck r22.1 r22.2) fun r23 =>
    bnd (faO 0 r23.1 r23.2) fun r24 =>
    bnd (ldC r24.1 r24.2) fun r25 =>
    bnd (oMv r20.1 r25.2) fun r26 =>
    bnd (oNilCheck r26.1 r26.2) fun r27 =>
    bnd (faO 1 r27.1 r27.2) fun r28 =>
    bnd (ldC r28.1 r28.2) fun r29 =>
    bnd (oBuild Try.prog 65 [(0, r25.1), (1, r29.1)] r29.2) fun r30 =>
    bnd (oBuildSlice Try.prog 58 1 [(0, r30.1)] r30.2) fun r31 =>
    bnd (aAppend Try.prog r31.2 #[58, 58] r21.1 r31.1) fun r32 =>
    bnd (oMv r32.1 r32.2) fun r33 =>
    bnd (oBin Try.prog .add 3 false true (R 18) (.int .i64 1) r33.2) fun r34 =>
    bnd (oMv r34.1 r34.2) fun r35 =>
    some (X.normal, (rput (rput (rput (rput (rput (rput (rput (rput (rput (rput (rput (rput (rput (rput (rput (rput (rput (rput (rput R (some 19) r17.1) (some 20) r18.1) (some 21) r19.1) (some 6) r20.1) (some 22) r21.1) (some 23) r22.1) (some 24) r23.1) (some 25) r24.1) (some 26) r25.1) (some 27) r26.1) (some 28) r27.1) (some 29) r28.1) (some 30) r29.1) (some 31) r30.1) (some 32) r31.1) (some 33) r32.1) (some 4) r33.1) (some 34) r34.1) (some 18) r35.1), r35.2)) (
    some (X.exit 0, (rput R (some 19) r17.1), r17.2))
noncomputable def heaps_Queueint_sorted (call : Eng.Callee) (x0 : Value) (W : AW) : Option (Value × AW) :=
  bnd (oBox x0 W) fun r1 =>
  bnd (oMv (.slice none 0 0) r1.2) fun r2 =>
  bnd (ldC r1.1 r2.2) fun r3 =>
  bnd (oNilCheck r3.1 r3.2) fun r4 =>
  bnd (faO 0 r4.1 r4.2) fun r5 =>
  bnd (faO 0 r5.1 r5.2) fun r6 =>
  bnd (ldC r6.1 r6.2) fun r7 =>
  bnd (call (fnV 100) [r7.1] r7.2) fun r8 =>
  bnd (oMv r8.1 r8.2) fun r9 =>
  bnd (oMv r9.1 r9.2) fun r10 =>
  bnd (oMkFunc (.func 102) #[] #[r1.1] r10.2) fun r11 =>
  bnd (call (fnV 101) [r10.1, r11.1] r11.2) fun r12 =>
  bnd (oMv (.slice none 0 0) r12.2) fun r13 =>
  bnd (oMv r9.1 r13.2) fun r14 =>
  bnd (oBuiltin Try.prog .len #[104] 3 #[false] [r14.1] r14.2) fun r15 =>
  bnd (oMv (.int .i64 0) r15.2) fun r16 =>
  bnd (loopO (heaps_Queueint_sorted_L1 call) (rput (rput (rput (rput (rput (rput (rput (rput (rput (rput (rput (rput (rput (rput (rput (rput (argGo 0 [x0] PlanTab.blank) (some 1) r1.1) (some 2) r2.1) (some 7) r3.1) (some 8) r4.1) (some 9) r5.1) (some 10) r6.1) (some 11) r7.1) (some 12) r8.1) (some 3) r9.1) (some 13) r10.1) (some 14) r11.1) (some 15) r12.1) (some 4) r13.1) (some 16) r14.1) (some 17) r15.1) (some 18) r16.1) r16.2) fun r36 =>
  kExit 0 r36.1 (
    bnd (oMv (r36.2.1 4) r36.2.2) fun r37 =>
    bnd (oMv r37.1 r37.2) fun r38 =>
    oRes Try.prog [(r38.1, none)] r38.2) (none)
theorem heaps_Queueint_sorted_eq (call : Eng.Callee) (x0 : Value) (W : AW) : kFun Try.prog call 36 (cod 67) (rss 67) [x0] W = heaps_Queueint_sorted call x0 W := by kernel_rfl
theorem heaps_Queueint_sorted_om {x0 : Value} {W : AW} {r : Value × AW} (h : heaps_Queueint_sorted omS x0 W = some r) : omS (.func (.func 67) #[] #[]) [x0] W = some (gc W r) := om_of (nt := 36) (n := 1) (by kernel_rfl) (by kernel_rfl) rfl ((heaps_Queueint_sorted_eq omS x0 W).trans h)
noncomputable def heaps_Queueint_find (call : Eng.Callee) (x0 x1 : Value) (W : AW) : Option (Value × AW) :=
  bnd (oMv (.pointer none) W) fun r1 =>
  bnd (oMv (.int .i64 0) r1.2) fun r2 =>
  bnd (oMv x0 r2.2) fun r3 =>
  bnd (call (fnV 54) [r3.1] r3.2) fun r4 =>
  bnd (oUn Try.prog .not r4.1 r4.2) fun r5 =>
  vIf r5.1 (
    bnd (oMv (.pointer none) r5.2) fun r6 =>
    bnd (oMv (.int .i64 1) r6.2) fun r7 =>
    oRes Try.prog [(r6.1, none), (r7.1, none)] r7.2) (
    bnd (oMv x0 r5.2) fun r8 =>
    bnd (oNilCheck r8.1 r8.2) fun r9 =>
    bnd (faO 2 r9.1 r9.2) fun r10 =>
    bnd (ldC r10.1 r10.2) fun r11 =>
    bnd (oMv x1 r11.2) fun r12 =>
    bnd (oLookup Try.prog 107 r11.1 r12.1 true r12.2) fun r13 =>
    bnd (oMv r13.1 r13.2) fun r14 =>
    bnd (oExtract r14.1 0 r14.2) fun r15 =>
    bnd (oExtract r14.1 1 r15.2) fun r16 =>
    bnd (oMv r15.1 r16.2) fun r17 =>
    bnd (oMv r16.1 r17.2) fun r18 =>
    bnd (oMv r18.1 r18.2) fun r19 =>
    bnd (oUn Try.prog .not r19.1 r19.2) fun r20 =>
    vIf r20.1 (
      bnd (oMv (.pointer none) r20.2) fun r21 =>
      bnd (oMv (.int .i64 4) r21.2) fun r22 =>
      oRes Try.prog [(r21.1, none), (r22.1, none)] r22.2) (
      bnd (oMv r17.1 r20.2) fun r23 =>
      bnd (oMv r23.1 r23.2) fun r24 =>
      bnd (oMv (.int .i64 0) r24.2) fun r25 =>
      oRes Try.prog [(r24.1, none), (r25.1, none)] r25.2))
theorem heaps_Queueint_find_eq (call : Eng.Callee) (x0 x1 : Value) (W : AW) : kFun Try.prog call 23 (cod 68) (rss 68) [x0, x1] W = heaps_Queueint_find call x0 x1 W := by kernel_rfl
theorem heaps_Queueint_find_om {x0 x1 : Value} {W : AW} {r : Value × AW} (h : heaps_Queueint_find omS x0 x1 W = some r) : omS (.func (.func 68) #[] #[]) [x0, x1] W = some (gc W r) := om_of (nt := 23) (n := 2) (by kernel_rfl) (by kernel_rfl) rfl ((heaps_Queueint_find_eq omS x0 x1 W).trans h)
noncomputable def containerheap_Remove (call : Eng.Callee) (x0 x1 : Value) (W : AW) : Option (Value × AW) :=
  bnd (oMv .nilIface W) fun r1 =>
  bnd (oMv x0 r1.2) fun r2 =>
  bnd (oInvoke Try.prog call r2.1 "Len" [] r2.2) fun r3 =>
  bnd (oBin Try.prog .sub 3 false true r3.1 (.int .i64 1) r3.2) fun r4 =>
  bnd (oMv r4.1 r4.2) fun r5 =>
  bnd (oMv r5.1 r5.2) fun r6 =>
  bnd (oMv x1 r6.2) fun r7 =>
  bnd (oBin Try.prog .neq 3 false false r6.1 r7.1 r7.2) fun r8 =>
  vIf r8.1 (
    bnd (oMv x0 r8.2) fun r9 =>
    bnd (oMv x1 r9.2) fun r10 =>
    bnd (oMv r5.1 r10.2) fun r11 =>
    bnd (oInvoke Try.prog call r9.1 "Swap" [r10.1, r11.1] r11.2) fun r12 =>
    bnd (oMv x0 r12.2) fun r13 =>
    bnd (oMv x1 r13.2) fun r14 =>
    bnd (oMv r5.1 r14.2) fun r15 =>
    bnd (call (fnV 94) [r13.1, r14.1, r15.1] r15.2) fun r16 =>
    bnd (oUn Try.prog .not r16.1 r16.2) fun r17 =>
    vIf r17.1 (
      bnd (oMv x0 r17.2) fun r18 =>
      bnd (oMv x1 r18.2) fun r19 =>
      bnd (call (fnV 104) [r18.1, r19.1] r19.2) fun r20 =>
      bnd (oMv x0 r20.2) fun r21 =>
      bnd (oInvoke Try.prog call r21.1 "Pop" [] r21.2) fun r22 =>
      bnd (oMv r22.1 r22.2) fun r23 =>
      oRes Try.prog [(r23.1, none)] r23.2) (
      bnd (oMv x0 r17.2) fun r24 =>
      bnd (oInvoke Try.prog call r24.1 "Pop" [] r24.2) fun r25 =>
      bnd (oMv r25.1 r25.2) fun r26 =>
      oRes Try.prog [(r26.1, none)] r26.2)) (
    bnd (oMv x0 r8.2) fun r27 =>
    bnd (oInvoke Try.prog call r27.1 "Pop" [] r27.2) fun r28 =>
    bnd (oMv r28.1 r28.2) fun r29 =>
    oRes Try.prog [(r29.1, none)] r29.2)
theorem containerheap_Remove_eq (call : Eng.Callee) (x0 x1 : Value) (W : AW) : kFun Try.prog call 26 (cod 69) (rss 69) [x0, x1] W = containerheap_Remove call x0 x1 W := by kernel_rfl
theorem containerheap_Remove_om {x0 x1 : Value} {W : AW} {r : Value × AW} (h : containerheap_Remove omS x0 x1 W = some r) : omS (.func (.func 69) #[] #[]) [x0, x1] W = some (gc W r) := om_of (nt := 26) (n := 2) (by kernel_rfl) (by kernel_rfl) rfl ((containerheap_Remove_eq omS x0 x1 W).trans h)
noncomputable def containerheap_Fix (call : Eng.Callee) (x0 x1 : Value) (W : AW) : Option (Value × AW) :=
  bnd (oMv x0 W) fun r1 =>
  bnd (oMv x1 r1.2) fun r2 =>
  bnd (oMv x0 r2.2) fun r3 =>
  bnd (oInvoke Try.prog call r3.1 "Len" [] r3.2) fun r4 =>
  bnd (call (fnV 94) [r1.1, r2.1, r4.1] r4.2) fun r5 =>
  bnd (oUn Try.prog .not r5.1 r5.2) fun r6 =>
  vIf r6.1 (
    bnd (oMv x0 r6.2) fun r7 =>
    bnd (oMv x1 r7.2) fun r8 =>
    bnd (call (fnV 104) [r7.1, r8.1] r8.2) fun r9 =>
    oRes Try.prog [] r9.2) (
    oRes Try.prog [] r6.2)
theorem containerheap_Fix_eq (call : Eng.Callee) (x0 x1 : Value) (W : AW) : kFun Try.prog call 13 (cod 71) (rss 71) [x0, x1] W = containerheap_Fix call x0 x1 W := by kernel_rfl
theorem containerheap_Fix_om {x0 x1 : Value} {W : AW} {r : Value × AW} (h : containerheap_Fix omS x0 x1 W = some r) : omS (.func (.func 71) #[] #[]) [x0, x1] W = some (gc W r) := om_of (nt := 13) (n := 2) (by kernel_rfl) (by kernel_rfl) rfl ((containerheap_Fix_eq omS x0 x1 W).trans h)
noncomputable def slices_Cloneheaps_entryintheaps_entryint (call : Eng.Callee) (x0 : Value) (W : AW) : Option (Value × AW) :=
  bnd (oMv (.slice none 0 0) W) fun r1 =>
  bnd (oMv x0 r1.2) fun r2 =>
  bnd (oBin Try.prog .eql 104 false true r2.1 (.slice none 0 0) r2.2) fun r3 =>
  vIf r3.1 (
    bnd (oMv (.slice none 0 0) r3.2) fun r4 =>
    oRes Try.prog [(r4.1, none)] r4.2) (
    bnd (oBuildSlice Try.prog 104 0 [] r3.2) fun r5 =>
    bnd (oMv x0 r5.2) fun r6 =>
    bnd (aAppend Try.prog r6.2 #[104, 104] r5.1 r6.1) fun r7 =>
    bnd (oMv r7.1 r7.2) fun r8 =>
    oRes Try.prog [(r8.1, none)] r8.2)
theorem slices_Cloneheaps_entryintheaps_entryint_eq (call : Eng.Callee) (x0 : Value) (W : AW) : kFun Try.prog call 8 (cod 100) (rss 100) [x0] W = slices_Cloneheaps_entryintheaps_entryint call x0 W := by kernel_rfl
theorem slices_Cloneheaps_entryintheaps_entryint_om {x0 : Value} {W : AW} {r : Value × AW} (h : slices_Cloneheaps_entryintheaps_entryint omS x0 W = some r) : omS (.func (.func 100) #[] #[]) [x0] W = some (gc W r) := om_of (nt := 8) (n := 1) (by kernel_rfl) (by kernel_rfl) rfl ((slices_Cloneheaps_entryintheaps_entryint_eq omS x0 W).trans h)
end Go.Proofs.Ytkpgmabebjmahaa
