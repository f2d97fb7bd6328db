/- Texts of the program told in continuations: written by a program, shown by the kernel. -/
import Derived.Test.YtkpgmabebjmahaaSBase
import Derived.KernelRfl
namespace Go.Proofs.Ytkpgmabebjmahaa
open Go Go.Eng
set_option linter.unusedVariables false
set_option maxRecDepth 100000
noncomputable def heaps_Queueint_Pop (call : Eng.Callee) (x0 : Value) (W : AW) : Option (Value × AW) :=
  bnd (oMv (.int .i64 0) W) fun r1 =>
  bnd (oMv (.int .i64 0) r1.2) fun r2 =>
  bnd (oMv (.int .i64 0) r2.2) fun r3 =>
  bnd (oMv x0 r3.2) fun r4 =>
  bnd (call (fnV 51) [r4.1] r4.2) fun r5 =>
  bnd (oMv r5.1 r5.2) fun r6 =>
  bnd (oExtract r6.1 0 r6.2) fun r7 =>
  bnd (oExtract r6.1 1 r7.2) fun r8 =>
  bnd (oExtract r6.1 2 r8.2) fun r9 =>
  bnd (oMv r7.1 r9.2) fun r10 =>
  bnd (oMv r8.1 r10.2) fun r11 =>
  bnd (oMv r9.1 r11.2) fun r12 =>
  bnd (oMv r12.1 r12.2) fun r13 =>
  bnd (oBin Try.prog .neq 29 false true r13.1 (.int .i64 0) r13.2) fun r14 =>
  vIf r14.1 (
    bnd (oMv r11.1 r14.2) fun r15 =>
    bnd (oMv r12.1 r15.2) fun r16 =>
    bnd (oMv (.int .i64 0) r16.2) fun r17 =>
    bnd (oMv r15.1 r17.2) fun r18 =>
    bnd (oMv r16.1 r18.2) fun r19 =>
    oRes Try.prog [(r17.1, none), (r18.1, none), (r19.1, none)] r19.2) (
    bnd (oMv x0 r14.2) fun r20 =>
    bnd (oNilCheck r20.1 r20.2) fun r21 =>
    bnd (faO 0 r21.1 r21.2) fun r22 =>
    bnd (oMkIface Try.prog 103 r22.1 r22.2) fun r23 =>
    bnd (call (fnV 53) [r23.1] r23.2) fun r24 =>
    bnd (oMv x0 r24.2) fun r25 =>
    bnd (oNilCheck r25.1 r25.2) fun r26 =>
    bnd (faO 2 r26.1 r26.2) fun r27 =>
    bnd (ldC r27.1 r27.2) fun r28 =>
    bnd (oMv r10.1 r28.2) fun r29 =>
    bnd (oBuiltin Try.prog .delete #[107, 2] 0 #[false, false] [r28.1, r29.1] r29.2) fun r30 =>
    bnd (oMv r10.1 r30.2) fun r31 =>
    bnd (oMv r11.1 r31.2) fun r32 =>
    bnd (oMv r31.1 r32.2) fun r33 =>
    bnd (oMv r32.1 r33.2) fun r34 =>
    bnd (oMv (.int .i64 0) r34.2) fun r35 =>
    oRes Try.prog [(r33.1, none), (r34.1, none), (r35.1, none)] r35.2)
theorem heaps_Queueint_Pop_eq (call : Eng.Callee) (x0 : Value) (W : AW) : kFun Try.prog call 27 (cod 15) (rss 15) [x0] W = heaps_Queueint_Pop call x0 W := by kernel_rfl
theorem heaps_Queueint_Pop_om {x0 : Value} {W : AW} {r : Value × AW} (h : heaps_Queueint_Pop omS x0 W = some r) : omS (.func (.func 15) #[] #[]) [x0] W = some (gc W r) := om_of (nt := 27) (n := 1) (by kernel_rfl) (by kernel_rfl) rfl ((heaps_Queueint_Pop_eq omS x0 W).trans h)
noncomputable def heaps_Queueint_Len (call : Eng.Callee) (x0 : Value) (W : AW) : Option (Value × AW) :=
  bnd (oMv (.int .i64 0) W) fun r1 =>
  bnd (oMv x0 r1.2) fun r2 =>
  bnd (call (fnV 54) [r2.1] r2.2) fun r3 =>
  bnd (oUn Try.prog .not r3.1 r3.2) fun r4 =>
  vIf r4.1 (
    bnd (oMv (.int .i64 0) r4.2) fun r5 =>
    oRes Try.prog [(r5.1, none)] r5.2) (
    bnd (oMv x0 r4.2) fun r6 =>
    bnd (oNilCheck r6.1 r6.2) fun r7 =>
    bnd (faO 0 r7.1 r7.2) fun r8 =>
    bnd (faO 0 r8.1 r8.2) fun r9 =>
    bnd (ldC r9.1 r9.2) fun r10 =>
    bnd (oBuiltin Try.prog .len #[104] 3 #[false] [r10.1] r10.2) fun r11 =>
    bnd (oMv r11.1 r11.2) fun r12 =>
    oRes Try.prog [(r12.1, none)] r12.2)
theorem heaps_Queueint_Len_eq (call : Eng.Callee) (x0 : Value) (W : AW) : kFun Try.prog call 12 (cod 16) (rss 16) [x0] W = heaps_Queueint_Len call x0 W := by kernel_rfl
theorem heaps_Queueint_Len_om {x0 : Value} {W : AW} {r : Value × AW} (h : heaps_Queueint_Len omS x0 W = some r) : omS (.func (.func 16) #[] #[]) [x0] W = some (gc W r) := om_of (nt := 12) (n := 1) (by kernel_rfl) (by kernel_rfl) rfl ((heaps_Queueint_Len_eq omS x0 W).trans h)
noncomputable def heaps_Queueint_Push (call : Eng.Callee) (x0 x1 : Value) (W : AW) : Option (Value × AW) :=
  bnd (oMv (.int .i64 0) W) fun r1 =>
  bnd (oMv (.int .i64 0) r1.2) fun r2 =>
  bnd (oMv x0 r2.2) fun r3 =>
  bnd (call (fnV 54) [r3.1] r3.2) fun r4 =>
  bnd (oUn Try.prog .not r4.1 r4.2) fun r5 =>
  bnd (oMv r5.1 r5.2) fun r6 =>
  vIf r6.1 (
    bnd (oMv (.int .i64 0) r6.2) fun r7 =>
    bnd (oMv (.int .i64 1) r7.2) fun r8 =>
    oRes Try.prog [(r7.1, none), (r8.1, none)] r8.2) (
    bnd (oMv x0 r6.2) fun r9 =>
    bnd (oNilCheck r9.1 r9.2) fun r10 =>
    bnd (faO 0 r10.1 r10.2) fun r11 =>
    bnd (faO 0 r11.1 r11.2) fun r12 =>
    bnd (ldC r12.1 r12.2) fun r13 =>
    bnd (oBuiltin Try.prog .len #[104] 3 #[false] [r13.1] r13.2) fun r14 =>
    bnd (oBin Try.prog .geq 3 false true r14.1 (.int .i64 5000) r14.2) fun r15 =>
    bnd (oMv r15.1 r15.2) fun r16 =>
    bnd (bIf (wnt r16.1 false) (oMv x0 r16.2) (some (undef, r16.2))) fun r17 =>
    bnd (bIf (wnt r16.1 false) (oNilCheck r17.1 r17.2) (some (undef, r17.2))) fun r18 =>
    bnd (bIf (wnt r16.1 false) (faO 3 r18.1 r18.2) (some (undef, r18.2))) fun r19 =>
    bnd (bIf (wnt r16.1 false) (ldC r19.1 r19.2) (some (undef, r19.2))) fun r20 =>
    bnd (bIf (wnt r16.1 false) (oBin Try.prog .geq 2 false true r20.1 (.int .i64 1000000000000000) r20.2) (some (undef, r20.2))) fun r21 =>
    bnd (oPick r16.1 (.bool true) r21.1 r21.2) fun r22 =>
    bnd (oMv r22.1 r22.2) fun r23 =>
    vIf r23.1 (
      bnd (oMv (.int .i64 0) r23.2) fun r24 =>
      bnd (oMv (.int .i64 5) r24.2) fun r25 =>
      oRes Try.prog [(r24.1, none), (r25.1, none)] r25.2) (
      bnd (oMv x0 r23.2) fun r26 =>
      bnd (oNilCheck r26.1 r26.2) fun r27 =>
      bnd (faO 3 r27.1 r27.2) fun r28 =>
      bnd (ldC r28.1 r28.2) fun r29 =>
      bnd (oMv x1 r29.2) fun r30 =>
      bnd (oBuild Try.prog 132 [(0, r29.1), (1, r30.1)] r30.2) fun r31 =>
      bnd (oBox r31.1 r31.2) fun r32 =>
      bnd (oMv r32.1 r32.2) fun r33 =>
      bnd (oMv x0 r33.2) fun r34 =>
      bnd (oNilCheck r34.1 r34.2) fun r35 =>
      bnd (faO 3 r35.1 r35.2) fun r36 =>
      bnd (ldC r36.1 r36.2) fun r37 =>
      bnd (oBin Try.prog .add 2 false true r37.1 (.int .i64 1) r37.2) fun r38 =>
      bnd (oNilCheck r34.1 r38.2) fun r39 =>
      bnd (faO 3 r39.1 r39.2) fun r40 =>
      bnd (stV 1 r40.1 r38.1 r40.2) fun r41 =>
      bnd (oMv x0 r41.2) fun r42 =>
      bnd (oNilCheck r42.1 r42.2) fun r43 =>
      bnd (faO 2 r43.1 r43.2) fun r44 =>
      bnd (ldC r44.1 r44.2) fun r45 =>
      bnd (oMv r33.1 r45.2) fun r46 =>
      bnd (oNilCheck r46.1 r46.2) fun r47 =>
      bnd (faO 0 r47.1 r47.2) fun r48 =>
      bnd (ldC r48.1 r48.2) fun r49 =>
      bnd (oMv r33.1 r49.2) fun r50 =>
      bnd (oMapUpdate Try.prog 107 r45.1 r49.1 r50.1 r50.2) fun r51 =>
      bnd (oMv x0 r51.2) fun r52 =>
      bnd (oNilCheck r52.1 r52.2) fun r53 =>
      bnd (faO 0 r53.1 r53.2) fun r54 =>
      bnd (oMkIface Try.prog 103 r54.1 r54.2) fun r55 =>
      bnd (oMv r33.1 r55.2) fun r56 =>
      bnd (oMkIface Try.prog 127 r56.1 r56.2) fun r57 =>
      bnd (call (fnV 70) [r55.1, r57.1] r57.2) fun r58 =>
      bnd (oMv r33.1 r58.2) fun r59 =>
      bnd (oNilCheck r59.1 r59.2) fun r60 =>
      bnd (faO 0 r60.1 r60.2) fun r61 =>
      bnd (ldC r61.1 r61.2) fun r62 =>
      bnd (oMv r62.1 r62.2) fun r63 =>
      bnd (oMv (.int .i64 0) r63.2) fun r64 =>
      oRes Try.prog [(r63.1, none), (r64.1, none)] r64.2))
theorem heaps_Queueint_Push_eq (call : Eng.Callee) (x0 x1 : Value) (W : AW) : kFun Try.prog call 60 (cod 25) (rss 25) [x0, x1] W = heaps_Queueint_Push call x0 x1 W := by kernel_rfl
theorem heaps_Queueint_Push_om {x0 x1 : Value} {W : AW} {r : Value × AW} (h : heaps_Queueint_Push omS x0 x1 W = some r) : omS (.func (.func 25) #[] #[]) [x0, x1] W = some (gc W r) := om_of (nt := 60) (n := 2) (by kernel_rfl) (by kernel_rfl) rfl ((heaps_Queueint_Push_eq omS x0 x1 W).trans h)
noncomputable def heaps_Newint (call : Eng.Callee) (x0 : Value) (W : AW) : Option (Value × AW) :=
  bnd (oMv (.pointer none) W) fun r1 =>
  bnd (oMv x0 r1.2) fun r2 =>
  bnd (oBin Try.prog .eql 26 false true r2.1 .nilFunc r2.2) fun r3 =>
  vIf r3.1 (
    bnd (oMv (.pointer none) r3.2) fun r4 =>
    oRes Try.prog [(r4.1, none)] r4.2) (
    bnd (oMv x0 r3.2) fun r5 =>
    bnd (oBuild Try.prog 106 [(1, r5.1)] r5.2) fun r6 =>
    bnd (oMkMap Try.prog 107 none r6.2) fun r7 =>
    bnd (oBuild Try.prog 109 [(0, r6.1), (1, r7.1), (2, (.int .i64 1))] r7.2) fun r8 =>
    bnd (oBox r8.1 r8.2) fun r9 =>
    bnd (oMv r9.1 r9.2) fun r10 =>
    oRes Try.prog [(r10.1, none)] r10.2)
theorem heaps_Newint_eq (call : Eng.Callee) (x0 : Value) (W : AW) : kFun Try.prog call 10 (cod 38) (rss 38) [x0] W = heaps_Newint call x0 W := by kernel_rfl
theorem heaps_Newint_om {x0 : Value} {W : AW} {r : Value × AW} (h : heaps_Newint omS x0 W = some r) : omS (.func (.func 38) #[] #[]) [x0] W = some (gc W r) := om_of (nt := 10) (n := 1) (by kernel_rfl) (by kernel_rfl) rfl ((heaps_Newint_eq omS x0 W).trans h)
noncomputable def heaps_Queueint_Peek (call : Eng.Callee) (x0 : Value) (W : AW) : Option (Value × AW) :=
  bnd (oMv (.int .i64 0) W) fun r1 =>
  bnd (oMv (.int .i64 0) r1.2) fun r2 =>
  bnd (oMv (.int .i64 0) r2.2) fun r3 =>
  bnd (oMv x0 r3.2) fun r4 =>
  bnd (call (fnV 54) [r4.1] r4.2) fun r5 =>
  bnd (oUn Try.prog .not r5.1 r5.2) fun r6 =>
  bnd (oMv r6.1 r6.2) fun r7 =>
  vIf r7.1 (
    bnd (oMv r2.1 r7.2) fun r8 =>
    bnd (oMv (.int .i64 0) r8.2) fun r9 =>
    bnd (oMv r8.1 r9.2) fun r10 =>
    bnd (oMv (.int .i64 1) r10.2) fun r11 =>
    oRes Try.prog [(r9.1, none), (r10.1, none), (r11.1, none)] r11.2) (
    bnd (oMv x0 r7.2) fun r12 =>
    bnd (oNilCheck r12.1 r12.2) fun r13 =>
    bnd (faO 0 r13.1 r13.2) fun r14 =>
    bnd (faO 0 r14.1 r14.2) fun r15 =>
    bnd (ldC r15.1 r15.2) fun r16 =>
    bnd (oBuiltin Try.prog .len #[104] 3 #[false] [r16.1] r16.2) fun r17 =>
    bnd (oBin Try.prog .eql 3 false true r17.1 (.int .i64 0) r17.2) fun r18 =>
    bnd (oMv r18.1 r18.2) fun r19 =>
    vIf r19.1 (
      bnd (oMv r2.1 r19.2) fun r20 =>
      bnd (oMv (.int .i64 0) r20.2) fun r21 =>
      bnd (oMv r20.1 r21.2) fun r22 =>
      bnd (oMv (.int .i64 4) r22.2) fun r23 =>
      oRes Try.prog [(r21.1, none), (r22.1, none), (r23.1, none)] r23.2) (
      bnd (oMv x0 r19.2) fun r24 =>
      bnd (oNilCheck r24.1 r24.2) fun r25 =>
      bnd (faO 0 r25.1 r25.2) fun r26 =>
      bnd (faO 0 r26.1 r26.2) fun r27 =>
      bnd (ldC r27.1 r27.2) fun r28 =>
      bnd (ixS 1 r28.1 (.int .i64 0) r28.2) fun r29 =>
      bnd (ldC r29.1 r29.2) fun r30 =>
      bnd (oMv r30.1 r30.2) fun r31 =>
      bnd (oMv r31.1 r31.2) fun r32 =>
      bnd (oNilCheck r32.1 r32.2) fun r33 =>
      bnd (faO 0 r33.1 r33.2) fun r34 =>
      bnd (ldC r34.1 r34.2) fun r35 =>
      bnd (oMv r31.1 r35.2) fun r36 =>
      bnd (oNilCheck r36.1 r36.2) fun r37 =>
      bnd (faO 1 r37.1 r37.2) fun r38 =>
      bnd (ldC r38.1 r38.2) fun r39 =>
      bnd (oMv r35.1 r39.2) fun r40 =>
      bnd (oMv r39.1 r40.2) fun r41 =>
      bnd (oMv (.int .i64 0) r41.2) fun r42 =>
      oRes Try.prog [(r40.1, none), (r41.1, none), (r42.1, none)] r42.2))
theorem heaps_Queueint_Peek_eq (call : Eng.Callee) (x0 : Value) (W : AW) : kFun Try.prog call 35 (cod 51) (rss 51) [x0] W = heaps_Queueint_Peek call x0 W := by kernel_rfl
theorem heaps_Queueint_Peek_om {x0 : Value} {W : AW} {r : Value × AW} (h : heaps_Queueint_Peek omS x0 W = some r) : omS (.func (.func 51) #[] #[]) [x0] W = some (gc W r) := om_of (nt := 35) (n := 1) (by kernel_rfl) (by kernel_rfl) rfl ((heaps_Queueint_Peek_eq omS x0 W).trans h)
noncomputable def containerheap_Pop (call : Eng.Callee) (x0 : Value) (W : AW) : Option (Value × AW) :=
  bnd (oMv .nilIface W) fun r1 =>
  bnd (oMv x0 r1.2) fun r2 =>
  bnd (oInvoke Try.prog call r2.1 "Len" [] r2.2) fun r3 =>
  bnd (oBin Try.prog .sub 3 false true r3.1 (.int .i64 1) r3.2) fun r4 =>
  bnd (oMv r4.1 r4.2) fun r5 =>
  bnd (oMv x0 r5.2) fun r6 =>
  bnd (oMv r5.1 r6.2) fun r7 =>
  bnd (oInvoke Try.prog call r6.1 "Swap" [(.int .i64 0), r7.1] r7.2) fun r8 =>
  bnd (oMv x0 r8.2) fun r9 =>
  bnd (oMv r5.1 r9.2) fun r10 =>
  bnd (call (fnV 94) [r9.1, (.int .i64 0), r10.1] r10.2) fun r11 =>
  bnd (oMv x0 r11.2) fun r12 =>
  bnd (oInvoke Try.prog call r12.1 "Pop" [] r12.2) fun r13 =>
  bnd (oMv r13.1 r13.2) fun r14 =>
  oRes Try.prog [(r14.1, none)] r14.2
theorem containerheap_Pop_eq (call : Eng.Callee) (x0 : Value) (W : AW) : kFun Try.prog call 15 (cod 53) (rss 53) [x0] W = containerheap_Pop call x0 W := by kernel_rfl
theorem containerheap_Pop_om {x0 : Value} {W : AW} {r : Value × AW} (h : containerheap_Pop omS x0 W = some r) : omS (.func (.func 53) #[] #[]) [x0] W = some (gc W r) := om_of (nt := 15) (n := 1) (by kernel_rfl) (by kernel_rfl) rfl ((containerheap_Pop_eq omS x0 W).trans h)
noncomputable def heaps_Queueint_made (call : Eng.Callee) (x0 : Value) (W : AW) : Option (Value × AW) :=
  bnd (oMv (.bool false) W) fun r1 =>
  bnd (oMv x0 r1.2) fun r2 =>
  bnd (oBin Try.prog .neq 24 false true r2.1 (.pointer none) r2.2) fun r3 =>
  bnd (oMv r3.1 r3.2) fun r4 =>
  bnd (bIf (wnt r4.1 true) (oMv x0 r4.2) (some (undef, r4.2))) fun r5 =>
  bnd (bIf (wnt r4.1 true) (oNilCheck r5.1 r5.2) (some (undef, r5.2))) fun r6 =>
  bnd (bIf (wnt r4.1 true) (faO 2 r6.1 r6.2) (some (undef, r6.2))) fun r7 =>
  bnd (bIf (wnt r4.1 true) (ldC r7.1 r7.2) (some (undef, r7.2))) fun r8 =>
  bnd (bIf (wnt r4.1 true) (oBin Try.prog .neq 107 false true r8.1 (.map none) r8.2) (some (undef, r8.2))) fun r9 =>
  bnd (oPick r4.1 r9.1 (.bool false) r9.2) fun r10 =>
  bnd (oMv r10.1 r10.2) fun r11 =>
  oRes Try.prog [(r11.1, none)] r11.2
theorem heaps_Queueint_made_eq (call : Eng.Callee) (x0 : Value) (W : AW) : kFun Try.prog call 12 (cod 54) (rss 54) [x0] W = heaps_Queueint_made call x0 W := by kernel_rfl
theorem heaps_Queueint_made_om {x0 : Value} {W : AW} {r : Value × AW} (h : heaps_Queueint_made omS x0 W = some r) : omS (.func (.func 54) #[] #[]) [x0] W = some (gc W r) := om_of (nt := 12) (n := 1) (by kernel_rfl) (by kernel_rfl) rfl ((heaps_Queueint_made_eq omS x0 W).trans h)
noncomputable def containerheap_Push (call : Eng.Callee) (x0 x1 : Value) (W : AW) : Option (Value × AW) :=
  bnd (oMv x0 W) fun r1 =>
  bnd (oMv x1 r1.2) fun r2 =>
  bnd (oInvoke Try.prog call r1.1 "Push" [r2.1] r2.2) fun r3 =>
  bnd (oMv x0 r3.2) fun r4 =>
  bnd (oMv x0 r4.2) fun r5 =>
  bnd (oInvoke Try.prog call r5.1 "Len" [] r5.2) fun r6 =>
  bnd (oBin Try.prog .sub 3 false true r6.1 (.int .i64 1) r6.2) fun r7 =>
  bnd (call (fnV 104) [r4.1, r7.1] r7.2) fun r8 =>
  oRes Try.prog [] r8.2
theorem containerheap_Push_eq (call : Eng.Callee) (x0 x1 : Value) (W : AW) : kFun Try.prog call 12 (cod 70) (rss 70) [x0, x1] W = containerheap_Push call x0 x1 W := by kernel_rfl
theorem containerheap_Push_om {x0 x1 : Value} {W : AW} {r : Value × AW} (h : containerheap_Push omS x0 x1 W = some r) : omS (.func (.func 70) #[] #[]) [x0, x1] W = some (gc W r) := om_of (nt := 12) (n := 2) (by kernel_rfl) (by kernel_rfl) rfl ((containerheap_Push_eq omS x0 x1 W).trans h)
noncomputable def heaps_pileint_Less (call : Eng.Callee) (x0 x1 x2 : Value) (W : AW) : Option (Value × AW) :=
  bnd (oMv (.bool false) W) fun r1 =>
  bnd (oMv x0 r1.2) fun r2 =>
  bnd (oMv x0 r2.2) fun r3 =>
  bnd (oNilCheck r3.1 r3.2) fun r4 =>
  bnd (faO 0 r4.1 r4.2) fun r5 =>
  bnd (ldC r5.1 r5.2) fun r6 =>
  bnd (oMv x1 r6.2) fun r7 =>
  bnd (ixS 1 r6.1 r7.1 r7.2) fun r8 =>
  bnd (ldC r8.1 r8.2) fun r9 =>
  bnd (oMv x0 r9.2) fun r10 =>
  bnd (oNilCheck r10.1 r10.2) fun r11 =>
  bnd (faO 0 r11.1 r11.2) fun r12 =>
  bnd (ldC r12.1 r12.2) fun r13 =>
  bnd (oMv x2 r13.2) fun r14 =>
  bnd (ixS 1 r13.1 r14.1 r14.2) fun r15 =>
  bnd (ldC r15.1 r15.2) fun r16 =>
  bnd (call (fnV 103) [r2.1, r9.1, r16.1] r16.2) fun r17 =>
  bnd (oMv r17.1 r17.2) fun r18 =>
  oRes Try.prog [(r18.1, none)] r18.2
theorem heaps_pileint_Less_eq (call : Eng.Callee) (x0 x1 x2 : Value) (W : AW) : kFun Try.prog call 23 (cod 73) (rss 73) [x0, x1, x2] W = heaps_pileint_Less call x0 x1 x2 W := by kernel_rfl
theorem heaps_pileint_Less_om {x0 x1 x2 : Value} {W : AW} {r : Value × AW} (h : heaps_pileint_Less omS x0 x1 x2 W = some r) : omS (.func (.func 73) #[] #[]) [x0, x1, x2] W = some (gc W r) := om_of (nt := 23) (n := 3) (by kernel_rfl) (by kernel_rfl) rfl ((heaps_pileint_Less_eq omS x0 x1 x2 W).trans h)
noncomputable def containerheap_down_L1 (call : Eng.Callee) (R : Nat → Value) (W : AW) : Option LT :=
  bnd (oMv (R 7) W) fun r4 =>
  bnd (oBin Try.prog .mul 3 true false (.int .i64 2) r4.1 r4.2) fun r5 =>
  bnd (oBin Try.prog .add 3 false true r5.1 (.int .i64 1) r5.2) fun r6 =>
  bnd (oMv r6.1 r6.2) fun r7 =>
  bnd (oMv r7.1 r7.2) fun r8 =>
  bnd (oMv (R 2) r8.2) fun r9 =>
  bnd (oBin Try.prog .geq 3 false false r8.1 r9.1 r9.2) fun r10 =>
  bnd (oMv r10.1 r10.2) fun r11 =>
  bnd (bIf (wnt r11.1 false) (oMv r7.1 r11.2) (some (undef, r11.2))) fun r12 =>
  bnd (bIf (wnt r11.1 false) (oBin Try.prog .lss 3 false true r12.1 (.int .i64 0) r12.2) (some (undef, r12.2))) fun r13 =>
  bnd (oPick r11.1 (.bool true) r13.1 r13.2) fun r14 =>
  vIf r14.1 (
    some (X.exit 0, (rput (rput (rput (rput (rput (rput (rput (rput (rput (rput (rput R (some 12) r4.1) (some 13) r5.1) (some 14) r6.1) (some 8) r7.1) (some 15) r8.1) (some 16) r9.1) (some 17) r10.1) (some 18) r11.1) (some 19) r12.1) (some 20) r13.1) (some 21) r14.1), r14.2)) (
    bnd (oMv r7.1 r14.2) fun r15 =>
    bnd (oMv r15.1 r15.2) fun r16 =>
    bnd (oMv r7.1 r16.2) fun r17 =>
    bnd (oBin Try.prog .add 3 false true r17.1 (.int .i64 1) r17.2) fun r18 =>
    bnd (oMv r18.1 r18.2) fun r19 =>
    bnd (oMv r19.1 r19.2) fun r20 =>
    bnd (oMv (R 2) r20.2) fun r21 =>
    bnd (oBin Try.prog .lss 3 false false r20.1 r21.1 r21.2) fun r22 =>
    bnd (oMv r22.1 r22.2) fun r23 =>
    bnd (bIf (wnt r23.1 true) (oMv (R 0) r23.2) (some (undef, r23.2))) fun r24 =>
    bnd (bIf (wnt r23.1 true) (oMv r19.1 r24.2) (some (undef, r24.2))) fun r25 =>
    bnd (bIf (wnt r23.1 true) (oMv r7.1 r25.2) (some (undef, r25.2))) fun r26 =>
    bnd (bIf (wnt r23.1 true) (oInvoke Try.prog call r24.1 "Less" [r25.1, r26.1] r26.2) (some (undef, r26.2))) fun r27 =>
    bnd (oPick r23.1 r27.1 (.bool false) r27.2) fun r28 =>
    vIf r28.1 (
      bnd (oMv r19.1 r28.2) fun r29 =>
      bnd (oMv r29.1 r29.2) fun r30 =>
      bnd (oMv (R 0) r30.2) fun r31 =>
      bnd (oMv r30.1 r31.2) fun r32 =>
      bnd (oMv (R 7) r32.2) fun r33 =>
      bnd (oInvoke Try.prog call r31.1 "Less" [r32.1, r33.1] r33.2) fun r34 =>
      bnd (oUn Try.prog .not r34.1 r34.2) fun r35 =>
      vIf r35.1 (
        some (X.exit 0, (rput (rput (rput (rput (rput (rput (rput (rput (rput (rput (rput (rput (rput (rput (rput (rput (rput (rput (rput (rput (rput (rput (rput (rput (rput (rput (rput (rput (rput (rput (rput (rput R (some 12) r4.1) (some 13) r5.1) (some 14) r6.1) (some 8) r7.1) (some 15) r8.1) (some 16) r9.1) (some 17) r10.1) (some 18) r11.1) (some 19) r12.1) (some 20) r13.1) (some 21) r14.1) (some 22) r15.1) (some 9) r16.1) (some 23) r17.1) (some 24) r18.1) (some 10) r19.1) (some 25) r20.1) (some 26) r21.1) (some 27) r22.1) (some 28) r23.1) (some 29) r24.1) (some 30) r25.1) (some 31) r26.1) (some 32) r27.1) (some 33) r28.1) (some 34) r29.1) (some 9) r30.1) (some 35) r31.1) (some 36) r32.1) (some 37) r33.1) (some 38) r34.1) (some 39) r35.1), r35.2)) (
        bnd (oMv (R 0) r35.2) fun r36 =>
        bnd (oMv (R 7) r36.2) fun r37 =>
        bnd (oMv r30.1 r37.2) fun r38 =>
        bnd (oInvoke Try.prog call r36.1 "Swap" [r37.1, r38.1] r38.2) fun r39 =>
        bnd (oMv r30.1 r39.2) fun r40 =>
        bnd (oMv r40.1 r40.2) fun r41 =>
        some (X.normal, (rput (rput (rput (rput (rput (rput (rput (rput (rput (rput (rput (rput (rput (rput (rput (rput (rput (rput (rput (rput (rput (rput (rput (rput (rput (rput (rput (rput (rput (rput (rput (rput (rput (rput (rput (rput (rput (rput R (some 12) r4.1) (some 13) r5.1) (some 14) r6.1) (some 8) r7.1) (some 15) r8.1) (some 16) r9.1) (some 17) r10.1) (some 18) r11.1) (some 19) r12.1) (some 20) r13.1) (some 21) r14.1) (some 22) r15.1) (some 9) r16.1) (some 23) r17.1) (some 24) r18.1) (some 10) r19.1) (some 25) r20.1) (some 26) r21.1) (some 27) r22.1) (some 28) r23.1) (some 29) r24.1) (some 30) r25.1) (some 31) r26.1) (some 32) r27.1) (some 33) r28.1) (some 34) r29.1) (some 9) r30.1) (some 35) r31.1) (some 36) r32.1) (some 37) r33.1) (some 38) r34.1) (some 39) r35.1) (some 40) r36.1) (some 41) r37.1) (some 42) r38.1) (some 43) r39.1) (some 44) r40.1) (some 7) r41.1), r41.2))) (
      bnd (oMv (R 0) r28.2) fun r42 =>
      bnd (oMv r16.1 r42.2) fun r43 =>
      bnd (oMv (R 7) r43.2) fun r44 =>
      bnd (oInvoke Try.prog call r42.1 "Less" [r43.1, r44.1] r44.2) fun r45 =>
      bnd (oUn Try.prog .not r45.1 r45.2) fun r46 =>
      vIf r46.1 (
        some (X.exit 0, (rput (rput (rput (rput (rput (rput (rput (rput (rput (rput (rput (rput (rput (rput (rput (rput (rput (rput (rput (rput (rput (rput (rput (rput (rput (rput (rput (rput (rput (rput R (some 12) r4.1) (some 13) r5.1) (some 14) r6.1) (some 8) r7.1) (some 15) r8.1) (some 16) r9.1) (some 17) r10.1) (some 18) r11.1) (some 19) r12.1) (some 20) r13.1) (some 21) r14.1) (some 22) r15.1) (some 9) r16.1) (some 23) r17.1) (some 24) r18.1) (some 10) r19.1) (some 25) r20.1) (some 26) r21.1) (some 27) r22.1) (some 28) r23.1) (some 29) r24.1) (some 30) r25.1) (some 31) r26.1) (some 32) r27.1) (some 33) r28.1) (some 35) r42.1) (some 36) r43.1) (some 37) r44.1) (some 38) r45.1) (some 39) r46.1), r46.2)) (
        bnd (oMv (R 0) r46.2) fun r47 =>
        bnd (oMv (R 7) r47.2) fun r48 =>
        bnd (oMv r16.1 r48.2) fun r49 =>
        bnd (oInvoke Try.prog call r47.1 "Swap" [r48.1, r49.1] r49.2) fun r50 =>
        bnd (oMv r16.1 r50.2) fun r51 =>
        bnd (oMv r51.1 r51.2) fun r52 =>
        some (X.normal, (rput (rput (rput (rput (rput (rput (rput (rput (rput (rput (rput (rput (rput (rput (rput (rput (rput (rput (rput (rput (rput (rput (rput (rput (rput (rput (rput (rput (rput (rput (rput (rput (rput (rput (rput (rput R (some 12) r4.1) (some 13) r5.1) (some 14) r6.1) (some 8) r7.1) (some 15) r8.1) (some 16) r9.1) (some 17) r10.1) (some 18) r11.1) (some 19) r12.1) (some 20) r13.1) (some 21) r14.1) (some 22) r15.1) (some 9) r16.1) (some 23) r17.1) (some 24) r18.1) (some 10) r19.1) (some 25) r20.1) (some 26) r21.1) (some 27) r22.1) (some 28) r23.1) (some 29) r24.1) (some 30) r25.1) (some 31) r26.1) (some 32) r27.1) (some 33) r28.1) (some 35) r42.1) (some 36) r43.1) (some 37) r44.1) (some 38) r45.1) (some 39) r46.1) (some 40) r47.1) (some 41) r48.1) (some 42) r49.1) (some 43) r50.1) (some 44) r51.1) (some 7) r52.1), r52.2))))
noncomputable def containerheap_down (call : Eng.Callee) (x0 x1 x2 : Value) (W : AW) : Option (Value × AW) :=
  bnd (oMv (.bool false) W) fun r1 =>
  bnd (oMv x1 r1.2) fun r2 =>
  bnd (oMv r2.1 r2.2) fun r3 =>
  bnd (loopO (containerheap_down_L1 call) (rput (rput (rput (argGo 0 [x0, x1, x2] PlanTab.blank) (some 6) r1.1) (some 11) r2.1) (some 7) r3.1) r3.2) fun r53 =>
  kExit 0 r53.1 (
    bnd (oMv (r53.2.1 7) r53.2.2) fun r54 =>
    bnd (oMv (r53.2.1 1) r54.2) fun r55 =>
    bnd (oBin Try.prog .gtr 3 false false r54.1 r55.1 r55.2) fun r56 =>
    bnd (oMv r56.1 r56.2) fun r57 =>
    oRes Try.prog [(r57.1, none)] r57.2) (none)
theorem containerheap_down_eq (call : Eng.Callee) (x0 x1 x2 : Value) (W : AW) : kFun Try.prog call 48 (cod 94) (rss 94) [x0, x1, x2] W = containerheap_down call x0 x1 x2 W := by kernel_rfl
theorem containerheap_down_om {x0 x1 x2 : Value} {W : AW} {r : Value × AW} (h : containerheap_down omS x0 x1 x2 W = some r) : omS (.func (.func 94) #[] #[]) [x0, x1, x2] W = some (gc W r) := om_of (nt := 48) (n := 3) (by kernel_rfl) (by kernel_rfl) rfl ((containerheap_down_eq omS x0 x1 x2 W).trans h)
noncomputable def heaps_pileint_before (call : Eng.Callee) (x0 x1 x2 : Value) (W : AW) : Option (Value × AW) :=
  bnd (oMv (.bool false) W) fun r1 =>
  bnd (oMv x0 r1.2) fun r2 =>
  bnd (oNilCheck r2.1 r2.2) fun r3 =>
  bnd (faO 1 r3.1 r3.2) fun r4 =>
  bnd (ldC r4.1 r4.2) fun r5 =>
  bnd (oMv x1 r5.2) fun r6 =>
  bnd (oNilCheck r6.1 r6.2) fun r7 =>
  bnd (faO 1 r7.1 r7.2) fun r8 =>
  bnd (ldC r8.1 r8.2) fun r9 =>
  bnd (oMv x2 r9.2) fun r10 =>
  bnd (oNilCheck r10.1 r10.2) fun r11 =>
  bnd (faO 1 r11.1 r11.2) fun r12 =>
  bnd (ldC r12.1 r12.2) fun r13 =>
  bnd (call r5.1 [r9.1, r13.1] r13.2) fun r14 =>
  bnd (oMv r14.1 r14.2) fun r15 =>
  vIf r15.1 (
    bnd (oMv (.bool true) r15.2) fun r16 =>
    oRes Try.prog [(r16.1, none)] r16.2) (
    bnd (oMv x0 r15.2) fun r17 =>
    bnd (oNilCheck r17.1 r17.2) fun r18 =>
    bnd (faO 1 r18.1 r18.2) fun r19 =>
    bnd (ldC r19.1 r19.2) fun r20 =>
    bnd (oMv x2 r20.2) fun r21 =>
    bnd (oNilCheck r21.1 r21.2) fun r22 =>
    bnd (faO 1 r22.1 r22.2) fun r23 =>
    bnd (ldC r23.1 r23.2) fun r24 =>
    bnd (oMv x1 r24.2) fun r25 =>
    bnd (oNilCheck r25.1 r25.2) fun r26 =>
    bnd (faO 1 r26.1 r26.2) fun r27 =>
    bnd (ldC r27.1 r27.2) fun r28 =>
    bnd (call r20.1 [r24.1, r28.1] r28.2) fun r29 =>
    bnd (oMv r29.1 r29.2) fun r30 =>
    vIf r30.1 (
      bnd (oMv (.bool false) r30.2) fun r31 =>
      oRes Try.prog [(r31.1, none)] r31.2) (
      bnd (oMv x1 r30.2) fun r32 =>
      bnd (oNilCheck r32.1 r32.2) fun r33 =>
      bnd (faO 0 r33.1 r33.2) fun r34 =>
      bnd (ldC r34.1 r34.2) fun r35 =>
      bnd (oMv x2 r35.2) fun r36 =>
      bnd (oNilCheck r36.1 r36.2) fun r37 =>
      bnd (faO 0 r37.1 r37.2) fun r38 =>
      bnd (ldC r38.1 r38.2) fun r39 =>
      bnd (oBin Try.prog .lss 2 false false r35.1 r39.1 r39.2) fun r40 =>
      bnd (oMv r40.1 r40.2) fun r41 =>
      oRes Try.prog [(r41.1, none)] r41.2))
theorem heaps_pileint_before_eq (call : Eng.Callee) (x0 x1 x2 : Value) (W : AW) : kFun Try.prog call 44 (cod 103) (rss 103) [x0, x1, x2] W = heaps_pileint_before call x0 x1 x2 W := by kernel_rfl
theorem heaps_pileint_before_om {x0 x1 x2 : Value} {W : AW} {r : Value × AW} (h : heaps_pileint_before omS x0 x1 x2 W = some r) : omS (.func (.func 103) #[] #[]) [x0, x1, x2] W = some (gc W r) := om_of (nt := 44) (n := 3) (by kernel_rfl) (by kernel_rfl) rfl ((heaps_pileint_before_eq omS x0 x1 x2 W).trans h)
theorem heaps_pileint_before_om1 {x0 x1 x2 : Value} {W : AW} {r : Value × AW} (h : heaps_pileint_before om1 x0 x1 x2 W = some r) : om1 (.func (.func 103) #[] #[]) [x0, x1, x2] W = some (gc W r) := om_of (nt := 44) (n := 3) (by kernel_rfl) (by kernel_rfl) rfl ((heaps_pileint_before_eq om1 x0 x1 x2 W).trans h)
noncomputable def containerheap_up_L1 (call : Eng.Callee) (R : Nat → Value) (W : AW) : Option LT :=
  bnd (oMv (R 1) W) fun r1 =>
  bnd (oBin Try.prog .sub 3 false true r1.1 (.int .i64 1) r1.2) fun r2 =>
  bnd (oBin Try.prog .quo 3 false true r2.1 (.int .i64 2) r2.2) fun r3 =>
  bnd (oMv r3.1 r3.2) fun r4 =>
  bnd (oMv r4.1 r4.2) fun r5 =>
  bnd (oMv (R 1) r5.2) fun r6 =>
  bnd (oBin Try.prog .eql 3 false false r5.1 r6.1 r6.2) fun r7 =>
  bnd (oMv r7.1 r7.2) fun r8 =>
  bnd (bIf (wnt r8.1 false) (oMv (R 0) r8.2) (some (undef, r8.2))) fun r9 =>
  bnd (bIf (wnt r8.1 false) (oMv (R 1) r9.2) (some (undef, r9.2))) fun r10 =>
  bnd (bIf (wnt r8.1 false) (oMv r4.1 r10.2) (some (undef, r10.2))) fun r11 =>
  bnd (bIf (wnt r8.1 false) (oInvoke Try.prog call r9.1 "Less" [r10.1, r11.1] r11.2) (some (undef, r11.2))) fun r12 =>
  bnd (bIf (wnt r8.1 false) (oUn Try.prog .not r12.1 r12.2) (some (undef, r12.2))) fun r13 =>
  bnd (oPick r8.1 (.bool true) r13.1 r13.2) fun r14 =>
  vIf r14.1 (
    some (X.exit 0, (rput (rput (rput (rput (rput (rput (rput (rput (rput (rput (rput (rput (rput (rput R (some 5) r1.1) (some 6) r2.1) (some 7) r3.1) (some 4) r4.1) (some 8) r5.1) (some 9) r6.1) (some 10) r7.1) (some 11) r8.1) (some 12) r9.1) (some 13) r10.1) (some 14) r11.1) (some 15) r12.1) (some 16) r13.1) (some 17) r14.1), r14.2)) (
    bnd (oMv (R 0) r14.2) fun r15 =>
    bnd (oMv r4.1 r15.2) fun r16 =>
    bnd (oMv (R 1) r16.2) fun r17 =>
    bnd (oInvoke Try.prog call r15.1 "Swap" [r16.1, r17.1] r17.2) fun r18 =>
    bnd (oMv r4.1 r18.2) fun r19 =>
    bnd (oMv r19.1 r19.2) fun r20 =>
    some (X.normal, (rput (rput (rput (rput (rput (rput (rput (rput (rput (rput (rput (rput (rput (rput (rput (rput (rput (rput (rput (rput R (some 5) r1.1) (some 6) r2.1) (some 7) r3.1) (some 4) r4.1) (some 8) r5.1) (some 9) r6.1) (some 10) r7.1) (some 11) r8.1) (some 12) r9.1) (some 13) r10.1) (some 14) r11.1) (some 15) r12.1) (some 16) r13.1) (some 17) r14.1) (some 18) r15.1) (some 19) r16.1) (some 20) r17.1) (some 21) r18.1) (some 22) r19.1) (some 1) r20.1), r20.2))
noncomputable def containerheap_up (call : Eng.Callee) (x0 x1 : Value) (W : AW) : Option (Value × AW) :=
  bnd (loopO (containerheap_up_L1 call) (argGo 0 [x0, x1] PlanTab.blank) W) fun r21 =>
  kExit 0 r21.1 (
    oRes Try.prog [] r21.2.2) (none)
theorem containerheap_up_eq (call : Eng.Callee) (x0 x1 : Value) (W : AW) : kFun Try.prog call 23 (cod 104) (rss 104) [x0, x1] W = containerheap_up call x0 x1 W := by kernel_rfl
theorem containerheap_up_om {x0 x1 : Value} {W : AW} {r : Value × AW} (h : containerheap_up omS x0 x1 W = some r) : omS (.func (.func 104) #[] #[]) [x0, x1] W = some (gc W r) := om_of (nt := 23) (n := 2) (by kernel_rfl) (by kernel_rfl) rfl ((containerheap_up_eq omS x0 x1 W).trans h)
noncomputable def heaps_pileint_Len (call : Eng.Callee) (x0 : Value) (W : AW) : Option (Value × AW) :=
  bnd (oMv (.int .i64 0) W) fun r1 =>
  bnd (oMv x0 r1.2) fun r2 =>
  bnd (oNilCheck r2.1 r2.2) fun r3 =>
  bnd (faO 0 r3.1 r3.2) fun r4 =>
  bnd (ldC r4.1 r4.2) fun r5 =>
  bnd (oBuiltin Try.prog .len #[104] 3 #[false] [r5.1] r5.2) fun r6 =>
  bnd (oMv r6.1 r6.2) fun r7 =>
  oRes Try.prog [(r7.1, none)] r7.2
theorem heaps_pileint_Len_eq (call : Eng.Callee) (x0 : Value) (W : AW) : kFun Try.prog call 8 (cod 190) (rss 190) [x0] W = heaps_pileint_Len call x0 W := by kernel_rfl
theorem heaps_pileint_Len_om {x0 : Value} {W : AW} {r : Value × AW} (h : heaps_pileint_Len omS x0 W = some r) : omS (.func (.func 190) #[] #[]) [x0] W = some (gc W r) := om_of (nt := 8) (n := 1) (by kernel_rfl) (by kernel_rfl) rfl ((heaps_pileint_Len_eq omS x0 W).trans h)
noncomputable def heaps_pileint_Pop (call : Eng.Callee) (x0 : Value) (W : AW) : Option (Value × AW) :=
  bnd (oMv .nilIface W) fun r1 =>
  bnd (oMv x0 r1.2) fun r2 =>
  bnd (oNilCheck r2.1 r2.2) fun r3 =>
  bnd (faO 0 r3.1 r3.2) fun r4 =>
  bnd (ldC r4.1 r4.2) fun r5 =>
  bnd (oBuiltin Try.prog .len #[104] 3 #[false] [r5.1] r5.2) fun r6 =>
  bnd (oBin Try.prog .sub 3 false true r6.1 (.int .i64 1) r6.2) fun r7 =>
  bnd (oMv r7.1 r7.2) fun r8 =>
  bnd (oMv x0 r8.2) fun r9 =>
  bnd (oNilCheck r9.1 r9.2) fun r10 =>
  bnd (faO 0 r10.1 r10.2) fun r11 =>
  bnd (ldC r11.1 r11.2) fun r12 =>
  bnd (oMv r8.1 r12.2) fun r13 =>
  bnd (ixS 1 r12.1 r13.1 r13.2) fun r14 =>
  bnd (ldC r14.1 r14.2) fun r15 =>
  bnd (oMv r15.1 r15.2) fun r16 =>
  bnd (oMv x0 r16.2) fun r17 =>
  bnd (oNilCheck r17.1 r17.2) fun r18 =>
  bnd (faO 0 r18.1 r18.2) fun r19 =>
  bnd (ldC r19.1 r19.2) fun r20 =>
  bnd (oMv r8.1 r20.2) fun r21 =>
  bnd (ixS 1 r20.1 r21.1 r21.2) fun r22 =>
  bnd (stV 1 r22.1 (.pointer none) r22.2) fun r23 =>
  bnd (oMv x0 r23.2) fun r24 =>
  bnd (oMv x0 r24.2) fun r25 =>
  bnd (oNilCheck r25.1 r25.2) fun r26 =>
  bnd (faO 0 r26.1 r26.2) fun r27 =>
  bnd (ldC r27.1 r27.2) fun r28 =>
  bnd (oMv r8.1 r28.2) fun r29 =>
  bnd (oSlice Try.prog 104 r28.1 none (some r29.1) none r29.2) fun r30 =>
  bnd (oNilCheck r24.1 r30.2) fun r31 =>
  bnd (faO 0 r31.1 r31.2) fun r32 =>
  bnd (stV 1 r32.1 r30.1 r32.2) fun r33 =>
  bnd (oMv r16.1 r33.2) fun r34 =>
  bnd (oMkIface Try.prog 127 r34.1 r34.2) fun r35 =>
  bnd (oMv r35.1 r35.2) fun r36 =>
  oRes Try.prog [(r36.1, none)] r36.2
theorem heaps_pileint_Pop_eq (call : Eng.Callee) (x0 : Value) (W : AW) : kFun Try.prog call 35 (cod 191) (rss 191) [x0] W = heaps_pileint_Pop call x0 W := by kernel_rfl
theorem heaps_pileint_Pop_om {x0 : Value} {W : AW} {r : Value × AW} (h : heaps_pileint_Pop omS x0 W = some r) : omS (.func (.func 191) #[] #[]) [x0] W = some (gc W r) := om_of (nt := 35) (n := 1) (by kernel_rfl) (by kernel_rfl) rfl ((heaps_pileint_Pop_eq omS x0 W).trans h)
noncomputable def heaps_pileint_Push (call : Eng.Callee) (x0 x1 : Value) (W : AW) : Option (Value × AW) :=
  bnd (oMv x1 W) fun r1 =>
  bnd (oAssert Try.prog r1.1 127 false r1.2) fun r2 =>
  bnd (oMv r2.1 r2.2) fun r3 =>
  bnd (oMv r3.1 r3.2) fun r4 =>
  bnd (oMv x0 r4.2) fun r5 =>
  bnd (oNilCheck r5.1 r5.2) fun r6 =>
  bnd (faO 0 r6.1 r6.2) fun r7 =>
  bnd (ldC r7.1 r7.2) fun r8 =>
  bnd (oBuiltin Try.prog .len #[104] 3 #[false] [r8.1] r8.2) fun r9 =>
  bnd (oNilCheck r4.1 r9.2) fun r10 =>
  bnd (faO 2 r10.1 r10.2) fun r11 =>
  bnd (stV 1 r11.1 r9.1 r11.2) fun r12 =>
  bnd (oMv x0 r12.2) fun r13 =>
  bnd (oMv x0 r13.2) fun r14 =>
  bnd (oNilCheck r14.1 r14.2) fun r15 =>
  bnd (faO 0 r15.1 r15.2) fun r16 =>
  bnd (ldC r16.1 r16.2) fun r17 =>
  bnd (oMv r3.1 r17.2) fun r18 =>
  bnd (oBuildSlice Try.prog 104 1 [(0, r18.1)] r18.2) fun r19 =>
  bnd (aAppend Try.prog r19.2 #[104, 104] r17.1 r19.1) fun r20 =>
  bnd (oNilCheck r13.1 r20.2) fun r21 =>
  bnd (faO 0 r21.1 r21.2) fun r22 =>
  bnd (stV 1 r22.1 r20.1 r22.2) fun r23 =>
  oRes Try.prog [] r23.2
theorem heaps_pileint_Push_eq (call : Eng.Callee) (x0 x1 : Value) (W : AW) : kFun Try.prog call 25 (cod 192) (rss 192) [x0, x1] W = heaps_pileint_Push call x0 x1 W := by kernel_rfl
theorem heaps_pileint_Push_om {x0 x1 : Value} {W : AW} {r : Value × AW} (h : heaps_pileint_Push omS x0 x1 W = some r) : omS (.func (.func 192) #[] #[]) [x0, x1] W = some (gc W r) := om_of (nt := 25) (n := 2) (by kernel_rfl) (by kernel_rfl) rfl ((heaps_pileint_Push_eq omS x0 x1 W).trans h)
noncomputable def heaps_pileint_Swap (call : Eng.Callee) (x0 x1 x2 : Value) (W : AW) : Option (Value × AW) :=
  bnd (oMv x0 W) fun r1 =>
  bnd (oNilCheck r1.1 r1.2) fun r2 =>
  bnd (faO 0 r2.1 r2.2) fun r3 =>
  bnd (ldC r3.1 r3.2) fun r4 =>
  bnd (oMv x1 r4.2) fun r5 =>
  bnd (oMv x0 r5.2) fun r6 =>
  bnd (oNilCheck r6.1 r6.2) fun r7 =>
  bnd (faO 0 r7.1 r7.2) fun r8 =>
  bnd (ldC r8.1 r8.2) fun r9 =>
  bnd (oMv x2 r9.2) fun r10 =>
  bnd (oMv x0 r10.2) fun r11 =>
  bnd (oNilCheck r11.1 r11.2) fun r12 =>
  bnd (faO 0 r12.1 r12.2) fun r13 =>
  bnd (ldC r13.1 r13.2) fun r14 =>
  bnd (oMv x2 r14.2) fun r15 =>
  bnd (ixS 1 r14.1 r15.1 r15.2) fun r16 =>
  bnd (ldC r16.1 r16.2) fun r17 =>
  bnd (oMv x0 r17.2) fun r18 =>
  bnd (oNilCheck r18.1 r18.2) fun r19 =>
  bnd (faO 0 r19.1 r19.2) fun r20 =>
  bnd (ldC r20.1 r20.2) fun r21 =>
  bnd (oMv x1 r21.2) fun r22 =>
  bnd (ixS 1 r21.1 r22.1 r22.2) fun r23 =>
  bnd (ldC r23.1 r23.2) fun r24 =>
  bnd (ixS 1 r4.1 r5.1 r24.2) fun r25 =>
  bnd (stV 1 r25.1 r17.1 r25.2) fun r26 =>
  bnd (ixS 1 r9.1 r10.1 r26.2) fun r27 =>
  bnd (stV 1 r27.1 r24.1 r27.2) fun r28 =>
  bnd (oMv x0 r28.2) fun r29 =>
  bnd (oNilCheck r29.1 r29.2) fun r30 =>
  bnd (faO 0 r30.1 r30.2) fun r31 =>
  bnd (ldC r31.1 r31.2) fun r32 =>
  bnd (oMv x1 r32.2) fun r33 =>
  bnd (ixS 1 r32.1 r33.1 r33.2) fun r34 =>
  bnd (ldC r34.1 r34.2) fun r35 =>
  bnd (oMv x0 r35.2) fun r36 =>
  bnd (oNilCheck r36.1 r36.2) fun r37 =>
  bnd (faO 0 r37.1 r37.2) fun r38 =>
  bnd (ldC r38.1 r38.2) fun r39 =>
  bnd (oMv x2 r39.2) fun r40 =>
  bnd (ixS 1 r39.1 r40.1 r40.2) fun r41 =>
  bnd (ldC r41.1 r41.2) fun r42 =>
  bnd (oMv x1 r42.2) fun r43 =>
  bnd (oMv x2 r43.2) fun r44 =>
  bnd (oNilCheck r35.1 r44.2) fun r45 =>
  bnd (faO 2 r45.1 r45.2) fun r46 =>
  bnd (stV 1 r46.1 r43.1 r46.2) fun r47 =>
  bnd (oNilCheck r42.1 r47.2) fun r48 =>
  bnd (faO 2 r48.1 r48.2) fun r49 =>
  bnd (stV 1 r49.1 r44.1 r49.2) fun r50 =>
  oRes Try.prog [] r50.2
theorem heaps_pileint_Swap_eq (call : Eng.Callee) (x0 x1 x2 : Value) (W : AW) : kFun Try.prog call 52 (cod 193) (rss 193) [x0, x1, x2] W = heaps_pileint_Swap call x0 x1 x2 W := by kernel_rfl
theorem heaps_pileint_Swap_om {x0 x1 x2 : Value} {W : AW} {r : Value × AW} (h : heaps_pileint_Swap omS x0 x1 x2 W = some r) : omS (.func (.func 193) #[] #[]) [x0, x1, x2] W = some (gc W r) := om_of (nt := 52) (n := 3) (by kernel_rfl) (by kernel_rfl) rfl ((heaps_pileint_Swap_eq omS x0 x1 x2 W).trans h)
noncomputable def law17_HoldsOnce_L1 (call : Eng.Callee) (R : Nat → Value) (W : AW) : Option LT :=
  bnd (oMv (R 8) W) fun r27 =>
  bnd (oMv (R 0) r27.2) fun r28 =>
  bnd (oBuiltin Try.prog .len #[34] 3 #[false] [r28.1] r28.2) fun r29 =>
  bnd (oBin Try.prog .lss 3 false false r27.1 r29.1 r29.2) fun r30 =>
  vIf r30.1 (
    bnd (oMv (R 5) r30.2) fun r31 =>
    bnd (oMv (R 8) r31.2) fun r32 =>
    bnd (oMv (R 0) r32.2) fun r33 =>
    bnd (oMv (R 8) r33.2) fun r34 =>
    bnd (ixS 1 r33.1 r34.1 r34.2) fun r35 =>
    bnd (ldC r35.1 r35.2) fun r36 =>
    bnd (call (fnV 19) [r31.1, r32.1, r36.1] r36.2) fun r37 =>
    bnd (oMv r37.1 r37.2) fun r38 =>
    bnd (oMv r38.1 r38.2) fun r39 =>
    bnd (oBin Try.prog .eql 29 false true r39.1 (.int .i64 0) r39.2) fun r40 =>
    bnd (oMv (R 0) r40.2) fun r41 =>
    bnd (oMv (R 8) r41.2) fun r42 =>
    bnd (ixS 1 r41.1 r42.1 r42.2) fun r43 =>
    bnd (ldC r43.1 r43.2) fun r44 =>
    bnd (oBin Try.prog .geq 2 false true r44.1 (.int .i64 0) r44.2) fun r45 =>
    bnd (oBin Try.prog .neq 4 false false r40.1 r45.1 r45.2) fun r46 =>
    vIf r46.1 (
      bnd (oMv (.bool false) r46.2) fun r47 =>
      some (X.ret, (rput (rput (rput (rput (rput (rput (rput (rput (rput (rput (rput (rput (rput (rput (rput (rput (rput (rput (rput (rput (rput R (some 37) r27.1) (some 38) r28.1) (some 39) r29.1) (some 40) r30.1) (some 43) r31.1) (some 44) r32.1) (some 45) r33.1) (some 46) r34.1) (some 47) r35.1) (some 48) r36.1) (some 49) r37.1) (some 9) r38.1) (some 50) r39.1) (some 51) r40.1) (some 52) r41.1) (some 53) r42.1) (some 54) r43.1) (some 55) r44.1) (some 56) r45.1) (some 57) r46.1) (some 4) r47.1), r47.2)) (
      bnd (oMv r38.1 r46.2) fun r48 =>
      bnd (oBin Try.prog .eql 29 false true r48.1 (.int .i64 0) r48.2) fun r49 =>
      vIf r49.1 (
        bnd (oMv (R 7) r49.2) fun r50 =>
        bnd (oBin Try.prog .add 3 false true r50.1 (.int .i64 1) r50.2) fun r51 =>
        bnd (oMv r51.1 r51.2) fun r52 =>
        bnd (oMv (R 8) r52.2) fun r53 =>
        bnd (oBin Try.prog .add 3 false true r53.1 (.int .i64 1) r53.2) fun r54 =>
        bnd (oMv r54.1 r54.2) fun r55 =>
        some (X.normal, (rput (rput (rput (rput (rput (rput (rput (rput (rput (rput (rput (rput (rput (rput (rput (rput (rput (rput (rput (rput (rput (rput (rput (rput (rput (rput (rput (rput R (some 37) r27.1) (some 38) r28.1) (some 39) r29.1) (some 40) r30.1) (some 43) r31.1) (some 44) r32.1) (some 45) r33.1) (some 46) r34.1) (some 47) r35.1) (some 48) r36.1) (some 49) r37.1) (some 9) r38.1) (some 50) r39.1) (some 51) r40.1) (some 52) r41.1) (some 53) r42.1) (some 54) r43.1) (some 55) r44.1) (some 56) r45.1) (some 57) r46.1) (some 58) r48.1) (some 59) r49.1) (some 60) r50.1) (some 61) r51.1) (some 7) r52.1) (some 41) r53.1) (some 42) r54.1) (some 8) r55.1), r55.2)) (
        bnd (oMv (R 8) r49.2) fun r56 =>
        bnd (oBin Try.prog .add 3 false true r56.1 (.int .i64 1) r56.2) fun r57 =>
        bnd (oMv r57.1 r57.2) fun r58 =>
        some (X.normal, (rput (rput (rput (rput (rput (rput (rput (rput (rput (rput (rput (rput (rput (rput (rput (rput (rput (rput (rput (rput (rput (rput (rput (rput (rput R (some 37) r27.1) (some 38) r28.1) (some 39) r29.1) (some 40) r30.1) (some 43) r31.1) (some 44) r32.1) (some 45) r33.1) (some 46) r34.1) (some 47) r35.1) (some 48) r36.1) (some 49) r37.1) (some 9) r38.1) (some 50) r39.1) (some 51) r40.1) (some 52) r41.1) (some 53) r42.1) (some 54) r43.1) (some 55) r44.1) (some 56) r45.1) (some 57) r46.1) (some 58) r48.1) (some 59) r49.1) (some 41) r56.1) (some 42) r57.1) (some 8) r58.1), r58.2)))) (
    some (X.exit 0, (rput (rput (rput (rput R (some 37) r27.1) (some 38) r28.1) (some 39) r29.1) (some 40) r30.1), r30.2))
noncomputable def law17_HoldsOnce_L2_L3 (call : Eng.Callee) (R : Nat → Value) (W : AW) : Option LT :=
  bnd (oMv (R 14) W) fun r97 =>
  bnd (oMv (R 12) r97.2) fun r98 =>
  bnd (oBuiltin Try.prog .len #[39] 3 #[false] [r98.1] r98.2) fun r99 =>
  bnd (oBin Try.prog .lss 3 false false r97.1 r99.1 r99.2) fun r100 =>
  vIf r100.1 (
    bnd (oMv (R 12) r100.2) fun r101 =>
    bnd (oMv (R 14) r101.2) fun r102 =>
    bnd (ixS 2 r101.1 r102.1 r102.2) fun r103 =>
    bnd (faO 0 r103.1 r103.2) fun r104 =>
    bnd (ldC r104.1 r104.2) fun r105 =>
    bnd (oMv r105.1 r105.2) fun r106 =>
    bnd (oMv r106.1 r106.2) fun r107 =>
    bnd (oBin Try.prog .lss 3 false true r107.1 (.int .i64 0) r107.2) fun r108 =>
    bnd (oMv r108.1 r108.2) fun r109 =>
    bnd (bIf (wnt r109.1 false) (oMv r106.1 r109.2) (some (undef, r109.2))) fun r110 =>
    bnd (bIf (wnt r109.1 false) (oMv (R 0) r110.2) (some (undef, r110.2))) fun r111 =>
    bnd (bIf (wnt r109.1 false) (oBuiltin Try.prog .len #[34] 3 #[false] [r111.1] r111.2) (some (undef, r111.2))) fun r112 =>
    bnd (bIf (wnt r109.1 false) (oBin Try.prog .geq 3 false false r110.1 r112.1 r112.2) (some (undef, r112.2))) fun r113 =>
    bnd (oPick r109.1 (.bool true) r113.1 r113.2) fun r114 =>
    bnd (oMv r114.1 r114.2) fun r115 =>
    bnd (bIf (wnt r115.1 false) (oMv (R 0) r115.2) (some (undef, r115.2))) fun r116 =>
    bnd (bIf (wnt r115.1 false) (oMv r106.1 r116.2) (some (undef, r116.2))) fun r117 =>
    bnd (bIf (wnt r115.1 false) (ixS 1 r116.1 r117.1 r117.2) (some (undef, r117.2))) fun r118 =>
    bnd (bIf (wnt r115.1 false) (ldC r118.1 r118.2) (some (undef, r118.2))) fun r119 =>
    bnd (bIf (wnt r115.1 false) (oMv (R 12) r119.2) (some (undef, r119.2))) fun r120 =>
    bnd (bIf (wnt r115.1 false) (oMv (R 14) r120.2) (some (undef, r120.2))) fun r121 =>
    bnd (bIf (wnt r115.1 false) (ixS 2 r120.1 r121.1 r121.2) (some (undef, r121.2))) fun r122 =>
    bnd (bIf (wnt r115.1 false) (faO 1 r122.1 r122.2) (some (undef, r122.2))) fun r123 =>
    bnd (bIf (wnt r115.1 false) (ldC r123.1 r123.2) (some (undef, r123.2))) fun r124 =>
    bnd (bIf (wnt r115.1 false) (oBin Try.prog .neq 2 false false r119.1 r124.1 r124.2) (some (undef, r124.2))) fun r125 =>
    bnd (oPick r115.1 (.bool true) r125.1 r125.2) fun r126 =>
    bnd (oMv r126.1 r126.2) fun r127 =>
    bnd (bIf (wnt r127.1 false) (oMv (R 0) r127.2) (some (undef, r127.2))) fun r128 =>
    bnd (bIf (wnt r127.1 false) (oMv r106.1 r128.2) (some (undef, r128.2))) fun r129 =>
    bnd (bIf (wnt r127.1 false) (ixS 1 r128.1 r129.1 r129.2) (some (undef, r129.2))) fun r130 =>
    bnd (bIf (wnt r127.1 false) (ldC r130.1 r130.2) (some (undef, r130.2))) fun r131 =>
    bnd (bIf (wnt r127.1 false) (oMv (R 10) r131.2) (some (undef, r131.2))) fun r132 =>
    bnd (bIf (wnt r127.1 false) (oBin Try.prog .leq 2 false false r131.1 r132.1 r132.2) (some (undef, r132.2))) fun r133 =>
    bnd (oPick r127.1 (.bool true) r133.1 r133.2) fun r134 =>
    bnd (oMv r134.1 r134.2) fun r135 =>
    bnd (bIf (wnt r135.1 false) (oMv (R 0) r135.2) (some (undef, r135.2))) fun r136 =>
    bnd (bIf (wnt r135.1 false) (oMv r106.1 r136.2) (some (undef, r136.2))) fun r137 =>
    bnd (bIf (wnt r135.1 false) (ixS 1 r136.1 r137.1 r137.2) (some (undef, r137.2))) fun r138 =>
    bnd (bIf (wnt r135.1 false) (ldC r138.1 r138.2) (some (undef, r138.2))) fun r139 =>
    bnd (bIf (wnt r135.1 false) (oMv (R 1) r139.2) (some (undef, r139.2))) fun r140 =>
    bnd (bIf (wnt r135.1 false) (oMv (R 11) r140.2) (some (undef, r140.2))) fun r141 =>
    bnd (bIf (wnt r135.1 false) (ixS 1 r140.1 r141.1 r141.2) (some (undef, r141.2))) fun r142 =>
    bnd (bIf (wnt r135.1 false) (ldC r142.1 r142.2) (some (undef, r142.2))) fun r143 =>
    bnd (bIf (wnt r135.1 false) (oBin Try.prog .gtr 2 false false r139.1 r143.1 r143.2) (some (undef, r143.2))) fun r144 =>
    bnd (oPick r135.1 (.bool true) r144.1 r144.2) fun r145 =>
    vIf r145.1 (
      bnd (oMv (.bool false) r145.2) fun r146 =>
      some (X.ret, (rput (rput (rput (rput (rput (rput (rput (rput (rput (rput (rput (rput (rput (rput (rput (rput (rput (rput (rput (rput (rput (rput (rput (rput (rput (rput (rput (rput (rput (rput (rput (rput (rput (rput (rput (rput (rput (rput (rput (rput (rput (rput (rput (rput (rput (rput (rput (rput (rput (rput R (some 92) r97.1) (some 93) r98.1) (some 94) r99.1) (some 95) r100.1) (some 98) r101.1) (some 99) r102.1) (some 100) r103.1) (some 101) r104.1) (some 102) r105.1) (some 15) r106.1) (some 103) r107.1) (some 104) r108.1) (some 105) r109.1) (some 106) r110.1) (some 107) r111.1) (some 108) r112.1) (some 109) r113.1) (some 110) r114.1) (some 111) r115.1) (some 112) r116.1) (some 113) r117.1) (some 114) r118.1) (some 115) r119.1) (some 116) r120.1) (some 117) r121.1) (some 118) r122.1) (some 119) r123.1) (some 120) r124.1) (some 121) r125.1) (some 122) r126.1) (some 123) r127.1) (some 124) r128.1) (some 125) r129.1) (some 126) r130.1) (some 127) r131.1) (some 128) r132.1) (some 129) r133.1) (some 130) r134.1) (some 131) r135.1) (some 132) r136.1) (some 133) r137.1) (some 134) r138.1) (some 135) r139.1) (some 136) r140.1) (some 137) r141.1) (some 138) r142.1) (some 139) r143.1) (some 140) r144.1) (some 141) r145.1) (some 4) r146.1), r146.2)) (
      bnd (oMv (R 14) r145.2) fun r147 =>
      bnd (oBin Try.prog .add 3 false true r147.1 (.int .i64 1) r147.2) fun r148 =>
      bnd (oMv r148.1 r148.2) fun r149 =>
      some (X.normal, (rput (rput (rput (rput (rput (rput (rput (rput (rput (rput (rput (rput (rput (rput (rput (rput (rput (rput (rput (rput (rput (rput (rput (rput (rput (rput (rput (rput (rput (rput (rput (rput (rput (rput (rput (rput (rput (rput (rput (rput (rput (rput (rput (rput (rput (rput (rput (rput (rput (rput (rput (rput R (some 92) r97.1) (some 93) r98.1) (some 94) r99.1) (some 95) r100.1) (some 98) r101.1) (some 99) r102.1) (some 100) r103.1) (some 101) r104.1) (some 102) r105.1) (some 15) r106.1) (some 103) r107.1) (some 104) r108.1) (some 105) r109.1) (some 106) r110.1) (some 107) r111.1) (some 108) r112.1) (some 109) r113.1) (some 110) r114.1) (some 111) r115.1) (some 112) r116.1) (some 113) r117.1) (some 114) r118.1) (some 115) r119.1) (some 116) r120.1) (some 117) r121.1) (some 118) r122.1) (some 119) r123.1) (some 120) r124.1) (some 121) r125.1) (some 122) r126.1) (some 123) r127.1) (some 124) r128.1) (some 125) r129.1) (some 126) r130.1) (some 127) r131.1) (some 128) r132.1) (some 129) r133.1) (some 130) r134.1) (some 131) r135.1) (some 132) r136.1) (some 133) r137.1) (some 134) r138.1) (some 135) r139.1) (some 136) r140.1) (some 137) r141.1) (some 138) r142.1) (some 139) r143.1) (some 140) r144.1) (some 141) r145.1) (some 96) r147.1) (some 97) r148.1) (some 14) r149.1), r149.2))) (
    some (X.exit 4, (rput (rput (rput (rput R (some 92) r97.1) (some 93) r98.1) (some 94) r99.1) (some 95) r100.1), r100.2))
noncomputable def law17_HoldsOnce_L2 (call : Eng.Callee) (R : Nat → Value) (W : AW) : Option LT :=
  bnd (oMv (R 11) W) fun r62 =>
  bnd (oMv (R 1) r62.2) fun r63 =>
  bnd (oBuiltin Try.prog .len #[34] 3 #[false] [r63.1] r63.2) fun r64 =>
  bnd (oBin Try.prog .lss 3 false false r62.1 r64.1 r64.2) fun r65 =>
  vIf r65.1 (
    bnd (oMv (R 1) r65.2) fun r66 =>
    bnd (oMv (R 11) r66.2) fun r67 =>
    bnd (ixS 1 r66.1 r67.1 r67.2) fun r68 =>
    bnd (ldC r68.1 r68.2) fun r69 =>
    bnd (oBin Try.prog .lss 2 false true r69.1 (.int .i64 0) r69.2) fun r70 =>
    bnd (oMv r70.1 r70.2) fun r71 =>
    bnd (bIf (wnt r71.1 false) (oMv (R 1) r71.2) (some (undef, r71.2))) fun r72 =>
    bnd (bIf (wnt r71.1 false) (oMv (R 11) r72.2) (some (undef, r72.2))) fun r73 =>
    bnd (bIf (wnt r71.1 false) (ixS 1 r72.1 r73.1 r73.2) (some (undef, r73.2))) fun r74 =>
    bnd (bIf (wnt r71.1 false) (ldC r74.1 r74.2) (some (undef, r74.2))) fun r75 =>
    bnd (bIf (wnt r71.1 false) (oMv (R 10) r75.2) (some (undef, r75.2))) fun r76 =>
    bnd (bIf (wnt r71.1 false) (oBin Try.prog .lss 2 false false r75.1 r76.1 r76.2) (some (undef, r76.2))) fun r77 =>
    bnd (oPick r71.1 (.bool true) r77.1 r77.2) fun r78 =>
    vIf r78.1 (
      bnd (oMv (R 11) r78.2) fun r79 =>
      bnd (oBin Try.prog .add 3 false true r79.1 (.int .i64 1) r79.2) fun r80 =>
      bnd (oMv r80.1 r80.2) fun r81 =>
      some (X.normal, (rput (rput (rput (rput (rput (rput (rput (rput (rput (rput (rput (rput (rput (rput (rput (rput (rput (rput (rput (rput R (some 62) r62.1) (some 63) r63.1) (some 64) r64.1) (some 65) r65.1) (some 68) r66.1) (some 69) r67.1) (some 70) r68.1) (some 71) r69.1) (some 72) r70.1) (some 73) r71.1) (some 74) r72.1) (some 75) r73.1) (some 76) r74.1) (some 77) r75.1) (some 78) r76.1) (some 79) r77.1) (some 80) r78.1) (some 66) r79.1) (some 67) r80.1) (some 11) r81.1), r81.2)) (
      bnd (oMv (R 5) r78.2) fun r82 =>
      bnd (oMv (R 1) r82.2) fun r83 =>
      bnd (oMv (R 11) r83.2) fun r84 =>
      bnd (ixS 1 r83.1 r84.1 r84.2) fun r85 =>
      bnd (ldC r85.1 r85.2) fun r86 =>
      bnd (call (fnV 20) [r82.1, r86.1] r86.2) fun r87 =>
      bnd (oMv r87.1 r87.2) fun r88 =>
      bnd (oExtract r88.1 0 r88.2) fun r89 =>
      bnd (oExtract r88.1 1 r89.2) fun r90 =>
      bnd (oMv r89.1 r90.2) fun r91 =>
      bnd (oMv r90.1 r91.2) fun r92 =>
      bnd (oMv r92.1 r92.2) fun r93 =>
      bnd (oBin Try.prog .neq 29 false true r93.1 (.int .i64 0) r93.2) fun r94 =>
      vIf r94.1 (
        bnd (oMv (.bool false) r94.2) fun r95 =>
        some (X.ret, (rput (rput (rput (rput (rput (rput (rput (rput (rput (rput (rput (rput (rput (rput (rput (rput (rput (rput (rput (rput (rput (rput (rput (rput (rput (rput (rput (rput (rput (rput (rput R (some 62) r62.1) (some 63) r63.1) (some 64) r64.1) (some 65) r65.1) (some 68) r66.1) (some 69) r67.1) (some 70) r68.1) (some 71) r69.1) (some 72) r70.1) (some 73) r71.1) (some 74) r72.1) (some 75) r73.1) (some 76) r74.1) (some 77) r75.1) (some 78) r76.1) (some 79) r77.1) (some 80) r78.1) (some 82) r82.1) (some 83) r83.1) (some 84) r84.1) (some 85) r85.1) (some 86) r86.1) (some 87) r87.1) (some 81) r88.1) (some 88) r89.1) (some 89) r90.1) (some 12) r91.1) (some 13) r92.1) (some 90) r93.1) (some 91) r94.1) (some 4) r95.1), r95.2)) (
        bnd (oMv (.int .i64 0) r94.2) fun r96 =>
        bnd (loopO (law17_HoldsOnce_L2_L3 call) (rput (rput (rput (rput (rput (rput (rput (rput (rput (rput (rput (rput (rput (rput (rput (rput (rput (rput (rput (rput (rput (rput (rput (rput (rput (rput (rput (rput (rput (rput (rput R (some 62) r62.1) (some 63) r63.1) (some 64) r64.1) (some 65) r65.1) (some 68) r66.1) (some 69) r67.1) (some 70) r68.1) (some 71) r69.1) (some 72) r70.1) (some 73) r71.1) (some 74) r72.1) (some 75) r73.1) (some 76) r74.1) (some 77) r75.1) (some 78) r76.1) (some 79) r77.1) (some 80) r78.1) (some 82) r82.1) (some 83) r83.1) (some 84) r84.1) (some 85) r85.1) (some 86) r86.1) (some 87) r87.1) (some 81) r88.1) (some 88) r89.1) (some 89) r90.1) (some 12) r91.1) (some 13) r92.1) (some 90) r93.1) (some 91) r94.1) (some 14) r96.1) r96.2) fun r150 =>
        kExit 4 r150.1 (
          bnd (oMv (r150.2.1 1) r150.2.2) fun r151 =>
          bnd (oMv (r150.2.1 11) r151.2) fun r152 =>
          bnd (ixS 1 r151.1 r152.1 r152.2) fun r153 =>
          bnd (ldC r153.1 r153.2) fun r154 =>
          bnd (oMv r154.1 r154.2) fun r155 =>
          bnd (oMv (r150.2.1 7) r155.2) fun r156 =>
          bnd (oMv (r150.2.1 12) r156.2) fun r157 =>
          bnd (oBuiltin Try.prog .len #[39] 3 #[false] [r157.1] r157.2) fun r158 =>
          bnd (oBin Try.prog .sub 3 false false r156.1 r158.1 r158.2) fun r159 =>
          bnd (oMv r159.1 r159.2) fun r160 =>
          bnd (oMv (r150.2.1 5) r160.2) fun r161 =>
          bnd (call (fnV 21) [r161.1] r161.2) fun r162 =>
          bnd (oMv r162.1 r162.2) fun r163 =>
          bnd (oExtract r163.1 0 r163.2) fun r164 =>
          bnd (oExtract r163.1 1 r164.2) fun r165 =>
          bnd (oAlloc Try.prog 43 r165.2) fun r166 =>
          bnd (stV 2 r166.1 r164.1 r166.2) fun r167 =>
          bnd (oMv r165.1 r167.2) fun r168 =>
          bnd (oMv r160.1 r168.2) fun r169 =>
          bnd (oMv (r150.2.1 5) r169.2) fun r170 =>
          bnd (call (fnV 22) [r170.1] r170.2) fun r171 =>
          bnd (oBin Try.prog .neq 3 false false r169.1 r171.1 r171.2) fun r172 =>
          bnd (oMv r172.1 r172.2) fun r173 =>
          bnd (bIf (wnt r173.1 false) (oMv r160.1 r173.2) (some (undef, r173.2))) fun r174 =>
          bnd (bIf (wnt r173.1 false) (oBin Try.prog .eql 3 false true r174.1 (.int .i64 0) r174.2) (some (undef, r174.2))) fun r175 =>
          bnd (bIf (wnt r173.1 false) (oMv r168.1 r175.2) (some (undef, r175.2))) fun r176 =>
          bnd (bIf (wnt r173.1 false) (oBin Try.prog .eql 29 false true r176.1 (.int .i64 4) r176.2) (some (undef, r176.2))) fun r177 =>
          bnd (bIf (wnt r173.1 false) (oBin Try.prog .neq 4 false false r175.1 r177.1 r177.2) (some (undef, r177.2))) fun r178 =>
          bnd (oPick r173.1 (.bool true) r178.1 r178.2) fun r179 =>
          bnd (oMv r179.1 r179.2) fun r180 =>
          bnd (bIf (wnt r180.1 false) (oMv r168.1 r180.2) (some (undef, r180.2))) fun r181 =>
          bnd (bIf (wnt r180.1 false) (oBin Try.prog .eql 29 false true r181.1 (.int .i64 0) r181.2) (some (undef, r181.2))) fun r182 =>
          bnd (bIf (wnt r180.1 false) (oMv r182.1 r182.2) (some (undef, r182.2))) fun r183 =>
          bnd (bIf (wnt r183.1 true) (faO 1 r166.1 r183.2) (some (undef, r183.2))) fun r184 =>
          bnd (bIf (wnt r183.1 true) (ldC r184.1 r184.2) (some (undef, r184.2))) fun r185 =>
          bnd (bIf (wnt r183.1 true) (oMv r155.1 r185.2) (some (undef, r185.2))) fun r186 =>
          bnd (bIf (wnt r183.1 true) (oBin Try.prog .leq 2 false false r185.1 r186.1 r186.2) (some (undef, r186.2))) fun r187 =>
          bnd (bIf (wnt r180.1 false) (oPick r183.1 r187.1 (.bool false) r187.2) (some (undef, r187.2))) fun r188 =>
          bnd (oPick r180.1 (.bool true) r188.1 r188.2) fun r189 =>
          vIf r189.1 (
            bnd (oMv (.bool false) r189.2) fun r190 =>
            some (X.ret, (rput (rput (rput (rput (rput (rput (rput (rput (rput (rput (rput (rput (rput (rput (rput (rput (rput (rput (rput (rput (rput (rput (rput (rput (rput (rput (rput (rput (rput (rput (rput (rput (rput (rput (rput (rput (rput (rput (rput r150.2.1 (some 142) r151.1) (some 143) r152.1) (some 144) r153.1) (some 145) r154.1) (some 10) r155.1) (some 146) r156.1) (some 147) r157.1) (some 148) r158.1) (some 149) r159.1) (some 7) r160.1) (some 151) r161.1) (some 152) r162.1) (some 150) r163.1) (some 153) r164.1) (some 154) r165.1) (some 16) r166.1) (some 17) r168.1) (some 155) r169.1) (some 156) r170.1) (some 157) r171.1) (some 158) r172.1) (some 159) r173.1) (some 160) r174.1) (some 161) r175.1) (some 162) r176.1) (some 163) r177.1) (some 164) r178.1) (some 165) r179.1) (some 166) r180.1) (some 167) r181.1) (some 168) r182.1) (some 169) r183.1) (some 170) r184.1) (some 171) r185.1) (some 172) r186.1) (some 173) r187.1) (some 174) r188.1) (some 175) r189.1) (some 4) r190.1), r190.2)) (
            bnd (oMv (r150.2.1 11) r189.2) fun r191 =>
            bnd (oBin Try.prog .add 3 false true r191.1 (.int .i64 1) r191.2) fun r192 =>
            bnd (oMv r192.1 r192.2) fun r193 =>
            some (X.normal, (rput (rput (rput (rput (rput (rput (rput (rput (rput (rput (rput (rput (rput (rput (rput (rput (rput (rput (rput (rput (rput (rput (rput (rput (rput (rput (rput (rput (rput (rput (rput (rput (rput (rput (rput (rput (rput (rput (rput (rput (rput r150.2.1 (some 142) r151.1) (some 143) r152.1) (some 144) r153.1) (some 145) r154.1) (some 10) r155.1) (some 146) r156.1) (some 147) r157.1) (some 148) r158.1) (some 149) r159.1) (some 7) r160.1) (some 151) r161.1) (some 152) r162.1) (some 150) r163.1) (some 153) r164.1) (some 154) r165.1) (some 16) r166.1) (some 17) r168.1) (some 155) r169.1) (some 156) r170.1) (some 157) r171.1) (some 158) r172.1) (some 159) r173.1) (some 160) r174.1) (some 161) r175.1) (some 162) r176.1) (some 163) r177.1) (some 164) r178.1) (some 165) r179.1) (some 166) r180.1) (some 167) r181.1) (some 168) r182.1) (some 169) r183.1) (some 170) r184.1) (some 171) r185.1) (some 172) r186.1) (some 173) r187.1) (some 174) r188.1) (some 175) r189.1) (some 66) r191.1) (some 67) r192.1) (some 11) r193.1), r193.2))) (kRetX r150.1 (
          some (X.ret, r150.2.1, r150.2.2)))))) (
    some (X.exit 2, (rput (rput (rput (rput R (some 62) r62.1) (some 63) r63.1) (some 64) r64.1) (some 65) r65.1), r65.2))
noncomputable def law17_HoldsOnce (call : Eng.Callee) (x0 x1 : Value) (W : AW) : Option (Value × AW) :=
  bnd (oMv (.bool false) W) fun r1 =>
  bnd (oMv x0 r1.2) fun r2 =>
  bnd (oBuiltin Try.prog .len #[34] 3 #[false] [r2.1] r2.2) fun r3 =>
  bnd (oBin Try.prog .gtr 3 false true r3.1 (.int .i64 64) r3.2) fun r4 =>
  bnd (oMv r4.1 r4.2) fun r5 =>
  bnd (bIf (wnt r5.1 false) (oMv x1 r5.2) (some (undef, r5.2))) fun r6 =>
  bnd (bIf (wnt r5.1 false) (oBuiltin Try.prog .len #[34] 3 #[false] [r6.1] r6.2) (some (undef, r6.2))) fun r7 =>
  bnd (bIf (wnt r5.1 false) (oBin Try.prog .gtr 3 false true r7.1 (.int .i64 50) r7.2) (some (undef, r7.2))) fun r8 =>
  bnd (oPick r5.1 (.bool true) r8.1 r8.2) fun r9 =>
  vIf r9.1 (
    bnd (call (fnV 17) [] r9.2) fun r10 =>
    bnd (oMv r10.1 r10.2) fun r11 =>
    oRes Try.prog [(r11.1, none)] r11.2) (
    bnd (call (fnV 18) [(.int .i64 64)] r9.2) fun r12 =>
    bnd (oMv r12.1 r12.2) fun r13 =>
    bnd (oExtract r13.1 0 r13.2) fun r14 =>
    bnd (oExtract r13.1 1 r14.2) fun r15 =>
    bnd (oMv r14.1 r15.2) fun r16 =>
    bnd (oMv r15.1 r16.2) fun r17 =>
    bnd (oMv r17.1 r17.2) fun r18 =>
    bnd (oBin Try.prog .neq 29 false true r18.1 (.int .i64 0) r18.2) fun r19 =>
    bnd (oMv r19.1 r19.2) fun r20 =>
    bnd (bIf (wnt r20.1 false) (oMv r16.1 r20.2) (some (undef, r20.2))) fun r21 =>
    bnd (bIf (wnt r20.1 false) (oBin Try.prog .eql 35 false true r21.1 (.pointer none) r21.2) (some (undef, r21.2))) fun r22 =>
    bnd (oPick r20.1 (.bool true) r22.1 r22.2) fun r23 =>
    vIf r23.1 (
      bnd (oMv (.bool false) r23.2) fun r24 =>
      oRes Try.prog [(r24.1, none)] r24.2) (
      bnd (oMv (.int .i64 0) r23.2) fun r25 =>
      bnd (oMv (.int .i64 0) r25.2) fun r26 =>
      bnd (loopO (law17_HoldsOnce_L1 call) (rput (rput (rput (rput (rput (rput (rput (rput (rput (rput (rput (rput (rput (rput (rput (rput (rput (rput (rput (rput (rput (rput (rput (argGo 0 [x0, x1] PlanTab.blank) (some 4) r1.1) (some 18) r2.1) (some 19) r3.1) (some 20) r4.1) (some 21) r5.1) (some 22) r6.1) (some 23) r7.1) (some 24) r8.1) (some 25) r9.1) (some 28) r12.1) (some 27) r13.1) (some 29) r14.1) (some 30) r15.1) (some 5) r16.1) (some 6) r17.1) (some 31) r18.1) (some 32) r19.1) (some 33) r20.1) (some 34) r21.1) (some 35) r22.1) (some 36) r23.1) (some 7) r25.1) (some 8) r26.1) r26.2) fun r59 =>
      kExit 0 r59.1 (
        bnd (oMv (.int .i64 (-1)) r59.2.2) fun r60 =>
        bnd (oMv (.int .i64 0) r60.2) fun r61 =>
        bnd (loopO (law17_HoldsOnce_L2 call) (rput (rput r59.2.1 (some 10) r60.1) (some 11) r61.1) r61.2) fun r194 =>
        kExit 2 r194.1 (
          bnd (call (fnV 17) [] r194.2.2) fun r195 =>
          bnd (oMv r195.1 r195.2) fun r196 =>
          oRes Try.prog [(r196.1, none)] r196.2) (kRetX r194.1 (
          oRes Try.prog [((r194.2.1 4), none)] r194.2.2))) (kRetX r59.1 (
        oRes Try.prog [((r59.2.1 4), none)] r59.2.2))))
theorem law17_HoldsOnce_eq (call : Eng.Callee) (x0 x1 : Value) (W : AW) : kFun Try.prog call 177 (cod 4) (rss 4) [x0, x1] W = law17_HoldsOnce call x0 x1 W := by kernel_rfl
theorem law17_HoldsOnce_om {x0 x1 : Value} {W : AW} {r : Value × AW} (h : law17_HoldsOnce omS x0 x1 W = some r) : omS (.func (.func 4) #[] #[]) [x0, x1] W = some (gc W r) := om_of (nt := 177) (n := 2) (by kernel_rfl) (by kernel_rfl) rfl ((law17_HoldsOnce_eq omS x0 x1 W).trans h)
noncomputable def holds_New (call : Eng.Callee) (x0 : Value) (W : AW) : Option (Value × AW) :=
  bnd (oMv (.pointer none) W) fun r1 =>
  bnd (oMv (.int .i64 0) r1.2) fun r2 =>
  bnd (oMv x0 r2.2) fun r3 =>
  bnd (oBin Try.prog .lss 3 false true r3.1 (.int .i64 1) r3.2) fun r4 =>
  bnd (oMv r4.1 r4.2) fun r5 =>
  bnd (bIf (wnt r5.1 false) (oMv x0 r5.2) (some (undef, r5.2))) fun r6 =>
  bnd (bIf (wnt r5.1 false) (oBin Try.prog .gtr 3 false true r6.1 (.int .i64 4096) r6.2) (some (undef, r6.2))) fun r7 =>
  bnd (oPick r5.1 (.bool true) r7.1 r7.2) fun r8 =>
  vIf r8.1 (
    bnd (oMv (.pointer none) r8.2) fun r9 =>
    bnd (oMv (.int .i64 7) r9.2) fun r10 =>
    oRes Try.prog [(r9.1, none), (r10.1, none)] r10.2) (
    bnd (oMv (fnV 55) r8.2) fun r11 =>
    bnd (oMv x0 r11.2) fun r12 =>
    bnd (oMv r11.1 r12.2) fun r13 =>
    bnd (call (fnV 59) [r13.1] r13.2) fun r14 =>
    bnd (oMkMap Try.prog 116 none r14.2) fun r15 =>
    bnd (oBuild Try.prog 118 [(0, r12.1), (1, r14.1), (2, r15.1)] r15.2) fun r16 =>
    bnd (oBox r16.1 r16.2) fun r17 =>
    bnd (oMv r17.1 r17.2) fun r18 =>
    bnd (oMv (.int .i64 0) r18.2) fun r19 =>
    oRes Try.prog [(r18.1, none), (r19.1, none)] r19.2)
theorem holds_New_eq (call : Eng.Callee) (x0 : Value) (W : AW) : kFun Try.prog call 17 (cod 18) (rss 18) [x0] W = holds_New call x0 W := by kernel_rfl
theorem holds_New_om {x0 : Value} {W : AW} {r : Value × AW} (h : holds_New omS x0 W = some r) : omS (.func (.func 18) #[] #[]) [x0] W = some (gc W r) := om_of (nt := 17) (n := 1) (by kernel_rfl) (by kernel_rfl) rfl ((holds_New_eq omS x0 W).trans h)
noncomputable def holds_Holds_Put (call : Eng.Callee) (x0 x1 x2 : Value) (W : AW) : Option (Value × AW) :=
  bnd (oMv (.int .i64 0) W) fun r1 =>
  bnd (oMv x0 r1.2) fun r2 =>
  bnd (oMv x1 r2.2) fun r3 =>
  bnd (oMv x2 r3.2) fun r4 =>
  bnd (call (fnV 60) [r2.1, r3.1, r4.1] r4.2) fun r5 =>
  bnd (oMv r5.1 r5.2) fun r6 =>
  bnd (oExtract r6.1 0 r6.2) fun r7 =>
  bnd (oExtract r6.1 1 r7.2) fun r8 =>
  bnd (oMv r7.1 r8.2) fun r9 =>
  bnd (oMv r8.1 r9.2) fun r10 =>
  bnd (oMv r10.1 r10.2) fun r11 =>
  bnd (oBin Try.prog .eql 29 false true r11.1 (.int .i64 0) r11.2) fun r12 =>
  bnd (oMv r12.1 r12.2) fun r13 =>
  vIf r13.1 (
    bnd (oMv (.int .i64 8) r13.2) fun r14 =>
    oRes Try.prog [(r14.1, none)] r14.2) (
    bnd (oBin Try.prog .eql 29 false true r11.1 (.int .i64 4) r13.2) fun r15 =>
    bnd (oMv r15.1 r15.2) fun r16 =>
    vIf r16.1 (
      bnd (oMv x0 r16.2) fun r17 =>
      bnd (oNilCheck r17.1 r17.2) fun r18 =>
      bnd (faO 1 r18.1 r18.2) fun r19 =>
      bnd (ldC r19.1 r19.2) fun r20 =>
      bnd (oMv x1 r20.2) fun r21 =>
      bnd (oMv x2 r21.2) fun r22 =>
      bnd (oBuild Try.prog 43 [(0, r21.1), (1, r22.1)] r22.2) fun r23 =>
      bnd (call (fnV 61) [r20.1, r23.1] r23.2) fun r24 =>
      bnd (oMv r24.1 r24.2) fun r25 =>
      bnd (oExtract r25.1 0 r25.2) fun r26 =>
      bnd (oExtract r25.1 1 r26.2) fun r27 =>
      bnd (oMv r26.1 r27.2) fun r28 =>
      bnd (oMv r27.1 r28.2) fun r29 =>
      bnd (oMv r29.1 r29.2) fun r30 =>
      bnd (oBin Try.prog .eql 29 false true r30.1 (.int .i64 0) r30.2) fun r31 =>
      vIf r31.1 (
        bnd (oMv x0 r31.2) fun r32 =>
        bnd (oNilCheck r32.1 r32.2) fun r33 =>
        bnd (faO 2 r33.1 r33.2) fun r34 =>
        bnd (ldC r34.1 r34.2) fun r35 =>
        bnd (oMv x1 r35.2) fun r36 =>
        bnd (oMv r28.1 r36.2) fun r37 =>
        bnd (oMapUpdate Try.prog 116 r35.1 r36.1 r37.1 r37.2) fun r38 =>
        bnd (oMv r29.1 r38.2) fun r39 =>
        bnd (oMv r39.1 r39.2) fun r40 =>
        oRes Try.prog [(r40.1, none)] r40.2) (
        bnd (oMv r29.1 r31.2) fun r41 =>
        bnd (oMv r41.1 r41.2) fun r42 =>
        oRes Try.prog [(r42.1, none)] r42.2)) (
      bnd (oMv r10.1 r16.2) fun r43 =>
      bnd (oMv r43.1 r43.2) fun r44 =>
      oRes Try.prog [(r44.1, none)] r44.2))
theorem holds_Holds_Put_eq (call : Eng.Callee) (x0 x1 x2 : Value) (W : AW) : kFun Try.prog call 44 (cod 19) (rss 19) [x0, x1, x2] W = holds_Holds_Put call x0 x1 x2 W := by kernel_rfl
theorem holds_Holds_Put_om {x0 x1 x2 : Value} {W : AW} {r : Value × AW} (h : holds_Holds_Put omS x0 x1 x2 W = some r) : omS (.func (.func 19) #[] #[]) [x0, x1, x2] W = some (gc W r) := om_of (nt := 44) (n := 3) (by kernel_rfl) (by kernel_rfl) rfl ((holds_Holds_Put_eq omS x0 x1 x2 W).trans h)
noncomputable def holds_Holds_Due_L1 (call : Eng.Callee) (R : Nat → Value) (W : AW) : Option LT :=
  bnd (oMv (R 0) W) fun r21 =>
  bnd (oNilCheck r21.1 r21.2) fun r22 =>
  bnd (faO 1 r22.1 r22.2) fun r23 =>
  bnd (ldC r23.1 r23.2) fun r24 =>
  bnd (call (fnV 62) [r24.1] r24.2) fun r25 =>
  bnd (oMv r25.1 r25.2) fun r26 =>
  bnd (oExtract r26.1 0 r26.2) fun r27 =>
  bnd (oExtract r26.1 1 r27.2) fun r28 =>
  bnd (oExtract r26.1 2 r28.2) fun r29 =>
  bnd (oAlloc Try.prog 43 r29.2) fun r30 =>
  bnd (oMv r27.1 r30.2) fun r31 =>
  bnd (stV 2 r30.1 r28.1 r31.2) fun r32 =>
  bnd (oMv r29.1 r32.2) fun r33 =>
  bnd (oMv r33.1 r33.2) fun r34 =>
  bnd (oBin Try.prog .neq 29 false true r34.1 (.int .i64 0) r34.2) fun r35 =>
  vIf r35.1 (
    bnd (oMv (R 6) r35.2) fun r36 =>
    bnd (oMv r36.1 r36.2) fun r37 =>
    bnd (oMv (.int .i64 0) r37.2) fun r38 =>
    some (X.ret, (rput (rput (rput (rput (rput (rput (rput (rput (rput (rput (rput (rput (rput (rput (rput (rput (rput R (some 26) r21.1) (some 27) r22.1) (some 28) r23.1) (some 29) r24.1) (some 30) r25.1) (some 25) r26.1) (some 31) r27.1) (some 32) r28.1) (some 33) r29.1) (some 8) r30.1) (some 7) r31.1) (some 9) r33.1) (some 34) r34.1) (some 35) r35.1) (some 36) r36.1) (some 4) r37.1) (some 5) r38.1), r38.2)) (
    bnd (faO 1 r30.1 r35.2) fun r39 =>
    bnd (ldC r39.1 r39.2) fun r40 =>
    bnd (oMv (R 1) r40.2) fun r41 =>
    bnd (call (fnV 63) [r40.1, r41.1] r41.2) fun r42 =>
    bnd (oMv r42.1 r42.2) fun r43 =>
    bnd (oExtract r43.1 0 r43.2) fun r44 =>
    bnd (oExtract r43.1 1 r44.2) fun r45 =>
    bnd (oMv r44.1 r45.2) fun r46 =>
    bnd (oMv r45.1 r46.2) fun r47 =>
    bnd (oMv r46.1 r47.2) fun r48 =>
    bnd (oUn Try.prog .not r48.1 r48.2) fun r49 =>
    vIf r49.1 (
      bnd (oMv (R 6) r49.2) fun r50 =>
      bnd (oMv r50.1 r50.2) fun r51 =>
      bnd (oMv (.int .i64 0) r51.2) fun r52 =>
      some (X.ret, (rput (rput (rput (rput (rput (rput (rput (rput (rput (rput (rput (rput (rput (rput (rput (rput (rput (rput (rput (rput (rput (rput (rput (rput (rput (rput (rput (rput R (some 26) r21.1) (some 27) r22.1) (some 28) r23.1) (some 29) r24.1) (some 30) r25.1) (some 25) r26.1) (some 31) r27.1) (some 32) r28.1) (some 33) r29.1) (some 8) r30.1) (some 7) r31.1) (some 9) r33.1) (some 34) r34.1) (some 35) r35.1) (some 38) r39.1) (some 39) r40.1) (some 40) r41.1) (some 41) r42.1) (some 37) r43.1) (some 42) r44.1) (some 43) r45.1) (some 10) r46.1) (some 11) r47.1) (some 44) r48.1) (some 45) r49.1) (some 46) r50.1) (some 4) r51.1) (some 5) r52.1), r52.2)) (
      bnd (oMv (R 0) r49.2) fun r53 =>
      bnd (oNilCheck r53.1 r53.2) fun r54 =>
      bnd (faO 1 r54.1 r54.2) fun r55 =>
      bnd (ldC r55.1 r55.2) fun r56 =>
      bnd (call (fnV 64) [r56.1] r56.2) fun r57 =>
      bnd (oMv r57.1 r57.2) fun r58 =>
      bnd (oExtract r58.1 0 r58.2) fun r59 =>
      bnd (oExtract r58.1 1 r59.2) fun r60 =>
      bnd (oExtract r58.1 2 r60.2) fun r61 =>
      bnd (oMv (R 0) r61.2) fun r62 =>
      bnd (oNilCheck r62.1 r62.2) fun r63 =>
      bnd (faO 2 r63.1 r63.2) fun r64 =>
      bnd (ldC r64.1 r64.2) fun r65 =>
      bnd (faO 0 r30.1 r65.2) fun r66 =>
      bnd (ldC r66.1 r66.2) fun r67 =>
      bnd (oBuiltin Try.prog .delete #[116, 3] 0 #[false, false] [r65.1, r67.1] r67.2) fun r68 =>
      bnd (oMv (R 6) r68.2) fun r69 =>
      bnd (ldA 2 r30.1 r69.2) fun r70 =>
      bnd (oBuildSlice Try.prog 39 1 [(0, r70.1)] r70.2) fun r71 =>
      bnd (aAppend Try.prog r71.2 #[39, 39] r69.1 r71.1) fun r72 =>
      bnd (oMv r72.1 r72.2) fun r73 =>
      some (X.normal, (rput (rput (rput (rput (rput (rput (rput (rput (rput (rput (rput (rput (rput (rput (rput (rput (rput (rput (rput (rput (rput (rput (rput (rput (rput (rput (rput (rput (rput (rput (rput (rput (rput (rput (rput (rput (rput (rput (rput (rput (rput (rput (rput (rput (rput R (some 26) r21.1) (some 27) r22.1) (some 28) r23.1) (some 29) r24.1) (some 30) r25.1) (some 25) r26.1) (some 31) r27.1) (some 32) r28.1) (some 33) r29.1) (some 8) r30.1) (some 7) r31.1) (some 9) r33.1) (some 34) r34.1) (some 35) r35.1) (some 38) r39.1) (some 39) r40.1) (some 40) r41.1) (some 41) r42.1) (some 37) r43.1) (some 42) r44.1) (some 43) r45.1) (some 10) r46.1) (some 11) r47.1) (some 44) r48.1) (some 45) r49.1) (some 48) r53.1) (some 49) r54.1) (some 50) r55.1) (some 51) r56.1) (some 52) r57.1) (some 47) r58.1) (some 53) r59.1) (some 54) r60.1) (some 55) r61.1) (some 56) r62.1) (some 57) r63.1) (some 58) r64.1) (some 59) r65.1) (some 60) r66.1) (some 61) r67.1) (some 62) r69.1) (some 63) r70.1) (some 64) r71.1) (some 65) r72.1) (some 6) r73.1), r73.2)))
noncomputable def holds_Holds_Due (call : Eng.Callee) (x0 x1 : Value) (W : AW) : Option (Value × AW) :=
  bnd (oMv (.slice none 0 0) W) fun r1 =>
  bnd (oMv (.int .i64 0) r1.2) fun r2 =>
  bnd (oMv x0 r2.2) fun r3 =>
  bnd (oBin Try.prog .eql 35 false true r3.1 (.pointer none) r3.2) fun r4 =>
  bnd (oMv r4.1 r4.2) fun r5 =>
  bnd (bIf (wnt r5.1 false) (oMv x0 r5.2) (some (undef, r5.2))) fun r6 =>
  bnd (bIf (wnt r5.1 false) (oNilCheck r6.1 r6.2) (some (undef, r6.2))) fun r7 =>
  bnd (bIf (wnt r5.1 false) (faO 0 r7.1 r7.2) (some (undef, r7.2))) fun r8 =>
  bnd (bIf (wnt r5.1 false) (ldC r8.1 r8.2) (some (undef, r8.2))) fun r9 =>
  bnd (bIf (wnt r5.1 false) (oBin Try.prog .eql 3 false true r9.1 (.int .i64 0) r9.2) (some (undef, r9.2))) fun r10 =>
  bnd (oPick r5.1 (.bool true) r10.1 r10.2) fun r11 =>
  bnd (oMv r11.1 r11.2) fun r12 =>
  vIf r12.1 (
    bnd (oMv (.slice none 0 0) r12.2) fun r13 =>
    bnd (oMv (.int .i64 1) r13.2) fun r14 =>
    oRes Try.prog [(r13.1, none), (r14.1, none)] r14.2) (
    bnd (oMv x1 r12.2) fun r15 =>
    bnd (oBin Try.prog .lss 2 false true r15.1 (.int .i64 0) r15.2) fun r16 =>
    bnd (oMv r16.1 r16.2) fun r17 =>
    vIf r17.1 (
      bnd (oMv (.slice none 0 0) r17.2) fun r18 =>
      bnd (oMv (.int .i64 7) r18.2) fun r19 =>
      oRes Try.prog [(r18.1, none), (r19.1, none)] r19.2) (
      bnd (oMv (.slice none 0 0) r17.2) fun r20 =>
      bnd (loopO (holds_Holds_Due_L1 call) (rput (rput (rput (rput (rput (rput (rput (rput (rput (rput (rput (rput (rput (rput (rput (rput (argGo 0 [x0, x1] PlanTab.blank) (some 4) r1.1) (some 5) r2.1) (some 13) r3.1) (some 14) r4.1) (some 15) r5.1) (some 16) r6.1) (some 17) r7.1) (some 18) r8.1) (some 19) r9.1) (some 20) r10.1) (some 21) r11.1) (some 12) r12.1) (some 23) r15.1) (some 24) r16.1) (some 22) r17.1) (some 6) r20.1) r20.2) fun r74 =>
      kRetX r74.1 (
        oRes Try.prog [((r74.2.1 4), none), ((r74.2.1 5), none)] r74.2.2)))
theorem holds_Holds_Due_eq (call : Eng.Callee) (x0 x1 : Value) (W : AW) : kFun Try.prog call 66 (cod 20) (rss 20) [x0, x1] W = holds_Holds_Due call x0 x1 W := by kernel_rfl
theorem holds_Holds_Due_om {x0 x1 : Value} {W : AW} {r : Value × AW} (h : holds_Holds_Due omS x0 x1 W = some r) : omS (.func (.func 20) #[] #[]) [x0, x1] W = some (gc W r) := om_of (nt := 66) (n := 2) (by kernel_rfl) (by kernel_rfl) rfl ((holds_Holds_Due_eq omS x0 x1 W).trans h)
noncomputable def holds_Holds_Next (call : Eng.Callee) (x0 : Value) (W : AW) : Option (Value × AW) :=
  bnd (oAlloc Try.prog 43 W) fun r1 =>
  bnd (oMv (.int .i64 0) r1.2) fun r2 =>
  bnd (oMv x0 r2.2) fun r3 =>
  bnd (oBin Try.prog .eql 35 false true r3.1 (.pointer none) r3.2) fun r4 =>
  bnd (oMv r4.1 r4.2) fun r5 =>
  bnd (bIf (wnt r5.1 false) (oMv x0 r5.2) (some (undef, r5.2))) fun r6 =>
  bnd (bIf (wnt r5.1 false) (oNilCheck r6.1 r6.2) (some (undef, r6.2))) fun r7 =>
  bnd (bIf (wnt r5.1 false) (faO 0 r7.1 r7.2) (some (undef, r7.2))) fun r8 =>
  bnd (bIf (wnt r5.1 false) (ldC r8.1 r8.2) (some (undef, r8.2))) fun r9 =>
  bnd (bIf (wnt r5.1 false) (oBin Try.prog .eql 3 false true r9.1 (.int .i64 0) r9.2) (some (undef, r9.2))) fun r10 =>
  bnd (oPick r5.1 (.bool true) r10.1 r10.2) fun r11 =>
  vIf r11.1 (
    bnd (oBuild Try.prog 43 [] r11.2) fun r12 =>
    bnd (stV 2 r1.1 r12.1 r12.2) fun r13 =>
    bnd (oMv (.int .i64 1) r13.2) fun r14 =>
    oRes Try.prog [(r1.1, some 43), (r14.1, none)] r14.2) (
    bnd (oMv x0 r11.2) fun r15 =>
    bnd (oNilCheck r15.1 r15.2) fun r16 =>
    bnd (faO 1 r16.1 r16.2) fun r17 =>
    bnd (ldC r17.1 r17.2) fun r18 =>
    bnd (call (fnV 62) [r18.1] r18.2) fun r19 =>
    bnd (oMv r19.1 r19.2) fun r20 =>
    bnd (oExtract r20.1 0 r20.2) fun r21 =>
    bnd (oExtract r20.1 1 r21.2) fun r22 =>
    bnd (oExtract r20.1 2 r22.2) fun r23 =>
    bnd (oAlloc Try.prog 43 r23.2) fun r24 =>
    bnd (oMv r21.1 r24.2) fun r25 =>
    bnd (stV 2 r24.1 r22.1 r25.2) fun r26 =>
    bnd (oMv r23.1 r26.2) fun r27 =>
    bnd (ldA 2 r24.1 r27.2) fun r28 =>
    bnd (oMv r27.1 r28.2) fun r29 =>
    bnd (stV 2 r1.1 r28.1 r29.2) fun r30 =>
    bnd (oMv r29.1 r30.2) fun r31 =>
    oRes Try.prog [(r1.1, some 43), (r31.1, none)] r31.2)
theorem holds_Holds_Next_eq (call : Eng.Callee) (x0 : Value) (W : AW) : kFun Try.prog call 28 (cod 21) (rss 21) [x0] W = holds_Holds_Next call x0 W := by kernel_rfl
theorem holds_Holds_Next_om {x0 : Value} {W : AW} {r : Value × AW} (h : holds_Holds_Next omS x0 W = some r) : omS (.func (.func 21) #[] #[]) [x0] W = some (gc W r) := om_of (nt := 28) (n := 1) (by kernel_rfl) (by kernel_rfl) rfl ((holds_Holds_Next_eq omS x0 W).trans h)
noncomputable def holds_Holds_Len (call : Eng.Callee) (x0 : Value) (W : AW) : Option (Value × AW) :=
  bnd (oMv (.int .i64 0) W) fun r1 =>
  bnd (oMv x0 r1.2) fun r2 =>
  bnd (oBin Try.prog .eql 35 false true r2.1 (.pointer none) r2.2) fun r3 =>
  bnd (oMv r3.1 r3.2) fun r4 =>
  bnd (bIf (wnt r4.1 false) (oMv x0 r4.2) (some (undef, r4.2))) fun r5 =>
  bnd (bIf (wnt r4.1 false) (oNilCheck r5.1 r5.2) (some (undef, r5.2))) fun r6 =>
  bnd (bIf (wnt r4.1 false) (faO 0 r6.1 r6.2) (some (undef, r6.2))) fun r7 =>
  bnd (bIf (wnt r4.1 false) (ldC r7.1 r7.2) (some (undef, r7.2))) fun r8 =>
  bnd (bIf (wnt r4.1 false) (oBin Try.prog .eql 3 false true r8.1 (.int .i64 0) r8.2) (some (undef, r8.2))) fun r9 =>
  bnd (oPick r4.1 (.bool true) r9.1 r9.2) fun r10 =>
  vIf r10.1 (
    bnd (oMv (.int .i64 0) r10.2) fun r11 =>
    oRes Try.prog [(r11.1, none)] r11.2) (
    bnd (oMv x0 r10.2) fun r12 =>
    bnd (oNilCheck r12.1 r12.2) fun r13 =>
    bnd (faO 1 r13.1 r13.2) fun r14 =>
    bnd (ldC r14.1 r14.2) fun r15 =>
    bnd (call (fnV 65) [r15.1] r15.2) fun r16 =>
    bnd (oMv r16.1 r16.2) fun r17 =>
    oRes Try.prog [(r17.1, none)] r17.2)
theorem holds_Holds_Len_eq (call : Eng.Callee) (x0 : Value) (W : AW) : kFun Try.prog call 17 (cod 22) (rss 22) [x0] W = holds_Holds_Len call x0 W := by kernel_rfl
theorem holds_Holds_Len_om {x0 : Value} {W : AW} {r : Value × AW} (h : holds_Holds_Len omS x0 W = some r) : omS (.func (.func 22) #[] #[]) [x0] W = some (gc W r) := om_of (nt := 17) (n := 1) (by kernel_rfl) (by kernel_rfl) rfl ((holds_Holds_Len_eq omS x0 W).trans h)
noncomputable def holds_New_1 (call : Eng.Callee) (x0 x1 : Value) (W : AW) : Option (Value × AW) :=
  bnd (oBox x0 W) fun r1 =>
  bnd (oBox x1 r1.2) fun r2 =>
  bnd (oMv (.bool false) r2.2) fun r3 =>
  bnd (faO 1 r1.1 r3.2) fun r4 =>
  bnd (ldC r4.1 r4.2) fun r5 =>
  bnd (faO 1 r2.1 r5.2) fun r6 =>
  bnd (ldC r6.1 r6.2) fun r7 =>
  bnd (faO 0 r1.1 r7.2) fun r8 =>
  bnd (ldC r8.1 r8.2) fun r9 =>
  bnd (faO 0 r2.1 r9.2) fun r10 =>
  bnd (ldC r10.1 r10.2) fun r11 =>
  bnd (call (fnV 57) [r5.1, r7.1] r11.2) fun r12 =>
  bIf (agV true (ldC r10.1 r12.2) r11.1 && (agV true (ldC r8.1 r12.2) r9.1 && true)) (bnd (call (fnV 58) [r9.1, r11.1] r12.2) fun r13 =>
  bnd (oBuildSlice Try.prog 22 2 [(0, r12.1), (1, r13.1)] r13.2) fun r14 =>
  bnd (call (fnV 56) [r14.1] r14.2) fun r15 =>
  bnd (oBin Try.prog .lss 3 false true r15.1 (.int .i64 0) r15.2) fun r16 =>
  bnd (oMv r16.1 r16.2) fun r17 =>
  oRes Try.prog [(r17.1, none)] r17.2) none
theorem holds_New_1_eq (call : Eng.Callee) (x0 x1 : Value) (W : AW) : kFun Try.prog call 18 (cod 55) (rss 55) [x0, x1] W = holds_New_1 call x0 x1 W := by kernel_rfl
theorem holds_New_1_om {x0 x1 : Value} {W : AW} {r : Value × AW} (h : holds_New_1 omS x0 x1 W = some r) : omS (.func (.func 55) #[] #[]) [x0, x1] W = some (gc W r) := om_of (nt := 18) (n := 2) (by kernel_rfl) (by kernel_rfl) rfl ((holds_New_1_eq omS x0 x1 W).trans h)
theorem holds_New_1_om1 {x0 x1 : Value} {W : AW} {r : Value × AW} (h : holds_New_1 om1 x0 x1 W = some r) : om1 (.func (.func 55) #[] #[]) [x0, x1] W = some (gc W r) := om_of (nt := 18) (n := 2) (by kernel_rfl) (by kernel_rfl) rfl ((holds_New_1_eq om1 x0 x1 W).trans h)
noncomputable def cmp_Orint_L1 (call : Eng.Callee) (R : Nat → Value) (W : AW) : Option LT :=
  bnd (oBin Try.prog .lss 3 false false (R 8) (R 7) W) fun r6 =>
  vIf r6.1 (
    bnd (ixS 1 (R 6) (R 8) r6.2) fun r7 =>
    bnd (ldC r7.1 r7.2) fun r8 =>
    bnd (oMv r8.1 r8.2) fun r9 =>
    bnd (oMv r9.1 r9.2) fun r10 =>
    bnd (oMv (R 3) r10.2) fun r11 =>
    bnd (oBin Try.prog .neq 3 false false r10.1 r11.1 r11.2) fun r12 =>
    vIf r12.1 (
      bnd (oMv r9.1 r12.2) fun r13 =>
      bnd (oMv r13.1 r13.2) fun r14 =>
      some (X.ret, (rput (rput (rput (rput (rput (rput (rput (rput (rput R (some 9) r6.1) (some 10) r7.1) (some 11) r8.1) (some 5) r9.1) (some 12) r10.1) (some 13) r11.1) (some 14) r12.1) (some 15) r13.1) (some 2) r14.1), r14.2)) (
      bnd (oBin Try.prog .add 3 false true (R 8) (.int .i64 1) r12.2) fun r15 =>
      bnd (oMv r15.1 r15.2) fun r16 =>
      some (X.normal, (rput (rput (rput (rput (rput (rput (rput (rput (rput R (some 9) r6.1) (some 10) r7.1) (some 11) r8.1) (some 5) r9.1) (some 12) r10.1) (some 13) r11.1) (some 14) r12.1) (some 16) r15.1) (some 8) r16.1), r16.2))) (
    some (X.exit 0, (rput R (some 9) r6.1), r6.2))
noncomputable def cmp_Orint (call : Eng.Callee) (x0 : Value) (W : AW) : Option (Value × AW) :=
  bnd (oMv (.int .i64 0) W) fun r1 =>
  bnd (oMv (.int .i64 0) r1.2) fun r2 =>
  bnd (oMv x0 r2.2) fun r3 =>
  bnd (oBuiltin Try.prog .len #[22] 3 #[false] [r3.1] r3.2) fun r4 =>
  bnd (oMv (.int .i64 0) r4.2) fun r5 =>
  bnd (loopO (cmp_Orint_L1 call) (rput (rput (rput (rput (rput (argGo 0 [x0] PlanTab.blank) (some 2) r1.1) (some 3) r2.1) (some 6) r3.1) (some 7) r4.1) (some 8) r5.1) r5.2) fun r17 =>
  kExit 0 r17.1 (
    bnd (oMv (r17.2.1 3) r17.2.2) fun r18 =>
    bnd (oMv r18.1 r18.2) fun r19 =>
    oRes Try.prog [(r19.1, none)] r19.2) (kRetX r17.1 (
    oRes Try.prog [((r17.2.1 2), none)] r17.2.2))
theorem cmp_Orint_eq (call : Eng.Callee) (x0 : Value) (W : AW) : kFun Try.prog call 18 (cod 56) (rss 56) [x0] W = cmp_Orint call x0 W := by kernel_rfl
theorem cmp_Orint_om {x0 : Value} {W : AW} {r : Value × AW} (h : cmp_Orint omS x0 W = some r) : omS (.func (.func 56) #[] #[]) [x0] W = some (gc W r) := om_of (nt := 18) (n := 1) (by kernel_rfl) (by kernel_rfl) rfl ((cmp_Orint_eq omS x0 W).trans h)
theorem cmp_Orint_om1 {x0 : Value} {W : AW} {r : Value × AW} (h : cmp_Orint om1 x0 W = some r) : om1 (.func (.func 56) #[] #[]) [x0] W = some (gc W r) := om_of (nt := 18) (n := 1) (by kernel_rfl) (by kernel_rfl) rfl ((cmp_Orint_eq om1 x0 W).trans h)
noncomputable def cmp_Compareint64 (call : Eng.Callee) (x0 x1 : Value) (W : AW) : Option (Value × AW) :=
  bnd (oMv (.int .i64 0) W) fun r1 =>
  bnd (oMv x0 r1.2) fun r2 =>
  bnd (call (fnV 95) [r2.1] r2.2) fun r3 =>
  bnd (oMv r3.1 r3.2) fun r4 =>
  bnd (oMv x1 r4.2) fun r5 =>
  bnd (call (fnV 95) [r5.1] r5.2) fun r6 =>
  bnd (oMv r6.1 r6.2) fun r7 =>
  bnd (oMv r4.1 r7.2) fun r8 =>
  vIf r8.1 (
    bnd (oMv r7.1 r8.2) fun r9 =>
    vIf r9.1 (
      bnd (oMv (.int .i64 0) r9.2) fun r10 =>
      oRes Try.prog [(r10.1, none)] r10.2) (
      bnd (oMv (.int .i64 (-1)) r9.2) fun r11 =>
      oRes Try.prog [(r11.1, none)] r11.2)) (
    bnd (oMv r7.1 r8.2) fun r12 =>
    vIf r12.1 (
      bnd (oMv (.int .i64 1) r12.2) fun r13 =>
      oRes Try.prog [(r13.1, none)] r13.2) (
      bnd (oMv x0 r12.2) fun r14 =>
      bnd (oMv x1 r14.2) fun r15 =>
      bnd (oBin Try.prog .lss 2 false false r14.1 r15.1 r15.2) fun r16 =>
      vIf r16.1 (
        bnd (oMv (.int .i64 (-1)) r16.2) fun r17 =>
        oRes Try.prog [(r17.1, none)] r17.2) (
        bnd (oMv x0 r16.2) fun r18 =>
        bnd (oMv x1 r18.2) fun r19 =>
        bnd (oBin Try.prog .gtr 2 false false r18.1 r19.1 r19.2) fun r20 =>
        vIf r20.1 (
          bnd (oMv (.int .i64 1) r20.2) fun r21 =>
          oRes Try.prog [(r21.1, none)] r21.2) (
          bnd (oMv (.int .i64 0) r20.2) fun r22 =>
          oRes Try.prog [(r22.1, none)] r22.2))))
theorem cmp_Compareint64_eq (call : Eng.Callee) (x0 x1 : Value) (W : AW) : kFun Try.prog call 20 (cod 57) (rss 57) [x0, x1] W = cmp_Compareint64 call x0 x1 W := by kernel_rfl
theorem cmp_Compareint64_om {x0 x1 : Value} {W : AW} {r : Value × AW} (h : cmp_Compareint64 omS x0 x1 W = some r) : omS (.func (.func 57) #[] #[]) [x0, x1] W = some (gc W r) := om_of (nt := 20) (n := 2) (by kernel_rfl) (by kernel_rfl) rfl ((cmp_Compareint64_eq omS x0 x1 W).trans h)
theorem cmp_Compareint64_om1 {x0 x1 : Value} {W : AW} {r : Value × AW} (h : cmp_Compareint64 om1 x0 x1 W = some r) : om1 (.func (.func 57) #[] #[]) [x0, x1] W = some (gc W r) := om_of (nt := 20) (n := 2) (by kernel_rfl) (by kernel_rfl) rfl ((cmp_Compareint64_eq om1 x0 x1 W).trans h)
noncomputable def cmp_Compareint (call : Eng.Callee) (x0 x1 : Value) (W : AW) : Option (Value × AW) :=
  bnd (oMv (.int .i64 0) W) fun r1 =>
  bnd (oMv x0 r1.2) fun r2 =>
  bnd (call (fnV 96) [r2.1] r2.2) fun r3 =>
  bnd (oMv r3.1 r3.2) fun r4 =>
  bnd (oMv x1 r4.2) fun r5 =>
  bnd (call (fnV 96) [r5.1] r5.2) fun r6 =>
  bnd (oMv r6.1 r6.2) fun r7 =>
  bnd (oMv r4.1 r7.2) fun r8 =>
  vIf r8.1 (
    bnd (oMv r7.1 r8.2) fun r9 =>
    vIf r9.1 (
      bnd (oMv (.int .i64 0) r9.2) fun r10 =>
      oRes Try.prog [(r10.1, none)] r10.2) (
      bnd (oMv (.int .i64 (-1)) r9.2) fun r11 =>
      oRes Try.prog [(r11.1, none)] r11.2)) (
    bnd (oMv r7.1 r8.2) fun r12 =>
    vIf r12.1 (
      bnd (oMv (.int .i64 1) r12.2) fun r13 =>
      oRes Try.prog [(r13.1, none)] r13.2) (
      bnd (oMv x0 r12.2) fun r14 =>
      bnd (oMv x1 r14.2) fun r15 =>
      bnd (oBin Try.prog .lss 3 false false r14.1 r15.1 r15.2) fun r16 =>
      vIf r16.1 (
        bnd (oMv (.int .i64 (-1)) r16.2) fun r17 =>
        oRes Try.prog [(r17.1, none)] r17.2) (
        bnd (oMv x0 r16.2) fun r18 =>
        bnd (oMv x1 r18.2) fun r19 =>
        bnd (oBin Try.prog .gtr 3 false false r18.1 r19.1 r19.2) fun r20 =>
        vIf r20.1 (
          bnd (oMv (.int .i64 1) r20.2) fun r21 =>
          oRes Try.prog [(r21.1, none)] r21.2) (
          bnd (oMv (.int .i64 0) r20.2) fun r22 =>
          oRes Try.prog [(r22.1, none)] r22.2))))
theorem cmp_Compareint_eq (call : Eng.Callee) (x0 x1 : Value) (W : AW) : kFun Try.prog call 20 (cod 58) (rss 58) [x0, x1] W = cmp_Compareint call x0 x1 W := by kernel_rfl
theorem cmp_Compareint_om {x0 x1 : Value} {W : AW} {r : Value × AW} (h : cmp_Compareint omS x0 x1 W = some r) : omS (.func (.func 58) #[] #[]) [x0, x1] W = some (gc W r) := om_of (nt := 20) (n := 2) (by kernel_rfl) (by kernel_rfl) rfl ((cmp_Compareint_eq omS x0 x1 W).trans h)
theorem cmp_Compareint_om1 {x0 x1 : Value} {W : AW} {r : Value × AW} (h : cmp_Compareint om1 x0 x1 W = some r) : om1 (.func (.func 58) #[] #[]) [x0, x1] W = some (gc W r) := om_of (nt := 20) (n := 2) (by kernel_rfl) (by kernel_rfl) rfl ((cmp_Compareint_eq om1 x0 x1 W).trans h)
noncomputable def heaps_Newapi_HoEntry (call : Eng.Callee) (x0 : Value) (W : AW) : Option (Value × AW) :=
  bnd (oMv (.pointer none) W) fun r1 =>
  bnd (oMv x0 r1.2) fun r2 =>
  bnd (oBin Try.prog .eql 113 false true r2.1 .nilFunc r2.2) fun r3 =>
  vIf r3.1 (
    bnd (oMv (.pointer none) r3.2) fun r4 =>
    oRes Try.prog [(r4.1, none)] r4.2) (
    bnd (oMv x0 r3.2) fun r5 =>
    bnd (oBuild Try.prog 181 [(1, r5.1)] r5.2) fun r6 =>
    bnd (oMkMap Try.prog 182 none r6.2) fun r7 =>
    bnd (oBuild Try.prog 184 [(0, r6.1), (1, r7.1), (2, (.int .i64 1))] r7.2) fun r8 =>
    bnd (oBox r8.1 r8.2) fun r9 =>
    bnd (oMv r9.1 r9.2) fun r10 =>
    oRes Try.prog [(r10.1, none)] r10.2)
theorem heaps_Newapi_HoEntry_eq (call : Eng.Callee) (x0 : Value) (W : AW) : kFun Try.prog call 10 (cod 59) (rss 59) [x0] W = heaps_Newapi_HoEntry call x0 W := by kernel_rfl
theorem heaps_Newapi_HoEntry_om {x0 : Value} {W : AW} {r : Value × AW} (h : heaps_Newapi_HoEntry omS x0 W = some r) : omS (.func (.func 59) #[] #[]) [x0] W = some (gc W r) := om_of (nt := 10) (n := 1) (by kernel_rfl) (by kernel_rfl) rfl ((heaps_Newapi_HoEntry_eq omS x0 W).trans h)
noncomputable def holds_Holds_find (call : Eng.Callee) (x0 x1 x2 : Value) (W : AW) : Option (Value × AW) :=
  bnd (oMv (.int .i64 0) W) fun r1 =>
  bnd (oMv (.int .i64 0) r1.2) fun r2 =>
  bnd (oMv x0 r2.2) fun r3 =>
  bnd (oBin Try.prog .eql 35 false true r3.1 (.pointer none) r3.2) fun r4 =>
  bnd (oMv r4.1 r4.2) fun r5 =>
  bnd (bIf (wnt r5.1 false) (oMv x0 r5.2) (some (undef, r5.2))) fun r6 =>
  bnd (bIf (wnt r5.1 false) (oNilCheck r6.1 r6.2) (some (undef, r6.2))) fun r7 =>
  bnd (bIf (wnt r5.1 false) (faO 0 r7.1 r7.2) (some (undef, r7.2))) fun r8 =>
  bnd (bIf (wnt r5.1 false) (ldC r8.1 r8.2) (some (undef, r8.2))) fun r9 =>
  bnd (bIf (wnt r5.1 false) (oBin Try.prog .eql 3 false true r9.1 (.int .i64 0) r9.2) (some (undef, r9.2))) fun r10 =>
  bnd (oPick r5.1 (.bool true) r10.1 r10.2) fun r11 =>
  bnd (oMv r11.1 r11.2) fun r12 =>
  vIf r12.1 (
    bnd (oMv (.int .i64 0) r12.2) fun r13 =>
    bnd (oMv (.int .i64 1) r13.2) fun r14 =>
    oRes Try.prog [(r13.1, none), (r14.1, none)] r14.2) (
    bnd (oMv x0 r12.2) fun r15 =>
    bnd (oMv x1 r15.2) fun r16 =>
    bnd (oMv x2 r16.2) fun r17 =>
    bnd (call (fnV 97) [r15.1, r16.1, r17.1] r17.2) fun r18 =>
    bnd (oMv r18.1 r18.2) fun r19 =>
    vIf r19.1 (
      bnd (oMv (.int .i64 0) r19.2) fun r20 =>
      bnd (oMv (.int .i64 7) r20.2) fun r21 =>
      oRes Try.prog [(r20.1, none), (r21.1, none)] r21.2) (
      bnd (oMv x0 r19.2) fun r22 =>
      bnd (oNilCheck r22.1 r22.2) fun r23 =>
      bnd (faO 2 r23.1 r23.2) fun r24 =>
      bnd (ldC r24.1 r24.2) fun r25 =>
      bnd (oMv x1 r25.2) fun r26 =>
      bnd (oLookup Try.prog 116 r25.1 r26.1 true r26.2) fun r27 =>
      bnd (oMv r27.1 r27.2) fun r28 =>
      bnd (oExtract r28.1 0 r28.2) fun r29 =>
      bnd (oExtract r28.1 1 r29.2) fun r30 =>
      bnd (oMv r29.1 r30.2) fun r31 =>
      bnd (oMv r30.1 r31.2) fun r32 =>
      bnd (oMv r32.1 r32.2) fun r33 =>
      bnd (oUn Try.prog .not r33.1 r33.2) fun r34 =>
      vIf r34.1 (
        bnd (oMv (.int .i64 0) r34.2) fun r35 =>
        bnd (oMv (.int .i64 4) r35.2) fun r36 =>
        oRes Try.prog [(r35.1, none), (r36.1, none)] r36.2) (
        bnd (oMv r31.1 r34.2) fun r37 =>
        bnd (oMv r37.1 r37.2) fun r38 =>
        bnd (oMv (.int .i64 0) r38.2) fun r39 =>
        oRes Try.prog [(r38.1, none), (r39.1, none)] r39.2)))
theorem holds_Holds_find_eq (call : Eng.Callee) (x0 x1 x2 : Value) (W : AW) : kFun Try.prog call 37 (cod 60) (rss 60) [x0, x1, x2] W = holds_Holds_find call x0 x1 x2 W := by kernel_rfl
theorem holds_Holds_find_om {x0 x1 x2 : Value} {W : AW} {r : Value × AW} (h : holds_Holds_find omS x0 x1 x2 W = some r) : omS (.func (.func 60) #[] #[]) [x0, x1, x2] W = some (gc W r) := om_of (nt := 37) (n := 3) (by kernel_rfl) (by kernel_rfl) rfl ((holds_Holds_find_eq omS x0 x1 x2 W).trans h)
noncomputable def heaps_Queueapi_HoEntry_Push (call : Eng.Callee) (x0 x1 : Value) (W : AW) : Option (Value × AW) :=
  bnd (oBox x1 W) fun r1 =>
  bnd (oMv (.int .i64 0) r1.2) fun r2 =>
  bnd (oMv (.int .i64 0) r2.2) fun r3 =>
  bnd (oMv x0 r3.2) fun r4 =>
  bnd (call (fnV 98) [r4.1] r4.2) fun r5 =>
  bnd (oUn Try.prog .not r5.1 r5.2) fun r6 =>
  bnd (oMv r6.1 r6.2) fun r7 =>
  vIf r7.1 (
    bnd (oMv (.int .i64 0) r7.2) fun r8 =>
    bnd (oMv (.int .i64 1) r8.2) fun r9 =>
    oRes Try.prog [(r8.1, none), (r9.1, none)] r9.2) (
    bnd (oMv x0 r7.2) fun r10 =>
    bnd (oNilCheck r10.1 r10.2) fun r11 =>
    bnd (faO 0 r11.1 r11.2) fun r12 =>
    bnd (faO 0 r12.1 r12.2) fun r13 =>
    bnd (ldC r13.1 r13.2) fun r14 =>
    bnd (oBuiltin Try.prog .len #[179] 3 #[false] [r14.1] r14.2) fun r15 =>
    bnd (oBin Try.prog .geq 3 false true r15.1 (.int .i64 5000) r15.2) fun r16 =>
    bnd (oMv r16.1 r16.2) fun r17 =>
    bnd (bIf (wnt r17.1 false) (oMv x0 r17.2) (some (undef, r17.2))) fun r18 =>
    bnd (bIf (wnt r17.1 false) (oNilCheck r18.1 r18.2) (some (undef, r18.2))) fun r19 =>
    bnd (bIf (wnt r17.1 false) (faO 3 r19.1 r19.2) (some (undef, r19.2))) fun r20 =>
    bnd (bIf (wnt r17.1 false) (ldC r20.1 r20.2) (some (undef, r20.2))) fun r21 =>
    bnd (bIf (wnt r17.1 false) (oBin Try.prog .geq 2 false true r21.1 (.int .i64 1000000000000000) r21.2) (some (undef, r21.2))) fun r22 =>
    bnd (oPick r17.1 (.bool true) r22.1 r22.2) fun r23 =>
    bnd (oMv r23.1 r23.2) fun r24 =>
    vIf r24.1 (
      bnd (oMv (.int .i64 0) r24.2) fun r25 =>
      bnd (oMv (.int .i64 5) r25.2) fun r26 =>
      oRes Try.prog [(r25.1, none), (r26.1, none)] r26.2) (
      bnd (oMv x0 r24.2) fun r27 =>
      bnd (oNilCheck r27.1 r27.2) fun r28 =>
      bnd (faO 3 r28.1 r28.2) fun r29 =>
      bnd (ldC r29.1 r29.2) fun r30 =>
      bnd (ldA 2 r1.1 r30.2) fun r31 =>
      bnd (oBuild Try.prog 189 [(0, r30.1), (1, r31.1)] r31.2) fun r32 =>
      bnd (oBox r32.1 r32.2) fun r33 =>
      bnd (oMv r33.1 r33.2) fun r34 =>
      bnd (oMv x0 r34.2) fun r35 =>
      bnd (oNilCheck r35.1 r35.2) fun r36 =>
      bnd (faO 3 r36.1 r36.2) fun r37 =>
      bnd (ldC r37.1 r37.2) fun r38 =>
      bnd (oBin Try.prog .add 2 false true r38.1 (.int .i64 1) r38.2) fun r39 =>
      bnd (oNilCheck r35.1 r39.2) fun r40 =>
      bnd (faO 3 r40.1 r40.2) fun r41 =>
      bnd (stV 1 r41.1 r39.1 r41.2) fun r42 =>
      bnd (oMv x0 r42.2) fun r43 =>
      bnd (oNilCheck r43.1 r43.2) fun r44 =>
      bnd (faO 2 r44.1 r44.2) fun r45 =>
      bnd (ldC r45.1 r45.2) fun r46 =>
      bnd (oMv r34.1 r46.2) fun r47 =>
      bnd (oNilCheck r47.1 r47.2) fun r48 =>
      bnd (faO 0 r48.1 r48.2) fun r49 =>
      bnd (ldC r49.1 r49.2) fun r50 =>
      bnd (oMv r34.1 r50.2) fun r51 =>
      bnd (oMapUpdate Try.prog 182 r46.1 r50.1 r51.1 r51.2) fun r52 =>
      bnd (oMv x0 r52.2) fun r53 =>
      bnd (oNilCheck r53.1 r53.2) fun r54 =>
      bnd (faO 0 r54.1 r54.2) fun r55 =>
      bnd (oMkIface Try.prog 190 r55.1 r55.2) fun r56 =>
      bnd (oMv r34.1 r56.2) fun r57 =>
      bnd (oMkIface Try.prog 187 r57.1 r57.2) fun r58 =>
      bnd (call (fnV 70) [r56.1, r58.1] r58.2) fun r59 =>
      bnd (oMv r34.1 r59.2) fun r60 =>
      bnd (oNilCheck r60.1 r60.2) fun r61 =>
      bnd (faO 0 r61.1 r61.2) fun r62 =>
      bnd (ldC r62.1 r62.2) fun r63 =>
      bnd (oMv r63.1 r63.2) fun r64 =>
      bnd (oMv (.int .i64 0) r64.2) fun r65 =>
      oRes Try.prog [(r64.1, none), (r65.1, none)] r65.2))
theorem heaps_Queueapi_HoEntry_Push_eq (call : Eng.Callee) (x0 x1 : Value) (W : AW) : kFun Try.prog call 60 (cod 61) (rss 61) [x0, x1] W = heaps_Queueapi_HoEntry_Push call x0 x1 W := by kernel_rfl
theorem heaps_Queueapi_HoEntry_Push_om {x0 x1 : Value} {W : AW} {r : Value × AW} (h : heaps_Queueapi_HoEntry_Push omS x0 x1 W = some r) : omS (.func (.func 61) #[] #[]) [x0, x1] W = some (gc W r) := om_of (nt := 60) (n := 2) (by kernel_rfl) (by kernel_rfl) rfl ((heaps_Queueapi_HoEntry_Push_eq omS x0 x1 W).trans h)
noncomputable def heaps_Queueapi_HoEntry_Peek (call : Eng.Callee) (x0 : Value) (W : AW) : Option (Value × AW) :=
  bnd (oMv (.int .i64 0) W) fun r1 =>
  bnd (oAlloc Try.prog 43 r1.2) fun r2 =>
  bnd (oMv (.int .i64 0) r2.2) fun r3 =>
  bnd (oMv x0 r3.2) fun r4 =>
  bnd (call (fnV 98) [r4.1] r4.2) fun r5 =>
  bnd (oUn Try.prog .not r5.1 r5.2) fun r6 =>
  bnd (oMv r6.1 r6.2) fun r7 =>
  vIf r7.1 (
    bnd (ldA 2 r2.1 r7.2) fun r8 =>
    bnd (oMv (.int .i64 0) r8.2) fun r9 =>
    bnd (stV 2 r2.1 r8.1 r9.2) fun r10 =>
    bnd (oMv (.int .i64 1) r10.2) fun r11 =>
    oRes Try.prog [(r9.1, none), (r2.1, some 43), (r11.1, none)] r11.2) (
    bnd (oMv x0 r7.2) fun r12 =>
    bnd (oNilCheck r12.1 r12.2) fun r13 =>
    bnd (faO 0 r13.1 r13.2) fun r14 =>
    bnd (faO 0 r14.1 r14.2) fun r15 =>
    bnd (ldC r15.1 r15.2) fun r16 =>
    bnd (oBuiltin Try.prog .len #[179] 3 #[false] [r16.1] r16.2) fun r17 =>
    bnd (oBin Try.prog .eql 3 false true r17.1 (.int .i64 0) r17.2) fun r18 =>
    bnd (oMv r18.1 r18.2) fun r19 =>
    vIf r19.1 (
      bnd (ldA 2 r2.1 r19.2) fun r20 =>
      bnd (oMv (.int .i64 0) r20.2) fun r21 =>
      bnd (stV 2 r2.1 r20.1 r21.2) fun r22 =>
      bnd (oMv (.int .i64 4) r22.2) fun r23 =>
      oRes Try.prog [(r21.1, none), (r2.1, some 43), (r23.1, none)] r23.2) (
      bnd (oMv x0 r19.2) fun r24 =>
      bnd (oNilCheck r24.1 r24.2) fun r25 =>
      bnd (faO 0 r25.1 r25.2) fun r26 =>
      bnd (faO 0 r26.1 r26.2) fun r27 =>
      bnd (ldC r27.1 r27.2) fun r28 =>
      bnd (ixS 1 r28.1 (.int .i64 0) r28.2) fun r29 =>
      bnd (ldC r29.1 r29.2) fun r30 =>
      bnd (oMv r30.1 r30.2) fun r31 =>
      bnd (oMv r31.1 r31.2) fun r32 =>
      bnd (oNilCheck r32.1 r32.2) fun r33 =>
      bnd (faO 0 r33.1 r33.2) fun r34 =>
      bnd (ldC r34.1 r34.2) fun r35 =>
      bnd (oMv r31.1 r35.2) fun r36 =>
      bnd (oNilCheck r36.1 r36.2) fun r37 =>
      bnd (faO 1 r37.1 r37.2) fun r38 =>
      bnd (ldA 2 r38.1 r38.2) fun r39 =>
      bnd (oMv r35.1 r39.2) fun r40 =>
      bnd (stV 2 r2.1 r39.1 r40.2) fun r41 =>
      bnd (oMv (.int .i64 0) r41.2) fun r42 =>
      oRes Try.prog [(r40.1, none), (r2.1, some 43), (r42.1, none)] r42.2))
theorem heaps_Queueapi_HoEntry_Peek_eq (call : Eng.Callee) (x0 : Value) (W : AW) : kFun Try.prog call 35 (cod 62) (rss 62) [x0] W = heaps_Queueapi_HoEntry_Peek call x0 W := by kernel_rfl
theorem heaps_Queueapi_HoEntry_Peek_om {x0 : Value} {W : AW} {r : Value × AW} (h : heaps_Queueapi_HoEntry_Peek omS x0 W = some r) : omS (.func (.func 62) #[] #[]) [x0] W = some (gc W r) := om_of (nt := 35) (n := 1) (by kernel_rfl) (by kernel_rfl) rfl ((heaps_Queueapi_HoEntry_Peek_eq omS x0 W).trans h)
noncomputable def times_Passed (call : Eng.Callee) (x0 x1 : Value) (W : AW) : Option (Value × AW) :=
  bnd (oMv (.bool false) W) fun r1 =>
  bnd (oMv (.int .i64 0) r1.2) fun r2 =>
  bnd (oMv x0 r2.2) fun r3 =>
  bnd (oMv x1 r3.2) fun r4 =>
  bnd (oBuildSlice Try.prog 34 2 [(0, r3.1), (1, r4.1)] r4.2) fun r5 =>
  bnd (call (fnV 99) [r5.1] r5.2) fun r6 =>
  vIf r6.1 (
    bnd (oMv (.bool false) r6.2) fun r7 =>
    bnd (oMv (.int .i64 7) r7.2) fun r8 =>
    oRes Try.prog [(r7.1, none), (r8.1, none)] r8.2) (
    bnd (oMv x0 r6.2) fun r9 =>
    bnd (oMv x1 r9.2) fun r10 =>
    bnd (oBin Try.prog .leq 2 false false r9.1 r10.1 r10.2) fun r11 =>
    bnd (oMv r11.1 r11.2) fun r12 =>
    bnd (oMv (.int .i64 0) r12.2) fun r13 =>
    oRes Try.prog [(r12.1, none), (r13.1, none)] r13.2)
theorem times_Passed_eq (call : Eng.Callee) (x0 x1 : Value) (W : AW) : kFun Try.prog call 13 (cod 63) (rss 63) [x0, x1] W = times_Passed call x0 x1 W := by kernel_rfl
theorem times_Passed_om {x0 x1 : Value} {W : AW} {r : Value × AW} (h : times_Passed omS x0 x1 W = some r) : omS (.func (.func 63) #[] #[]) [x0, x1] W = some (gc W r) := om_of (nt := 13) (n := 2) (by kernel_rfl) (by kernel_rfl) rfl ((times_Passed_eq omS x0 x1 W).trans h)
noncomputable def heaps_Queueapi_HoEntry_Pop (call : Eng.Callee) (x0 : Value) (W : AW) : Option (Value × AW) :=
  bnd (oMv (.int .i64 0) W) fun r1 =>
  bnd (oAlloc Try.prog 43 r1.2) fun r2 =>
  bnd (oMv (.int .i64 0) r2.2) fun r3 =>
  bnd (oMv x0 r3.2) fun r4 =>
  bnd (call (fnV 62) [r4.1] r4.2) fun r5 =>
  bnd (oMv r5.1 r5.2) fun r6 =>
  bnd (oExtract r6.1 0 r6.2) fun r7 =>
  bnd (oExtract r6.1 1 r7.2) fun r8 =>
  bnd (oExtract r6.1 2 r8.2) fun r9 =>
  bnd (oMv r7.1 r9.2) fun r10 =>
  bnd (stV 2 r2.1 r8.1 r10.2) fun r11 =>
  bnd (oMv r9.1 r11.2) fun r12 =>
  bnd (oMv r12.1 r12.2) fun r13 =>
  bnd (oBin Try.prog .neq 29 false true r13.1 (.int .i64 0) r13.2) fun r14 =>
  vIf r14.1 (
    bnd (ldA 2 r2.1 r14.2) fun r15 =>
    bnd (oMv r12.1 r15.2) fun r16 =>
    bnd (oMv (.int .i64 0) r16.2) fun r17 =>
    bnd (stV 2 r2.1 r15.1 r17.2) fun r18 =>
    bnd (oMv r16.1 r18.2) fun r19 =>
    oRes Try.prog [(r17.1, none), (r2.1, some 43), (r19.1, none)] r19.2) (
    bnd (oMv x0 r14.2) fun r20 =>
    bnd (oNilCheck r20.1 r20.2) fun r21 =>
    bnd (faO 0 r21.1 r21.2) fun r22 =>
    bnd (oMkIface Try.prog 190 r22.1 r22.2) fun r23 =>
    bnd (call (fnV 53) [r23.1] r23.2) fun r24 =>
    bnd (oMv x0 r24.2) fun r25 =>
    bnd (oNilCheck r25.1 r25.2) fun r26 =>
    bnd (faO 2 r26.1 r26.2) fun r27 =>
    bnd (ldC r27.1 r27.2) fun r28 =>
    bnd (oMv r10.1 r28.2) fun r29 =>
    bnd (oBuiltin Try.prog .delete #[182, 2] 0 #[false, false] [r28.1, r29.1] r29.2) fun r30 =>
    bnd (oMv r10.1 r30.2) fun r31 =>
    bnd (ldA 2 r2.1 r31.2) fun r32 =>
    bnd (oMv r31.1 r32.2) fun r33 =>
    bIf (agV true (ldA 2 r2.1 r33.2) r32.1 && true) (bnd (stV 2 r2.1 r32.1 r33.2) fun r34 =>
    bnd (oMv (.int .i64 0) r34.2) fun r35 =>
    oRes Try.prog [(r33.1, none), (r2.1, some 43), (r35.1, none)] r35.2) none)
theorem heaps_Queueapi_HoEntry_Pop_eq (call : Eng.Callee) (x0 : Value) (W : AW) : kFun Try.prog call 27 (cod 64) (rss 64) [x0] W = heaps_Queueapi_HoEntry_Pop call x0 W := by kernel_rfl
theorem heaps_Queueapi_HoEntry_Pop_om {x0 : Value} {W : AW} {r : Value × AW} (h : heaps_Queueapi_HoEntry_Pop omS x0 W = some r) : omS (.func (.func 64) #[] #[]) [x0] W = some (gc W r) := om_of (nt := 27) (n := 1) (by kernel_rfl) (by kernel_rfl) rfl ((heaps_Queueapi_HoEntry_Pop_eq omS x0 W).trans h)
noncomputable def heaps_Queueapi_HoEntry_Len (call : Eng.Callee) (x0 : Value) (W : AW) : Option (Value × AW) :=
  bnd (oMv (.int .i64 0) W) fun r1 =>
  bnd (oMv x0 r1.2) fun r2 =>
  bnd (call (fnV 98) [r2.1] r2.2) fun r3 =>
  bnd (oUn Try.prog .not r3.1 r3.2) fun r4 =>
  vIf r4.1 (
    bnd (oMv (.int .i64 0) r4.2) fun r5 =>
    oRes Try.prog [(r5.1, none)] r5.2) (
    bnd (oMv x0 r4.2) fun r6 =>
    bnd (oNilCheck r6.1 r6.2) fun r7 =>
    bnd (faO 0 r7.1 r7.2) fun r8 =>
    bnd (faO 0 r8.1 r8.2) fun r9 =>
    bnd (ldC r9.1 r9.2) fun r10 =>
    bnd (oBuiltin Try.prog .len #[179] 3 #[false] [r10.1] r10.2) fun r11 =>
    bnd (oMv r11.1 r11.2) fun r12 =>
    oRes Try.prog [(r12.1, none)] r12.2)
theorem heaps_Queueapi_HoEntry_Len_eq (call : Eng.Callee) (x0 : Value) (W : AW) : kFun Try.prog call 12 (cod 65) (rss 65) [x0] W = heaps_Queueapi_HoEntry_Len call x0 W := by kernel_rfl
theorem heaps_Queueapi_HoEntry_Len_om {x0 : Value} {W : AW} {r : Value × AW} (h : heaps_Queueapi_HoEntry_Len omS x0 W = some r) : omS (.func (.func 65) #[] #[]) [x0] W = some (gc W r) := om_of (nt := 12) (n := 1) (by kernel_rfl) (by kernel_rfl) rfl ((heaps_Queueapi_HoEntry_Len_eq omS x0 W).trans h)
noncomputable def cmp_isNaNint64 (call : Eng.Callee) (x0 : Value) (W : AW) : Option (Value × AW) :=
  bnd (oMv (.bool false) W) fun r1 =>
  bnd (oMv x0 r1.2) fun r2 =>
  bnd (oMv x0 r2.2) fun r3 =>
  bnd (oBin Try.prog .neq 2 false false r2.1 r3.1 r3.2) fun r4 =>
  bnd (oMv r4.1 r4.2) fun r5 =>
  oRes Try.prog [(r5.1, none)] r5.2
theorem cmp_isNaNint64_eq (call : Eng.Callee) (x0 : Value) (W : AW) : kFun Try.prog call 6 (cod 95) (rss 95) [x0] W = cmp_isNaNint64 call x0 W := by kernel_rfl
theorem cmp_isNaNint64_om {x0 : Value} {W : AW} {r : Value × AW} (h : cmp_isNaNint64 omS x0 W = some r) : omS (.func (.func 95) #[] #[]) [x0] W = some (gc W r) := om_of (nt := 6) (n := 1) (by kernel_rfl) (by kernel_rfl) rfl ((cmp_isNaNint64_eq omS x0 W).trans h)
theorem cmp_isNaNint64_om1 {x0 : Value} {W : AW} {r : Value × AW} (h : cmp_isNaNint64 om1 x0 W = some r) : om1 (.func (.func 95) #[] #[]) [x0] W = some (gc W r) := om_of (nt := 6) (n := 1) (by kernel_rfl) (by kernel_rfl) rfl ((cmp_isNaNint64_eq om1 x0 W).trans h)
noncomputable def cmp_isNaNint (call : Eng.Callee) (x0 : Value) (W : AW) : Option (Value × AW) :=
  bnd (oMv (.bool false) W) fun r1 =>
  bnd (oMv x0 r1.2) fun r2 =>
  bnd (oMv x0 r2.2) fun r3 =>
  bnd (oBin Try.prog .neq 3 false false r2.1 r3.1 r3.2) fun r4 =>
  bnd (oMv r4.1 r4.2) fun r5 =>
  oRes Try.prog [(r5.1, none)] r5.2
theorem cmp_isNaNint_eq (call : Eng.Callee) (x0 : Value) (W : AW) : kFun Try.prog call 6 (cod 96) (rss 96) [x0] W = cmp_isNaNint call x0 W := by kernel_rfl
theorem cmp_isNaNint_om {x0 : Value} {W : AW} {r : Value × AW} (h : cmp_isNaNint omS x0 W = some r) : omS (.func (.func 96) #[] #[]) [x0] W = some (gc W r) := om_of (nt := 6) (n := 1) (by kernel_rfl) (by kernel_rfl) rfl ((cmp_isNaNint_eq omS x0 W).trans h)
theorem cmp_isNaNint_om1 {x0 : Value} {W : AW} {r : Value × AW} (h : cmp_isNaNint om1 x0 W = some r) : om1 (.func (.func 96) #[] #[]) [x0] W = some (gc W r) := om_of (nt := 6) (n := 1) (by kernel_rfl) (by kernel_rfl) rfl ((cmp_isNaNint_eq om1 x0 W).trans h)
noncomputable def holds_Holds_bad (call : Eng.Callee) (x0 x1 x2 : Value) (W : AW) : Option (Value × AW) :=
  bnd (oMv (.bool false) W) fun r1 =>
  bnd (oMv x1 r1.2) fun r2 =>
  bnd (oBin Try.prog .lss 3 false true r2.1 (.int .i64 0) r2.2) fun r3 =>
  bnd (oMv r3.1 r3.2) fun r4 =>
  bnd (bIf (wnt r4.1 false) (oMv x1 r4.2) (some (undef, r4.2))) fun r5 =>
  bnd (bIf (wnt r4.1 false) (oMv x0 r5.2) (some (undef, r5.2))) fun r6 =>
  bnd (bIf (wnt r4.1 false) (oNilCheck r6.1 r6.2) (some (undef, r6.2))) fun r7 =>
  bnd (bIf (wnt r4.1 false) (faO 0 r7.1 r7.2) (some (undef, r7.2))) fun r8 =>
  bnd (bIf (wnt r4.1 false) (ldC r8.1 r8.2) (some (undef, r8.2))) fun r9 =>
  bnd (bIf (wnt r4.1 false) (oBin Try.prog .geq 3 false false r5.1 r9.1 r9.2) (some (undef, r9.2))) fun r10 =>
  bnd (oPick r4.1 (.bool true) r10.1 r10.2) fun r11 =>
  bnd (oMv r11.1 r11.2) fun r12 =>
  bnd (bIf (wnt r12.1 false) (oMv x2 r12.2) (some (undef, r12.2))) fun r13 =>
  bnd (bIf (wnt r12.1 false) (oBin Try.prog .lss 2 false true r13.1 (.int .i64 0) r13.2) (some (undef, r13.2))) fun r14 =>
  bnd (oPick r12.1 (.bool true) r14.1 r14.2) fun r15 =>
  bnd (oMv r15.1 r15.2) fun r16 =>
  oRes Try.prog [(r16.1, none)] r16.2
theorem holds_Holds_bad_eq (call : Eng.Callee) (x0 x1 x2 : Value) (W : AW) : kFun Try.prog call 21 (cod 97) (rss 97) [x0, x1, x2] W = holds_Holds_bad call x0 x1 x2 W := by kernel_rfl
theorem holds_Holds_bad_om {x0 x1 x2 : Value} {W : AW} {r : Value × AW} (h : holds_Holds_bad omS x0 x1 x2 W = some r) : omS (.func (.func 97) #[] #[]) [x0, x1, x2] W = some (gc W r) := om_of (nt := 21) (n := 3) (by kernel_rfl) (by kernel_rfl) rfl ((holds_Holds_bad_eq omS x0 x1 x2 W).trans h)
noncomputable def heaps_Queueapi_HoEntry_made (call : Eng.Callee) (x0 : Value) (W : AW) : Option (Value × AW) :=
  bnd (oMv (.bool false) W) fun r1 =>
  bnd (oMv x0 r1.2) fun r2 =>
  bnd (oBin Try.prog .neq 114 false true r2.1 (.pointer none) r2.2) fun r3 =>
  bnd (oMv r3.1 r3.2) fun r4 =>
  bnd (bIf (wnt r4.1 true) (oMv x0 r4.2) (some (undef, r4.2))) fun r5 =>
  bnd (bIf (wnt r4.1 true) (oNilCheck r5.1 r5.2) (some (undef, r5.2))) fun r6 =>
  bnd (bIf (wnt r4.1 true) (faO 2 r6.1 r6.2) (some (undef, r6.2))) fun r7 =>
  bnd (bIf (wnt r4.1 true) (ldC r7.1 r7.2) (some (undef, r7.2))) fun r8 =>
  bnd (bIf (wnt r4.1 true) (oBin Try.prog .neq 182 false true r8.1 (.map none) r8.2) (some (undef, r8.2))) fun r9 =>
  bnd (oPick r4.1 r9.1 (.bool false) r9.2) fun r10 =>
  bnd (oMv r10.1 r10.2) fun r11 =>
  oRes Try.prog [(r11.1, none)] r11.2
theorem heaps_Queueapi_HoEntry_made_eq (call : Eng.Callee) (x0 : Value) (W : AW) : kFun Try.prog call 12 (cod 98) (rss 98) [x0] W = heaps_Queueapi_HoEntry_made call x0 W := by kernel_rfl
theorem heaps_Queueapi_HoEntry_made_om {x0 : Value} {W : AW} {r : Value × AW} (h : heaps_Queueapi_HoEntry_made omS x0 W = some r) : omS (.func (.func 98) #[] #[]) [x0] W = some (gc W r) := om_of (nt := 12) (n := 1) (by kernel_rfl) (by kernel_rfl) rfl ((heaps_Queueapi_HoEntry_made_eq omS x0 W).trans h)
noncomputable def times_none (call : Eng.Callee) (x0 : Value) (W : AW) : Option (Value × AW) :=
  bnd (oMv (.bool false) W) fun r1 =>
  bnd (oMv x0 r1.2) fun r2 =>
  bnd (call (fnV 119) [r2.1] r2.2) fun r3 =>
  bnd (oBin Try.prog .lss 2 false true r3.1 (.int .i64 0) r3.2) fun r4 =>
  bnd (oMv r4.1 r4.2) fun r5 =>
  oRes Try.prog [(r5.1, none)] r5.2
theorem times_none_eq (call : Eng.Callee) (x0 : Value) (W : AW) : kFun Try.prog call 6 (cod 99) (rss 99) [x0] W = times_none call x0 W := by kernel_rfl
theorem times_none_om {x0 : Value} {W : AW} {r : Value × AW} (h : times_none omS x0 W = some r) : omS (.func (.func 99) #[] #[]) [x0] W = some (gc W r) := om_of (nt := 6) (n := 1) (by kernel_rfl) (by kernel_rfl) rfl ((times_none_eq omS x0 W).trans h)
noncomputable def slices_Minint64int64_L1 (call : Eng.Callee) (R : Nat → Value) (W : AW) : Option LT :=
  bnd (oMv (R 4) W) fun r12 =>
  bnd (oMv (R 0) r12.2) fun r13 =>
  bnd (oBuiltin Try.prog .len #[34] 3 #[false] [r13.1] r13.2) fun r14 =>
  bnd (oBin Try.prog .lss 3 false false r12.1 r14.1 r14.2) fun r15 =>
  vIf r15.1 (
    bnd (oMv (R 3) r15.2) fun r16 =>
    bnd (oMv (R 0) r16.2) fun r17 =>
    bnd (oMv (R 4) r17.2) fun r18 =>
    bnd (ixS 1 r17.1 r18.1 r18.2) fun r19 =>
    bnd (ldC r19.1 r19.2) fun r20 =>
    bnd (oBuiltin Try.prog .min #[2, 2] 2 #[false, false] [r16.1, r20.1] r20.2) fun r21 =>
    bnd (oMv r21.1 r21.2) fun r22 =>
    bnd (oMv (R 4) r22.2) fun r23 =>
    bnd (oBin Try.prog .add 3 false true r23.1 (.int .i64 1) r23.2) fun r24 =>
    bnd (oMv r24.1 r24.2) fun r25 =>
    some (X.normal, (rput (rput (rput (rput (rput (rput (rput (rput (rput (rput (rput (rput (rput (rput R (some 12) r12.1) (some 13) r13.1) (some 14) r14.1) (some 15) r15.1) (some 18) r16.1) (some 19) r17.1) (some 20) r18.1) (some 21) r19.1) (some 22) r20.1) (some 23) r21.1) (some 3) r22.1) (some 16) r23.1) (some 17) r24.1) (some 4) r25.1), r25.2)) (
    some (X.exit 0, (rput (rput (rput (rput R (some 12) r12.1) (some 13) r13.1) (some 14) r14.1) (some 15) r15.1), r15.2))
noncomputable def slices_Minint64int64_L2 (call : Eng.Callee) (R : Nat → Value) (W : AW) : Option LT :=
  bnd (oMv (R 4) W) fun r34 =>
  bnd (oMv (R 0) r34.2) fun r35 =>
  bnd (oBuiltin Try.prog .len #[34] 3 #[false] [r35.1] r35.2) fun r36 =>
  bnd (oBin Try.prog .lss 3 false false r34.1 r36.1 r36.2) fun r37 =>
  vIf r37.1 (
    bnd (oMv (R 3) r37.2) fun r38 =>
    bnd (oMv (R 0) r38.2) fun r39 =>
    bnd (oMv (R 4) r39.2) fun r40 =>
    bnd (ixS 1 r39.1 r40.1 r40.2) fun r41 =>
    bnd (ldC r41.1 r41.2) fun r42 =>
    bnd (oBuiltin Try.prog .min #[2, 2] 2 #[false, false] [r38.1, r42.1] r42.2) fun r43 =>
    bnd (oMv r43.1 r43.2) fun r44 =>
    bnd (oMv (R 4) r44.2) fun r45 =>
    bnd (oBin Try.prog .add 3 false true r45.1 (.int .i64 1) r45.2) fun r46 =>
    bnd (oMv r46.1 r46.2) fun r47 =>
    some (X.normal, (rput (rput (rput (rput (rput (rput (rput (rput (rput (rput (rput (rput (rput (rput R (some 12) r34.1) (some 13) r35.1) (some 14) r36.1) (some 15) r37.1) (some 18) r38.1) (some 19) r39.1) (some 20) r40.1) (some 21) r41.1) (some 22) r42.1) (some 23) r43.1) (some 3) r44.1) (some 16) r45.1) (some 17) r46.1) (some 4) r47.1), r47.2)) (
    some (X.exit 0, (rput (rput (rput (rput R (some 12) r34.1) (some 13) r35.1) (some 14) r36.1) (some 15) r37.1), r37.2))
noncomputable def slices_Minint64int64 (call : Eng.Callee) (x0 : Value) (W : AW) : Option (Value × AW) :=
  bnd (oMv (.int .i64 0) W) fun r1 =>
  bnd (oMv x0 r1.2) fun r2 =>
  bnd (oBuiltin Try.prog .len #[34] 3 #[false] [r2.1] r2.2) fun r3 =>
  bnd (oBin Try.prog .lss 3 false true r3.1 (.int .i64 1) r3.2) fun r4 =>
  vIf r4.1 (
    bnd (oMkIface Try.prog 9 (strV [115, 108, 105, 99, 101, 115, 46, 77, 105, 110, 58, 32, 101, 109, 112, 116, 121, 32, 108, 105, 115, 116]) r4.2) fun r5 =>
    bnd ((none : Option (Value × AW))) fun r6 =>
    bnd (oMv x0 r6.2) fun r7 =>
    bnd (ixS 1 r7.1 (.int .i64 0) r7.2) fun r8 =>
    bnd (ldC r8.1 r8.2) fun r9 =>
    bnd (oMv r9.1 r9.2) fun r10 =>
    bnd (oMv (.int .i64 1) r10.2) fun r11 =>
    bnd (loopO (slices_Minint64int64_L1 call) (rput (rput (rput (rput (rput (rput (rput (rput (rput (rput (argGo 0 [x0] PlanTab.blank) (some 2) r1.1) (some 5) r2.1) (some 6) r3.1) (some 7) r4.1) (some 8) r5.1) (some 9) r7.1) (some 10) r8.1) (some 11) r9.1) (some 3) r10.1) (some 4) r11.1) r11.2) fun r26 =>
    kExit 0 r26.1 (
      bnd (oMv (r26.2.1 3) r26.2.2) fun r27 =>
      bnd (oMv r27.1 r27.2) fun r28 =>
      oRes Try.prog [(r28.1, none)] r28.2) (none)) (
    bnd (oMv x0 r4.2) fun r29 =>
    bnd (ixS 1 r29.1 (.int .i64 0) r29.2) fun r30 =>
    bnd (ldC r30.1 r30.2) fun r31 =>
    bnd (oMv r31.1 r31.2) fun r32 =>
    bnd (oMv (.int .i64 1) r32.2) fun r33 =>
    bnd (loopO (slices_Minint64int64_L2 call) (rput (rput (rput (rput (rput (rput (rput (rput (rput (argGo 0 [x0] PlanTab.blank) (some 2) r1.1) (some 5) r2.1) (some 6) r3.1) (some 7) r4.1) (some 9) r29.1) (some 10) r30.1) (some 11) r31.1) (some 3) r32.1) (some 4) r33.1) r33.2) fun r48 =>
    kExit 0 r48.1 (
      bnd (oMv (r48.2.1 3) r48.2.2) fun r49 =>
      bnd (oMv r49.1 r49.2) fun r50 =>
      oRes Try.prog [(r50.1, none)] r50.2) (none))
theorem slices_Minint64int64_eq (call : Eng.Callee) (x0 : Value) (W : AW) : kFun Try.prog call 25 (cod 119) (rss 119) [x0] W = slices_Minint64int64 call x0 W := by kernel_rfl
theorem slices_Minint64int64_om {x0 : Value} {W : AW} {r : Value × AW} (h : slices_Minint64int64 omS x0 W = some r) : omS (.func (.func 119) #[] #[]) [x0] W = some (gc W r) := om_of (nt := 25) (n := 1) (by kernel_rfl) (by kernel_rfl) rfl ((slices_Minint64int64_eq omS x0 W).trans h)
noncomputable def heaps_pileapi_HoEntry_before (call : Eng.Callee) (x0 x1 x2 : Value) (W : AW) : Option (Value × AW) :=
  bnd (oMv (.bool false) W) fun r1 =>
  bnd (oMv x0 r1.2) fun r2 =>
  bnd (oNilCheck r2.1 r2.2) fun r3 =>
  bnd (faO 1 r3.1 r3.2) fun r4 =>
  bnd (ldC r4.1 r4.2) fun r5 =>
  bnd (oMv x1 r5.2) fun r6 =>
  bnd (oNilCheck r6.1 r6.2) fun r7 =>
  bnd (faO 1 r7.1 r7.2) fun r8 =>
  bnd (ldA 2 r8.1 r8.2) fun r9 =>
  bnd (oMv x2 r9.2) fun r10 =>
  bnd (oNilCheck r10.1 r10.2) fun r11 =>
  bnd (faO 1 r11.1 r11.2) fun r12 =>
  bnd (ldA 2 r12.1 r12.2) fun r13 =>
  bnd (call r5.1 [r9.1, r13.1] r13.2) fun r14 =>
  bnd (oMv r14.1 r14.2) fun r15 =>
  vIf r15.1 (
    bnd (oMv (.bool true) r15.2) fun r16 =>
    oRes Try.prog [(r16.1, none)] r16.2) (
    bnd (oMv x0 r15.2) fun r17 =>
    bnd (oNilCheck r17.1 r17.2) fun r18 =>
    bnd (faO 1 r18.1 r18.2) fun r19 =>
    bnd (ldC r19.1 r19.2) fun r20 =>
    bnd (oMv x2 r20.2) fun r21 =>
    bnd (oNilCheck r21.1 r21.2) fun r22 =>
    bnd (faO 1 r22.1 r22.2) fun r23 =>
    bnd (ldA 2 r23.1 r23.2) fun r24 =>
    bnd (oMv x1 r24.2) fun r25 =>
    bnd (oNilCheck r25.1 r25.2) fun r26 =>
    bnd (faO 1 r26.1 r26.2) fun r27 =>
    bnd (ldA 2 r27.1 r27.2) fun r28 =>
    bnd (call r20.1 [r24.1, r28.1] r28.2) fun r29 =>
    bnd (oMv r29.1 r29.2) fun r30 =>
    vIf r30.1 (
      bnd (oMv (.bool false) r30.2) fun r31 =>
      oRes Try.prog [(r31.1, none)] r31.2) (
      bnd (oMv x1 r30.2) fun r32 =>
      bnd (oNilCheck r32.1 r32.2) fun r33 =>
      bnd (faO 0 r33.1 r33.2) fun r34 =>
      bnd (ldC r34.1 r34.2) fun r35 =>
      bnd (oMv x2 r35.2) fun r36 =>
      bnd (oNilCheck r36.1 r36.2) fun r37 =>
      bnd (faO 0 r37.1 r37.2) fun r38 =>
      bnd (ldC r38.1 r38.2) fun r39 =>
      bnd (oBin Try.prog .lss 2 false false r35.1 r39.1 r39.2) fun r40 =>
      bnd (oMv r40.1 r40.2) fun r41 =>
      oRes Try.prog [(r41.1, none)] r41.2))
theorem heaps_pileapi_HoEntry_before_eq (call : Eng.Callee) (x0 x1 x2 : Value) (W : AW) : kFun Try.prog call 44 (cod 124) (rss 124) [x0, x1, x2] W = heaps_pileapi_HoEntry_before call x0 x1 x2 W := by kernel_rfl
theorem heaps_pileapi_HoEntry_before_om {x0 x1 x2 : Value} {W : AW} {r : Value × AW} (h : heaps_pileapi_HoEntry_before omS x0 x1 x2 W = some r) : omS (.func (.func 124) #[] #[]) [x0, x1, x2] W = some (gc W r) := om_of (nt := 44) (n := 3) (by kernel_rfl) (by kernel_rfl) rfl ((heaps_pileapi_HoEntry_before_eq omS x0 x1 x2 W).trans h)
theorem heaps_pileapi_HoEntry_before_om1 {x0 x1 x2 : Value} {W : AW} {r : Value × AW} (h : heaps_pileapi_HoEntry_before om1 x0 x1 x2 W = some r) : om1 (.func (.func 124) #[] #[]) [x0, x1, x2] W = some (gc W r) := om_of (nt := 44) (n := 3) (by kernel_rfl) (by kernel_rfl) rfl ((heaps_pileapi_HoEntry_before_eq om1 x0 x1 x2 W).trans h)
noncomputable def heaps_pileapi_HoEntry_Len (call : Eng.Callee) (x0 : Value) (W : AW) : Option (Value × AW) :=
  bnd (oMv (.int .i64 0) W) fun r1 =>
  bnd (oMv x0 r1.2) fun r2 =>
  bnd (oNilCheck r2.1 r2.2) fun r3 =>
  bnd (faO 0 r3.1 r3.2) fun r4 =>
  bnd (ldC r4.1 r4.2) fun r5 =>
  bnd (oBuiltin Try.prog .len #[179] 3 #[false] [r5.1] r5.2) fun r6 =>
  bnd (oMv r6.1 r6.2) fun r7 =>
  oRes Try.prog [(r7.1, none)] r7.2
theorem heaps_pileapi_HoEntry_Len_eq (call : Eng.Callee) (x0 : Value) (W : AW) : kFun Try.prog call 8 (cod 201) (rss 201) [x0] W = heaps_pileapi_HoEntry_Len call x0 W := by kernel_rfl
theorem heaps_pileapi_HoEntry_Len_om {x0 : Value} {W : AW} {r : Value × AW} (h : heaps_pileapi_HoEntry_Len omS x0 W = some r) : omS (.func (.func 201) #[] #[]) [x0] W = some (gc W r) := om_of (nt := 8) (n := 1) (by kernel_rfl) (by kernel_rfl) rfl ((heaps_pileapi_HoEntry_Len_eq omS x0 W).trans h)
noncomputable def heaps_pileapi_HoEntry_Less (call : Eng.Callee) (x0 x1 x2 : Value) (W : AW) : Option (Value × AW) :=
  bnd (oMv (.bool false) W) fun r1 =>
  bnd (oMv x0 r1.2) fun r2 =>
  bnd (oMv x0 r2.2) fun r3 =>
  bnd (oNilCheck r3.1 r3.2) fun r4 =>
  bnd (faO 0 r4.1 r4.2) fun r5 =>
  bnd (ldC r5.1 r5.2) fun r6 =>
  bnd (oMv x1 r6.2) fun r7 =>
  bnd (ixS 1 r6.1 r7.1 r7.2) fun r8 =>
  bnd (ldC r8.1 r8.2) fun r9 =>
  bnd (oMv x0 r9.2) fun r10 =>
  bnd (oNilCheck r10.1 r10.2) fun r11 =>
  bnd (faO 0 r11.1 r11.2) fun r12 =>
  bnd (ldC r12.1 r12.2) fun r13 =>
  bnd (oMv x2 r13.2) fun r14 =>
  bnd (ixS 1 r13.1 r14.1 r14.2) fun r15 =>
  bnd (ldC r15.1 r15.2) fun r16 =>
  bnd (call (fnV 124) [r2.1, r9.1, r16.1] r16.2) fun r17 =>
  bnd (oMv r17.1 r17.2) fun r18 =>
  oRes Try.prog [(r18.1, none)] r18.2
theorem heaps_pileapi_HoEntry_Less_eq (call : Eng.Callee) (x0 x1 x2 : Value) (W : AW) : kFun Try.prog call 23 (cod 202) (rss 202) [x0, x1, x2] W = heaps_pileapi_HoEntry_Less call x0 x1 x2 W := by kernel_rfl
theorem heaps_pileapi_HoEntry_Less_om {x0 x1 x2 : Value} {W : AW} {r : Value × AW} (h : heaps_pileapi_HoEntry_Less omS x0 x1 x2 W = some r) : omS (.func (.func 202) #[] #[]) [x0, x1, x2] W = some (gc W r) := om_of (nt := 23) (n := 3) (by kernel_rfl) (by kernel_rfl) rfl ((heaps_pileapi_HoEntry_Less_eq omS x0 x1 x2 W).trans h)
noncomputable def heaps_pileapi_HoEntry_Pop (call : Eng.Callee) (x0 : Value) (W : AW) : Option (Value × AW) :=
  bnd (oMv .nilIface W) fun r1 =>
  bnd (oMv x0 r1.2) fun r2 =>
  bnd (oNilCheck r2.1 r2.2) fun r3 =>
  bnd (faO 0 r3.1 r3.2) fun r4 =>
  bnd (ldC r4.1 r4.2) fun r5 =>
  bnd (oBuiltin Try.prog .len #[179] 3 #[false] [r5.1] r5.2) fun r6 =>
  bnd (oBin Try.prog .sub 3 false true r6.1 (.int .i64 1) r6.2) fun r7 =>
  bnd (oMv r7.1 r7.2) fun r8 =>
  bnd (oMv x0 r8.2) fun r9 =>
  bnd (oNilCheck r9.1 r9.2) fun r10 =>
  bnd (faO 0 r10.1 r10.2) fun r11 =>
  bnd (ldC r11.1 r11.2) fun r12 =>
  bnd (oMv r8.1 r12.2) fun r13 =>
  bnd (ixS 1 r12.1 r13.1 r13.2) fun r14 =>
  bnd (ldC r14.1 r14.2) fun r15 =>
  bnd (oMv r15.1 r15.2) fun r16 =>
  bnd (oMv x0 r16.2) fun r17 =>
  bnd (oNilCheck r17.1 r17.2) fun r18 =>
  bnd (faO 0 r18.1 r18.2) fun r19 =>
  bnd (ldC r19.1 r19.2) fun r20 =>
  bnd (oMv r8.1 r20.2) fun r21 =>
  bnd (ixS 1 r20.1 r21.1 r21.2) fun r22 =>
  bnd (stV 1 r22.1 (.pointer none) r22.2) fun r23 =>
  bnd (oMv x0 r23.2) fun r24 =>
  bnd (oMv x0 r24.2) fun r25 =>
  bnd (oNilCheck r25.1 r25.2) fun r26 =>
  bnd (faO 0 r26.1 r26.2) fun r27 =>
  bnd (ldC r27.1 r27.2) fun r28 =>
  bnd (oMv r8.1 r28.2) fun r29 =>
  bnd (oSlice Try.prog 179 r28.1 none (some r29.1) none r29.2) fun r30 =>
  bnd (oNilCheck r24.1 r30.2) fun r31 =>
  bnd (faO 0 r31.1 r31.2) fun r32 =>
  bnd (stV 1 r32.1 r30.1 r32.2) fun r33 =>
  bnd (oMv r16.1 r33.2) fun r34 =>
  bnd (oMkIface Try.prog 187 r34.1 r34.2) fun r35 =>
  bnd (oMv r35.1 r35.2) fun r36 =>
  oRes Try.prog [(r36.1, none)] r36.2
theorem heaps_pileapi_HoEntry_Pop_eq (call : Eng.Callee) (x0 : Value) (W : AW) : kFun Try.prog call 35 (cod 203) (rss 203) [x0] W = heaps_pileapi_HoEntry_Pop call x0 W := by kernel_rfl
theorem heaps_pileapi_HoEntry_Pop_om {x0 : Value} {W : AW} {r : Value × AW} (h : heaps_pileapi_HoEntry_Pop omS x0 W = some r) : omS (.func (.func 203) #[] #[]) [x0] W = some (gc W r) := om_of (nt := 35) (n := 1) (by kernel_rfl) (by kernel_rfl) rfl ((heaps_pileapi_HoEntry_Pop_eq omS x0 W).trans h)
noncomputable def heaps_pileapi_HoEntry_Push (call : Eng.Callee) (x0 x1 : Value) (W : AW) : Option (Value × AW) :=
  bnd (oMv x1 W) fun r1 =>
  bnd (oAssert Try.prog r1.1 187 false r1.2) fun r2 =>
  bnd (oMv r2.1 r2.2) fun r3 =>
  bnd (oMv r3.1 r3.2) fun r4 =>
  bnd (oMv x0 r4.2) fun r5 =>
  bnd (oNilCheck r5.1 r5.2) fun r6 =>
  bnd (faO 0 r6.1 r6.2) fun r7 =>
  bnd (ldC r7.1 r7.2) fun r8 =>
  bnd (oBuiltin Try.prog .len #[179] 3 #[false] [r8.1] r8.2) fun r9 =>
  bnd (oNilCheck r4.1 r9.2) fun r10 =>
  bnd (faO 3 r10.1 r10.2) fun r11 =>
  bnd (stV 1 r11.1 r9.1 r11.2) fun r12 =>
  bnd (oMv x0 r12.2) fun r13 =>
  bnd (oMv x0 r13.2) fun r14 =>
  bnd (oNilCheck r14.1 r14.2) fun r15 =>
  bnd (faO 0 r15.1 r15.2) fun r16 =>
  bnd (ldC r16.1 r16.2) fun r17 =>
  bnd (oMv r3.1 r17.2) fun r18 =>
  bnd (oBuildSlice Try.prog 179 1 [(0, r18.1)] r18.2) fun r19 =>
  bnd (aAppend Try.prog r19.2 #[179, 179] r17.1 r19.1) fun r20 =>
  bnd (oNilCheck r13.1 r20.2) fun r21 =>
  bnd (faO 0 r21.1 r21.2) fun r22 =>
  bnd (stV 1 r22.1 r20.1 r22.2) fun r23 =>
  oRes Try.prog [] r23.2
theorem heaps_pileapi_HoEntry_Push_eq (call : Eng.Callee) (x0 x1 : Value) (W : AW) : kFun Try.prog call 25 (cod 204) (rss 204) [x0, x1] W = heaps_pileapi_HoEntry_Push call x0 x1 W := by kernel_rfl
theorem heaps_pileapi_HoEntry_Push_om {x0 x1 : Value} {W : AW} {r : Value × AW} (h : heaps_pileapi_HoEntry_Push omS x0 x1 W = some r) : omS (.func (.func 204) #[] #[]) [x0, x1] W = some (gc W r) := om_of (nt := 25) (n := 2) (by kernel_rfl) (by kernel_rfl) rfl ((heaps_pileapi_HoEntry_Push_eq omS x0 x1 W).trans h)
noncomputable def heaps_pileapi_HoEntry_Swap (call : Eng.Callee) (x0 x1 x2 : Value) (W : AW) : Option (Value × AW) :=
  bnd (oMv x0 W) fun r1 =>
  bnd (oNilCheck r1.1 r1.2) fun r2 =>
  bnd (faO 0 r2.1 r2.2) fun r3 =>
  bnd (ldC r3.1 r3.2) fun r4 =>
  bnd (oMv x1 r4.2) fun r5 =>
  bnd (oMv x0 r5.2) fun r6 =>
  bnd (oNilCheck r6.1 r6.2) fun r7 =>
  bnd (faO 0 r7.1 r7.2) fun r8 =>
  bnd (ldC r8.1 r8.2) fun r9 =>
  bnd (oMv x2 r9.2) fun r10 =>
  bnd (oMv x0 r10.2) fun r11 =>
  bnd (oNilCheck r11.1 r11.2) fun r12 =>
  bnd (faO 0 r12.1 r12.2) fun r13 =>
  bnd (ldC r13.1 r13.2) fun r14 =>
  bnd (oMv x2 r14.2) fun r15 =>
  bnd (ixS 1 r14.1 r15.1 r15.2) fun r16 =>
  bnd (ldC r16.1 r16.2) fun r17 =>
  bnd (oMv x0 r17.2) fun r18 =>
  bnd (oNilCheck r18.1 r18.2) fun r19 =>
  bnd (faO 0 r19.1 r19.2) fun r20 =>
  bnd (ldC r20.1 r20.2) fun r21 =>
  bnd (oMv x1 r21.2) fun r22 =>
  bnd (ixS 1 r21.1 r22.1 r22.2) fun r23 =>
  bnd (ldC r23.1 r23.2) fun r24 =>
  bnd (ixS 1 r4.1 r5.1 r24.2) fun r25 =>
  bnd (stV 1 r25.1 r17.1 r25.2) fun r26 =>
  bnd (ixS 1 r9.1 r10.1 r26.2) fun r27 =>
  bnd (stV 1 r27.1 r24.1 r27.2) fun r28 =>
  bnd (oMv x0 r28.2) fun r29 =>
  bnd (oNilCheck r29.1 r29.2) fun r30 =>
  bnd (faO 0 r30.1 r30.2) fun r31 =>
  bnd (ldC r31.1 r31.2) fun r32 =>
  bnd (oMv x1 r32.2) fun r33 =>
  bnd (ixS 1 r32.1 r33.1 r33.2) fun r34 =>
  bnd (ldC r34.1 r34.2) fun r35 =>
  bnd (oMv x0 r35.2) fun r36 =>
  bnd (oNilCheck r36.1 r36.2) fun r37 =>
  bnd (faO 0 r37.1 r37.2) fun r38 =>
  bnd (ldC r38.1 r38.2) fun r39 =>
  bnd (oMv x2 r39.2) fun r40 =>
  bnd (ixS 1 r39.1 r40.1 r40.2) fun r41 =>
  bnd (ldC r41.1 r41.2) fun r42 =>
  bnd (oMv x1 r42.2) fun r43 =>
  bnd (oMv x2 r43.2) fun r44 =>
  bnd (oNilCheck r35.1 r44.2) fun r45 =>
  bnd (faO 3 r45.1 r45.2) fun r46 =>
  bnd (stV 1 r46.1 r43.1 r46.2) fun r47 =>
  bnd (oNilCheck r42.1 r47.2) fun r48 =>
  bnd (faO 3 r48.1 r48.2) fun r49 =>
  bnd (stV 1 r49.1 r44.1 r49.2) fun r50 =>
  oRes Try.prog [] r50.2
theorem heaps_pileapi_HoEntry_Swap_eq (call : Eng.Callee) (x0 x1 x2 : Value) (W : AW) : kFun Try.prog call 52 (cod 205) (rss 205) [x0, x1, x2] W = heaps_pileapi_HoEntry_Swap call x0 x1 x2 W := by kernel_rfl
theorem heaps_pileapi_HoEntry_Swap_om {x0 x1 x2 : Value} {W : AW} {r : Value × AW} (h : heaps_pileapi_HoEntry_Swap omS x0 x1 x2 W = some r) : omS (.func (.func 205) #[] #[]) [x0, x1, x2] W = some (gc W r) := om_of (nt := 52) (n := 3) (by kernel_rfl) (by kernel_rfl) rfl ((heaps_pileapi_HoEntry_Swap_eq omS x0 x1 x2 W).trans h)
end Go.Proofs.Ytkpgmabebjmahaa
