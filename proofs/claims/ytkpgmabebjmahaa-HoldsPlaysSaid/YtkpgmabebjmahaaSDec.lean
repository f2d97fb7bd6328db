/- Texts of the program told in continuations: written by a program, shown by the kernel. -/
import Derived.Test.YtkpgmabebjmahaaSBase
import Derived.KernelRfl
namespace Go.Proofs.Ytkpgmabebjmahaa
open Go Go.Eng
set_option linter.unusedVariables false
set_option maxRecDepth 100000
noncomputable def containerheap_Pop (call : Eng.Callee) (x0 : Value) (W : AW) : Option (Value × AW) :=
  bnd (oMv .nilIface W) fun r1 =>
  bnd (oMv x0 r1.2) fun r2 =>
  bnd (oInvoke Try.prog call r2.1 "Len" [] r2.2) fun r3 =>
  bnd (oBin Try.prog .sub 3 false true r3.1 (.int .i64 1) r3.2) fun r4 =>
  bnd (oMv r4.1 r4.2) fun r5 =>
  bnd (oMv x0 r5.2) fun r6 =>
  bnd (oMv r5.1 r6.2) fun r7 =>
  bnd (oInvoke Try.prog call r6.1 "Swap" [(.int .i64 0), r7.1] r7.2) fun r8 =>
  bnd (oMv x0 r8.2) fun r9 =>
  bnd (oMv r5.1 r9.2) fun r10 =>
  bnd (call (fnV 94) [r9.1, (.int .i64 0), r10.1] r10.2) fun r11 =>
  bnd (oMv x0 r11.2) fun r12 =>
  bnd (oInvoke Try.prog call r12.1 "Pop" [] r12.2) fun r13 =>
  bnd (oMv r13.1 r13.2) fun r14 =>
  oRes Try.prog [(r14.1, none)] r14.2
theorem containerheap_Pop_eq (call : Eng.Callee) (x0 : Value) (W : AW) : kFun Try.prog call 15 (cod 53) (rss 53) [x0] W = containerheap_Pop call x0 W := by kernel_rfl
theorem containerheap_Pop_om {x0 : Value} {W : AW} {r : Value × AW} (h : containerheap_Pop omS x0 W = some r) : omS (.func (.func 53) #[] #[]) [x0] W = some (gc W r) := om_of (nt := 15) (n := 1) (by kernel_rfl) (by kernel_rfl) rfl ((containerheap_Pop_eq omS x0 W).trans h)
noncomputable def containerheap_Push (call : Eng.Callee) (x0 x1 : Value) (W : AW) : Option (Value × AW) :=
  bnd (oMv x0 W) fun r1 =>
  bnd (oMv x1 r1.2) fun r2 =>
  bnd (oInvoke Try.prog call r1.1 "Push" [r2.1] r2.2) fun r3 =>
  bnd (oMv x0 r3.2) fun r4 =>
  bnd (oMv x0 r4.2) fun r5 =>
  bnd (oInvoke Try.prog call r5.1 "Len" [] r5.2) fun r6 =>
  bnd (oBin Try.prog .sub 3 false true r6.1 (.int .i64 1) r6.2) fun r7 =>
  bnd (call (fnV 104) [r4.1, r7.1] r7.2) fun r8 =>
  oRes Try.prog [] r8.2
theorem containerheap_Push_eq (call : Eng.Callee) (x0 x1 : Value) (W : AW) : kFun Try.prog call 12 (cod 70) (rss 70) [x0, x1] W = containerheap_Push call x0 x1 W := by kernel_rfl
theorem containerheap_Push_om {x0 x1 : Value} {W : AW} {r : Value × AW} (h : containerheap_Push omS x0 x1 W = some r) : omS (.func (.func 70) #[] #[]) [x0, x1] W = some (gc W r) := om_of (nt := 12) (n := 2) (by kernel_rfl) (by kernel_rfl) rfl ((containerheap_Push_eq omS x0 x1 W).trans h)
noncomputable def containerheap_down_L1 (call : Eng.Callee) (R : Nat → Value) (W : AW) : Option LT :=
  bnd (oMv (R 7) W) fun r4 =>
  bnd (oBin Try.prog .mul 3 true false (.int .i64 2) r4.1 r4.2) fun r5 =>
  bnd (oBin Try.prog .add 3 false true r5.1 (.int .i64 1) r5.2) fun r6 =>
  bnd (oMv r6.1 r6.2) fun r7 =>
  bnd (oMv r7.1 r7.2) fun r8 =>
  bnd (oMv (R 2) r8.2) fun r9 =>
  bnd (oBin Try.prog .geq 3 false false r8.1 r9.1 r9.2) fun r10 =>
  bnd (oMv r10.1 r10.2) fun r11 =>
  bnd (bIf (wnt r11.1 false) (oMv r7.1 r11.2) (some (undef, r11.2))) fun r12 =>
  bnd (bIf (wnt r11.1 false) (oBin Try.prog .lss 3 false true r12.1 (.int .i64 0) r12.2) (some (undef, r12.2))) fun r13 =>
  bnd (oPick r11.1 (.bool true) r13.1 r13.2) fun r14 =>
  vIf r14.1 (
    some (X.exit 0, (rput (rput (rput (rput (rput (rput (rput (rput (rput (rput (rput R (some 12) r4.1) (some 13) r5.1) (some 14) r6.1) (some 8) r7.1) (some 15) r8.1) (some 16) r9.1) (some 17) r10.1) (some 18) r11.1) (some 19) r12.1) (some 20) r13.1) (some 21) r14.1), r14.2)) (
    bnd (oMv r7.1 r14.2) fun r15 =>
    bnd (oMv r15.1 r15.2) fun r16 =>
    bnd (oMv r7.1 r16.2) fun r17 =>
    bnd (oBin Try.prog .add 3 false true r17.1 (.int .i64 1) r17.2) fun r18 =>
    bnd (oMv r18.1 r18.2) fun r19 =>
    bnd (oMv r19.1 r19.2) fun r20 =>
    bnd (oMv (R 2) r20.2) fun r21 =>
    bnd (oBin Try.prog .lss 3 false false r20.1 r21.1 r21.2) fun r22 =>
    bnd (oMv r22.1 r22.2) fun r23 =>
    bnd (bIf (wnt r23.1 true) (oMv (R 0) r23.2) (some (undef, r23.2))) fun r24 =>
    bnd (bIf (wnt r23.1 true) (oMv r19.1 r24.2) (some (undef, r24.2))) fun r25 =>
    bnd (bIf (wnt r23.1 true) (oMv r7.1 r25.2) (some (undef, r25.2))) fun r26 =>
    bnd (bIf (wnt r23.1 true) (oInvoke Try.prog call r24.1 "Less" [r25.1, r26.1] r26.2) (some (undef, r26.2))) fun r27 =>
    bnd (oPick r23.1 r27.1 (.bool false) r27.2) fun r28 =>
    vIf r28.1 (
      bnd (oMv r19.1 r28.2) fun r29 =>
      bnd (oMv r29.1 r29.2) fun r30 =>
      bnd (oMv (R 0) r30.2) fun r31 =>
      bnd (oMv r30.1 r31.2) fun r32 =>
      bnd (oMv (R 7) r32.2) fun r33 =>
      bnd (oInvoke Try.prog call r31.1 "Less" [r32.1, r33.1] r33.2) fun r34 =>
      bnd (oUn Try.prog .not r34.1 r34.2) fun r35 =>
      vIf r35.1 (
        some (X.exit 0, (rput (rput (rput (rput (rput (rput (rput (rput (rput (rput (rput (rput (rput (rput (rput (rput (rput (rput (rput (rput (rput (rput (rput (rput (rput (rput (rput (rput (rput (rput (rput (rput R (some 12) r4.1) (some 13) r5.1) (some 14) r6.1) (some 8) r7.1) (some 15) r8.1) (some 16) r9.1) (some 17) r10.1) (some 18) r11.1) (some 19) r12.1) (some 20) r13.1) (some 21) r14.1) (some 22) r15.1) (some 9) r16.1) (some 23) r17.1) (some 24) r18.1) (some 10) r19.1) (some 25) r20.1) (some 26) r21.1) (some 27) r22.1) (some 28) r23.1) (some 29) r24.1) (some 30) r25.1) (some 31) r26.1) (some 32) r27.1) (some 33) r28.1) (some 34) r29.1) (some 9) r30.1) (some 35) r31.1) (some 36) r32.1) (some 37) r33.1) (some 38) r34.1) (some 39) r35.1), r35.2)) (
        bnd (oMv (R 0) r35.2) fun r36 =>
        bnd (oMv (R 7) r36.2) fun r37 =>
        bnd (oMv r30.1 r37.2) fun r38 =>
        bnd (oInvoke Try.prog call r36.1 "Swap" [r37.1, r38.1] r38.2) fun r39 =>
        bnd (oMv r30.1 r39.2) fun r40 =>
        bnd (oMv r40.1 r40.2) fun r41 =>
        some (X.normal, (rput (rput (rput (rput (rput (rput (rput (rput (rput (rput (rput (rput (rput (rput (rput (rput (rput (rput (rput (rput (rput (rput (rput (rput (rput (rput (rput (rput (rput (rput (rput (rput (rput (rput (rput (rput (rput (rput R (some 12) r4.1) (some 13) r5.1) (some 14) r6.1) (some 8) r7.1) (some 15) r8.1) (some 16) r9.1) (some 17) r10.1) (some 18) r11.1) (some 19) r12.1) (some 20) r13.1) (some 21) r14.1) (some 22) r15.1) (some 9) r16.1) (some 23) r17.1) (some 24) r18.1) (some 10) r19.1) (some 25) r20.1) (some 26) r21.1) (some 27) r22.1) (some 28) r23.1) (some 29) r24.1) (some 30) r25.1) (some 31) r26.1) (some 32) r27.1) (some 33) r28.1) (some 34) r29.1) (some 9) r30.1) (some 35) r31.1) (some 36) r32.1) (some 37) r33.1) (some 38) r34.1) (some 39) r35.1) (some 40) r36.1) (some 41) r37.1) (some 42) r38.1) (some 43) r39.1) (some 44) r40.1) (some 7) r41.1), r41.2))) (
      bnd (oMv (R 0) r28.2) fun r42 =>
      bnd (oMv r16.1 r42.2) fun r43 =>
      bnd (oMv (R 7) r43.2) fun r44 =>
      bnd (oInvoke Try.prog call r42.1 "Less" [r43.1, r44.1] r44.2) fun r45 =>
      bnd (oUn Try.prog .not r45.1 r45.2) fun r46 =>
      vIf r46.1 (
        some (X.exit 0, (rput (rput (rput (rput (rput (rput (rput (rput (rput (rput (rput (rput (rput (rput (rput (rput (rput (rput (rput (rput (rput (rput (rput (rput (rput (rput (rput (rput (rput (rput R (some 12) r4.1) (some 13) r5.1) (some 14) r6.1) (some 8) r7.1) (some 15) r8.1) (some 16) r9.1) (some 17) r10.1) (some 18) r11.1) (some 19) r12.1) (some 20) r13.1) (some 21) r14.1) (some 22) r15.1) (some 9) r16.1) (some 23) r17.1) (some 24) r18.1) (some 10) r19.1) (some 25) r20.1) (some 26) r21.1) (some 27) r22.1) (some 28) r23.1) (some 29) r24.1) (some 30) r25.1) (some 31) r26.1) (some 32) r27.1) (some 33) r28.1) (some 35) r42.1) (some 36) r43.1) (some 37) r44.1) (some 38) r45.1) (some 39) r46.1), r46.2)) (
        bnd (oMv (R 0) r46.2) fun r47 =>
        bnd (oMv (R 7) r47.2) fun r48 =>
        bnd (oMv r16.1 r48.2) fun r49 =>
        bnd (oInvoke Try.prog call r47.1 "Swap" [r48.1, r49.1] r49.2) fun r50 =>
        bnd (oMv r16.1 r50.2) fun r51 =>
        bnd (oMv r51.1 r51.2) fun r52 =>
        some (X.normal, (rput (rput (rput (rput (rput (rput (rput (rput (rput (rput (rput (rput (rput (rput (rput (rput (rput (rput (rput (rput (rput (rput (rput (rput (rput (rput (rput (rput (rput (rput (rput (rput (rput (rput (rput (rput R (some 12) r4.1) (some 13) r5.1) (some 14) r6.1) (some 8) r7.1) (some 15) r8.1) (some 16) r9.1) (some 17) r10.1) (some 18) r11.1) (some 19) r12.1) (some 20) r13.1) (some 21) r14.1) (some 22) r15.1) (some 9) r16.1) (some 23) r17.1) (some 24) r18.1) (some 10) r19.1) (some 25) r20.1) (some 26) r21.1) (some 27) r22.1) (some 28) r23.1) (some 29) r24.1) (some 30) r25.1) (some 31) r26.1) (some 32) r27.1) (some 33) r28.1) (some 35) r42.1) (some 36) r43.1) (some 37) r44.1) (some 38) r45.1) (some 39) r46.1) (some 40) r47.1) (some 41) r48.1) (some 42) r49.1) (some 43) r50.1) (some 44) r51.1) (some 7) r52.1), r52.2))))
noncomputable def containerheap_down (call : Eng.Callee) (x0 x1 x2 : Value) (W : AW) : Option (Value × AW) :=
  bnd (oMv (.bool false) W) fun r1 =>
  bnd (oMv x1 r1.2) fun r2 =>
  bnd (oMv r2.1 r2.2) fun r3 =>
  bnd (loopO (containerheap_down_L1 call) (rput (rput (rput (argGo 0 [x0, x1, x2] PlanTab.blank) (some 6) r1.1) (some 11) r2.1) (some 7) r3.1) r3.2) fun r53 =>
  kExit 0 r53.1 (
    bnd (oMv (r53.2.1 7) r53.2.2) fun r54 =>
    bnd (oMv (r53.2.1 1) r54.2) fun r55 =>
    bnd (oBin Try.prog .gtr 3 false false r54.1 r55.1 r55.2) fun r56 =>
    bnd (oMv r56.1 r56.2) fun r57 =>
    oRes Try.prog [(r57.1, none)] r57.2) (none)
theorem containerheap_down_eq (call : Eng.Callee) (x0 x1 x2 : Value) (W : AW) : kFun Try.prog call 48 (cod 94) (rss 94) [x0, x1, x2] W = containerheap_down call x0 x1 x2 W := by kernel_rfl
theorem containerheap_down_om {x0 x1 x2 : Value} {W : AW} {r : Value × AW} (h : containerheap_down omS x0 x1 x2 W = some r) : omS (.func (.func 94) #[] #[]) [x0, x1, x2] W = some (gc W r) := om_of (nt := 48) (n := 3) (by kernel_rfl) (by kernel_rfl) rfl ((containerheap_down_eq omS x0 x1 x2 W).trans h)
noncomputable def containerheap_up_L1 (call : Eng.Callee) (R : Nat → Value) (W : AW) : Option LT :=
  bnd (oMv (R 1) W) fun r1 =>
  bnd (oBin Try.prog .sub 3 false true r1.1 (.int .i64 1) r1.2) fun r2 =>
  bnd (oBin Try.prog .quo 3 false true r2.1 (.int .i64 2) r2.2) fun r3 =>
  bnd (oMv r3.1 r3.2) fun r4 =>
  bnd (oMv r4.1 r4.2) fun r5 =>
  bnd (oMv (R 1) r5.2) fun r6 =>
  bnd (oBin Try.prog .eql 3 false false r5.1 r6.1 r6.2) fun r7 =>
  bnd (oMv r7.1 r7.2) fun r8 =>
  bnd (bIf (wnt r8.1 false) (oMv (R 0) r8.2) (some (undef, r8.2))) fun r9 =>
  bnd (bIf (wnt r8.1 false) (oMv (R 1) r9.2) (some (undef, r9.2))) fun r10 =>
  bnd (bIf (wnt r8.1 false) (oMv r4.1 r10.2) (some (undef, r10.2))) fun r11 =>
  bnd (bIf (wnt r8.1 false) (oInvoke Try.prog call r9.1 "Less" [r10.1, r11.1] r11.2) (some (undef, r11.2))) fun r12 =>
  bnd (bIf (wnt r8.1 false) (oUn Try.prog .not r12.1 r12.2) (some (undef, r12.2))) fun r13 =>
  bnd (oPick r8.1 (.bool true) r13.1 r13.2) fun r14 =>
  vIf r14.1 (
    some (X.exit 0, (rput (rput (rput (rput (rput (rput (rput (rput (rput (rput (rput (rput (rput (rput R (some 5) r1.1) (some 6) r2.1) (some 7) r3.1) (some 4) r4.1) (some 8) r5.1) (some 9) r6.1) (some 10) r7.1) (some 11) r8.1) (some 12) r9.1) (some 13) r10.1) (some 14) r11.1) (some 15) r12.1) (some 16) r13.1) (some 17) r14.1), r14.2)) (
    bnd (oMv (R 0) r14.2) fun r15 =>
    bnd (oMv r4.1 r15.2) fun r16 =>
    bnd (oMv (R 1) r16.2) fun r17 =>
    bnd (oInvoke Try.prog call r15.1 "Swap" [r16.1, r17.1] r17.2) fun r18 =>
    bnd (oMv r4.1 r18.2) fun r19 =>
    bnd (oMv r19.1 r19.2) fun r20 =>
    some (X.normal, (rput (rput (rput (rput (rput (rput (rput (rput (rput (rput (rput (rput (rput (rput (rput (rput (rput (rput (rput (rput R (some 5) r1.1) (some 6) r2.1) (some 7) r3.1) (some 4) r4.1) (some 8) r5.1) (some 9) r6.1) (some 10) r7.1) (some 11) r8.1) (some 12) r9.1) (some 13) r10.1) (some 14) r11.1) (some 15) r12.1) (some 16) r13.1) (some 17) r14.1) (some 18) r15.1) (some 19) r16.1) (some 20) r17.1) (some 21) r18.1) (some 22) r19.1) (some 1) r20.1), r20.2))
noncomputable def containerheap_up (call : Eng.Callee) (x0 x1 : Value) (W : AW) : Option (Value × AW) :=
  bnd (loopO (containerheap_up_L1 call) (argGo 0 [x0, x1] PlanTab.blank) W) fun r21 =>
  kExit 0 r21.1 (
    oRes Try.prog [] r21.2.2) (none)
theorem containerheap_up_eq (call : Eng.Callee) (x0 x1 : Value) (W : AW) : kFun Try.prog call 23 (cod 104) (rss 104) [x0, x1] W = containerheap_up call x0 x1 W := by kernel_rfl
theorem containerheap_up_om {x0 x1 : Value} {W : AW} {r : Value × AW} (h : containerheap_up omS x0 x1 W = some r) : omS (.func (.func 104) #[] #[]) [x0, x1] W = some (gc W r) := om_of (nt := 23) (n := 2) (by kernel_rfl) (by kernel_rfl) rfl ((containerheap_up_eq omS x0 x1 W).trans h)
noncomputable def holds_New (call : Eng.Callee) (x0 : Value) (W : AW) : Option (Value × AW) :=
  bnd (oMv (.pointer none) W) fun r1 =>
  bnd (oMv (.int .i64 0) r1.2) fun r2 =>
  bnd (oMv x0 r2.2) fun r3 =>
  bnd (oBin Try.prog .lss 3 false true r3.1 (.int .i64 1) r3.2) fun r4 =>
  bnd (oMv r4.1 r4.2) fun r5 =>
  bnd (bIf (wnt r5.1 false) (oMv x0 r5.2) (some (undef, r5.2))) fun r6 =>
  bnd (bIf (wnt r5.1 false) (oBin Try.prog .gtr 3 false true r6.1 (.int .i64 4096) r6.2) (some (undef, r6.2))) fun r7 =>
  bnd (oPick r5.1 (.bool true) r7.1 r7.2) fun r8 =>
  vIf r8.1 (
    bnd (oMv (.pointer none) r8.2) fun r9 =>
    bnd (oMv (.int .i64 7) r9.2) fun r10 =>
    oRes Try.prog [(r9.1, none), (r10.1, none)] r10.2) (
    bnd (oMv (fnV 55) r8.2) fun r11 =>
    bnd (oMv x0 r11.2) fun r12 =>
    bnd (oMv r11.1 r12.2) fun r13 =>
    bnd (call (fnV 59) [r13.1] r13.2) fun r14 =>
    bnd (oMkMap Try.prog 116 none r14.2) fun r15 =>
    bnd (oBuild Try.prog 118 [(0, r12.1), (1, r14.1), (2, r15.1)] r15.2) fun r16 =>
    bnd (oBox r16.1 r16.2) fun r17 =>
    bnd (oMv r17.1 r17.2) fun r18 =>
    bnd (oMv (.int .i64 0) r18.2) fun r19 =>
    oRes Try.prog [(r18.1, none), (r19.1, none)] r19.2)
theorem holds_New_eq (call : Eng.Callee) (x0 : Value) (W : AW) : kFun Try.prog call 17 (cod 18) (rss 18) [x0] W = holds_New call x0 W := by kernel_rfl
theorem holds_New_om {x0 : Value} {W : AW} {r : Value × AW} (h : holds_New omS x0 W = some r) : omS (.func (.func 18) #[] #[]) [x0] W = some (gc W r) := om_of (nt := 17) (n := 1) (by kernel_rfl) (by kernel_rfl) rfl ((holds_New_eq omS x0 W).trans h)
noncomputable def holds_Holds_Put (call : Eng.Callee) (x0 x1 x2 : Value) (W : AW) : Option (Value × AW) :=
  bnd (oMv (.int .i64 0) W) fun r1 =>
  bnd (oMv x0 r1.2) fun r2 =>
  bnd (oMv x1 r2.2) fun r3 =>
  bnd (oMv x2 r3.2) fun r4 =>
  bnd (call (fnV 60) [r2.1, r3.1, r4.1] r4.2) fun r5 =>
  bnd (oMv r5.1 r5.2) fun r6 =>
  bnd (oExtract r6.1 0 r6.2) fun r7 =>
  bnd (oExtract r6.1 1 r7.2) fun r8 =>
  bnd (oMv r7.1 r8.2) fun r9 =>
  bnd (oMv r8.1 r9.2) fun r10 =>
  bnd (oMv r10.1 r10.2) fun r11 =>
  bnd (oBin Try.prog .eql 29 false true r11.1 (.int .i64 0) r11.2) fun r12 =>
  bnd (oMv r12.1 r12.2) fun r13 =>
  vIf r13.1 (
    bnd (oMv (.int .i64 8) r13.2) fun r14 =>
    oRes Try.prog [(r14.1, none)] r14.2) (
    bnd (oBin Try.prog .eql 29 false true r11.1 (.int .i64 4) r13.2) fun r15 =>
    bnd (oMv r15.1 r15.2) fun r16 =>
    vIf r16.1 (
      bnd (oMv x0 r16.2) fun r17 =>
      bnd (oNilCheck r17.1 r17.2) fun r18 =>
      bnd (faO 1 r18.1 r18.2) fun r19 =>
      bnd (ldC r19.1 r19.2) fun r20 =>
      bnd (oMv x1 r20.2) fun r21 =>
      bnd (oMv x2 r21.2) fun r22 =>
      bnd (oBuild Try.prog 43 [(0, r21.1), (1, r22.1)] r22.2) fun r23 =>
      bnd (call (fnV 61) [r20.1, r23.1] r23.2) fun r24 =>
      bnd (oMv r24.1 r24.2) fun r25 =>
      bnd (oExtract r25.1 0 r25.2) fun r26 =>
      bnd (oExtract r25.1 1 r26.2) fun r27 =>
      bnd (oMv r26.1 r27.2) fun r28 =>
      bnd (oMv r27.1 r28.2) fun r29 =>
      bnd (oMv r29.1 r29.2) fun r30 =>
      bnd (oBin Try.prog .eql 29 false true r30.1 (.int .i64 0) r30.2) fun r31 =>
      vIf r31.1 (
        bnd (oMv x0 r31.2) fun r32 =>
        bnd (oNilCheck r32.1 r32.2) fun r33 =>
        bnd (faO 2 r33.1 r33.2) fun r34 =>
        bnd (ldC r34.1 r34.2) fun r35 =>
        bnd (oMv x1 r35.2) fun r36 =>
        bnd (oMv r28.1 r36.2) fun r37 =>
        bnd (oMapUpdate Try.prog 116 r35.1 r36.1 r37.1 r37.2) fun r38 =>
        bnd (oMv r29.1 r38.2) fun r39 =>
        bnd (oMv r39.1 r39.2) fun r40 =>
        oRes Try.prog [(r40.1, none)] r40.2) (
        bnd (oMv r29.1 r31.2) fun r41 =>
        bnd (oMv r41.1 r41.2) fun r42 =>
        oRes Try.prog [(r42.1, none)] r42.2)) (
      bnd (oMv r10.1 r16.2) fun r43 =>
      bnd (oMv r43.1 r43.2) fun r44 =>
      oRes Try.prog [(r44.1, none)] r44.2))
theorem holds_Holds_Put_eq (call : Eng.Callee) (x0 x1 x2 : Value) (W : AW) : kFun Try.prog call 44 (cod 19) (rss 19) [x0, x1, x2] W = holds_Holds_Put call x0 x1 x2 W := by kernel_rfl
theorem holds_Holds_Put_om {x0 x1 x2 : Value} {W : AW} {r : Value × AW} (h : holds_Holds_Put omS x0 x1 x2 W = some r) : omS (.func (.func 19) #[] #[]) [x0, x1, x2] W = some (gc W r) := om_of (nt := 44) (n := 3) (by kernel_rfl) (by kernel_rfl) rfl ((holds_Holds_Put_eq omS x0 x1 x2 W).trans h)
noncomputable def holds_Holds_Due_L1 (call : Eng.Callee) (R : Nat → Value) (W : AW) : Option LT :=
  bnd (oMv (R 0) W) fun r21 =>
  bnd (oNilCheck r21.1 r21.2) fun r22 =>
  bnd (faO 1 r22.1 r22.2) fun r23 =>
  bnd (ldC r23.1 r23.2) fun r24 =>
  bnd (call (fnV 62) [r24.1] r24.2) fun r25 =>
  bnd (oMv r25.1 r25.2) fun r26 =>
  bnd (oExtract r26.1 0 r26.2) fun r27 =>
  bnd (oExtract r26.1 1 r27.2) fun r28 =>
  bnd (oExtract r26.1 2 r28.2) fun r29 =>
  bnd (oAlloc Try.prog 43 r29.2) fun r30 =>
  bnd (oMv r27.1 r30.2) fun r31 =>
  bnd (stV 2 r30.1 r28.1 r31.2) fun r32 =>
  bnd (oMv r29.1 r32.2) fun r33 =>
  bnd (oMv r33.1 r33.2) fun r34 =>
  bnd (oBin Try.prog .neq 29 false true r34.1 (.int .i64 0) r34.2) fun r35 =>
  vIf r35.1 (
    bnd (oMv (R 6) r35.2) fun r36 =>
    bnd (oMv r36.1 r36.2) fun r37 =>
    bnd (oMv (.int .i64 0) r37.2) fun r38 =>
    some (X.ret, (rput (rput (rput (rput (rput (rput (rput (rput (rput (rput (rput (rput (rput (rput (rput (rput (rput R (some 26) r21.1) (some 27) r22.1) (some 28) r23.1) (some 29) r24.1) (some 30) r25.1) (some 25) r26.1) (some 31) r27.1) (some 32) r28.1) (some 33) r29.1) (some 8) r30.1) (some 7) r31.1) (some 9) r33.1) (some 34) r34.1) (some 35) r35.1) (some 36) r36.1) (some 4) r37.1) (some 5) r38.1), r38.2)) (
    bnd (faO 1 r30.1 r35.2) fun r39 =>
    bnd (ldC r39.1 r39.2) fun r40 =>
    bnd (oMv (R 1) r40.2) fun r41 =>
    bnd (call (fnV 63) [r40.1, r41.1] r41.2) fun r42 =>
    bnd (oMv r42.1 r42.2) fun r43 =>
    bnd (oExtract r43.1 0 r43.2) fun r44 =>
    bnd (oExtract r43.1 1 r44.2) fun r45 =>
    bnd (oMv r44.1 r45.2) fun r46 =>
    bnd (oMv r45.1 r46.2) fun r47 =>
    bnd (oMv r46.1 r47.2) fun r48 =>
    bnd (oUn Try.prog .not r48.1 r48.2) fun r49 =>
    vIf r49.1 (
      bnd (oMv (R 6) r49.2) fun r50 =>
      bnd (oMv r50.1 r50.2) fun r51 =>
      bnd (oMv (.int .i64 0) r51.2) fun r52 =>
      some (X.ret, (rput (rput (rput (rput (rput (rput (rput (rput (rput (rput (rput (rput (rput (rput (rput (rput (rput (rput (rput (rput (rput (rput (rput (rput (rput (rput (rput (rput R (some 26) r21.1) (some 27) r22.1) (some 28) r23.1) (some 29) r24.1) (some 30) r25.1) (some 25) r26.1) (some 31) r27.1) (some 32) r28.1) (some 33) r29.1) (some 8) r30.1) (some 7) r31.1) (some 9) r33.1) (some 34) r34.1) (some 35) r35.1) (some 38) r39.1) (some 39) r40.1) (some 40) r41.1) (some 41) r42.1) (some 37) r43.1) (some 42) r44.1) (some 43) r45.1) (some 10) r46.1) (some 11) r47.1) (some 44) r48.1) (some 45) r49.1) (some 46) r50.1) (some 4) r51.1) (some 5) r52.1), r52.2)) (
      bnd (oMv (R 0) r49.2) fun r53 =>
      bnd (oNilCheck r53.1 r53.2) fun r54 =>
      bnd (faO 1 r54.1 r54.2) fun r55 =>
      bnd (ldC r55.1 r55.2) fun r56 =>
      bnd (call (fnV 64) [r56.1] r56.2) fun r57 =>
      bnd (oMv r57.1 r57.2) fun r58 =>
      bnd (oExtract r58.1 0 r58.2) fun r59 =>
      bnd (oExtract r58.1 1 r59.2) fun r60 =>
      bnd (oExtract r58.1 2 r60.2) fun r61 =>
      bnd (oMv (R 0) r61.2) fun r62 =>
      bnd (oNilCheck r62.1 r62.2) fun r63 =>
      bnd (faO 2 r63.1 r63.2) fun r64 =>
      bnd (ldC r64.1 r64.2) fun r65 =>
      bnd (faO 0 r30.1 r65.2) fun r66 =>
      bnd (ldC r66.1 r66.2) fun r67 =>
      bnd (oBuiltin Try.prog .delete #[116, 3] 0 #[false, false] [r65.1, r67.1] r67.2) fun r68 =>
      bnd (oMv (R 6) r68.2) fun r69 =>
      bnd (ldA 2 r30.1 r69.2) fun r70 =>
      bnd (oBuildSlice Try.prog 39 1 [(0, r70.1)] r70.2) fun r71 =>
      bnd (aAppend Try.prog r71.2 #[39, 39] r69.1 r71.1) fun r72 =>
      bnd (oMv r72.1 r72.2) fun r73 =>
      some (X.normal, (rput (rput (rput (rput (rput (rput (rput (rput (rput (rput (rput (rput (rput (rput (rput (rput (rput (rput (rput (rput (rput (rput (rput (rput (rput (rput (rput (rput (rput (rput (rput (rput (rput (rput (rput (rput (rput (rput (rput (rput (rput (rput (rput (rput (rput R (some 26) r21.1) (some 27) r22.1) (some 28) r23.1) (some 29) r24.1) (some 30) r25.1) (some 25) r26.1) (some 31) r27.1) (some 32) r28.1) (some 33) r29.1) (some 8) r30.1) (some 7) r31.1) (some 9) r33.1) (some 34) r34.1) (some 35) r35.1) (some 38) r39.1) (some 39) r40.1) (some 40) r41.1) (some 41) r42.1) (some 37) r43.1) (some 42) r44.1) (some 43) r45.1) (some 10) r46.1) (some 11) r47.1) (some 44) r48.1) (some 45) r49.1) (some 48) r53.1) (some 49) r54.1) (some 50) r55.1) (some 51) r56.1) (some 52) r57.1) (some 47) r58.1) (some 53) r59.1) (some 54) r60.1) (some 55) r61.1) (some 56) r62.1) (some 57) r63.1) (some 58) r64.1) (some 59) r65.1) (some 60) r66.1) (some 61) r67.1) (some 62) r69.1) (some 63) r70.1) (some 64) r71.1) (some 65) r72.1) (some 6) r73.1), r73.2)))
noncomputable def holds_Holds_Due (call : Eng.Callee) (x0 x1 : Value) (W : AW) : Option (Value × AW) :=
  bnd (oMv (.slice none 0 0) W) fun r1 =>
  bnd (oMv (.int .i64 0) r1.2) fun r2 =>
  bnd (oMv x0 r2.2) fun r3 =>
  bnd (oBin Try.prog .eql 35 false true r3.1 (.pointer none) r3.2) fun r4 =>
  bnd (oMv r4.1 r4.2) fun r5 =>
  bnd (bIf (wnt r5.1 false) (oMv x0 r5.2) (some (undef, r5.2))) fun r6 =>
  bnd (bIf (wnt r5.1 false) (oNilCheck r6.1 r6.2) (some (undef, r6.2))) fun r7 =>
  bnd (bIf (wnt r5.1 false) (faO 0 r7.1 r7.2) (some (undef, r7.2))) fun r8 =>
  bnd (bIf (wnt r5.1 false) (ldC r8.1 r8.2) (some (undef, r8.2))) fun r9 =>
  bnd (bIf (wnt r5.1 false) (oBin Try.prog .eql 3 false true r9.1 (.int .i64 0) r9.2) (some (undef, r9.2))) fun r10 =>
  bnd (oPick r5.1 (.bool true) r10.1 r10.2) fun r11 =>
  bnd (oMv r11.1 r11.2) fun r12 =>
  vIf r12.1 (
    bnd (oMv (.slice none 0 0) r12.2) fun r13 =>
    bnd (oMv (.int .i64 1) r13.2) fun r14 =>
    oRes Try.prog [(r13.1, none), (r14.1, none)] r14.2) (
    bnd (oMv x1 r12.2) fun r15 =>
    bnd (oBin Try.prog .lss 2 false true r15.1 (.int .i64 0) r15.2) fun r16 =>
    bnd (oMv r16.1 r16.2) fun r17 =>
    vIf r17.1 (
      bnd (oMv (.slice none 0 0) r17.2) fun r18 =>
      bnd (oMv (.int .i64 7) r18.2) fun r19 =>
      oRes Try.prog [(r18.1, none), (r19.1, none)] r19.2) (
      bnd (oMv (.slice none 0 0) r17.2) fun r20 =>
      bnd (loopO (holds_Holds_Due_L1 call) (rput (rput (rput (rput (rput (rput (rput (rput (rput (rput (rput (rput (rput (rput (rput (rput (argGo 0 [x0, x1] PlanTab.blank) (some 4) r1.1) (some 5) r2.1) (some 13) r3.1) (some 14) r4.1) (some 15) r5.1) (some 16) r6.1) (some 17) r7.1) (some 18) r8.1) (some 19) r9.1) (some 20) r10.1) (some 21) r11.1) (some 12) r12.1) (some 23) r15.1) (some 24) r16.1) (some 22) r17.1) (some 6) r20.1) r20.2) fun r74 =>
      kRetX r74.1 (
        oRes Try.prog [((r74.2.1 4), none), ((r74.2.1 5), none)] r74.2.2)))
theorem holds_Holds_Due_eq (call : Eng.Callee) (x0 x1 : Value) (W : AW) : kFun Try.prog call 66 (cod 20) (rss 20) [x0, x1] W = holds_Holds_Due call x0 x1 W := by kernel_rfl
theorem holds_Holds_Due_om {x0 x1 : Value} {W : AW} {r : Value × AW} (h : holds_Holds_Due omS x0 x1 W = some r) : omS (.func (.func 20) #[] #[]) [x0, x1] W = some (gc W r) := om_of (nt := 66) (n := 2) (by kernel_rfl) (by kernel_rfl) rfl ((holds_Holds_Due_eq omS x0 x1 W).trans h)
noncomputable def holds_Holds_Next (call : Eng.Callee) (x0 : Value) (W : AW) : Option (Value × AW) :=
  bnd (oAlloc Try.prog 43 W) fun r1 =>
  bnd (oMv (.int .i64 0) r1.2) fun r2 =>
  bnd (oMv x0 r2.2) fun r3 =>
  bnd (oBin Try.prog .eql 35 false true r3.1 (.pointer none) r3.2) fun r4 =>
  bnd (oMv r4.1 r4.2) fun r5 =>
  bnd (bIf (wnt r5.1 false) (oMv x0 r5.2) (some (undef, r5.2))) fun r6 =>
  bnd (bIf (wnt r5.1 false) (oNilCheck r6.1 r6.2) (some (undef, r6.2))) fun r7 =>
  bnd (bIf (wnt r5.1 false) (faO 0 r7.1 r7.2) (some (undef, r7.2))) fun r8 =>
  bnd (bIf (wnt r5.1 false) (ldC r8.1 r8.2) (some (undef, r8.2))) fun r9 =>
  bnd (bIf (wnt r5.1 false) (oBin Try.prog .eql 3 false true r9.1 (.int .i64 0) r9.2) (some (undef, r9.2))) fun r10 =>
  bnd (oPick r5.1 (.bool true) r10.1 r10.2) fun r11 =>
  vIf r11.1 (
    bnd (oBuild Try.prog 43 [] r11.2) fun r12 =>
    bnd (stV 2 r1.1 r12.1 r12.2) fun r13 =>
    bnd (oMv (.int .i64 1) r13.2) fun r14 =>
    oRes Try.prog [(r1.1, some 43), (r14.1, none)] r14.2) (
    bnd (oMv x0 r11.2) fun r15 =>
    bnd (oNilCheck r15.1 r15.2) fun r16 =>
    bnd (faO 1 r16.1 r16.2) fun r17 =>
    bnd (ldC r17.1 r17.2) fun r18 =>
    bnd (call (fnV 62) [r18.1] r18.2) fun r19 =>
    bnd (oMv r19.1 r19.2) fun r20 =>
    bnd (oExtract r20.1 0 r20.2) fun r21 =>
    bnd (oExtract r20.1 1 r21.2) fun r22 =>
    bnd (oExtract r20.1 2 r22.2) fun r23 =>
    bnd (oAlloc Try.prog 43 r23.2) fun r24 =>
    bnd (oMv r21.1 r24.2) fun r25 =>
    bnd (stV 2 r24.1 r22.1 r25.2) fun r26 =>
    bnd (oMv r23.1 r26.2) fun r27 =>
    bnd (ldA 2 r24.1 r27.2) fun r28 =>
    bnd (oMv r27.1 r28.2) fun r29 =>
    bnd (stV 2 r1.1 r28.1 r29.2) fun r30 =>
    bnd (oMv r29.1 r30.2) fun r31 =>
    oRes Try.prog [(r1.1, some 43), (r31.1, none)] r31.2)
theorem holds_Holds_Next_eq (call : Eng.Callee) (x0 : Value) (W : AW) : kFun Try.prog call 28 (cod 21) (rss 21) [x0] W = holds_Holds_Next call x0 W := by kernel_rfl
theorem holds_Holds_Next_om {x0 : Value} {W : AW} {r : Value × AW} (h : holds_Holds_Next omS x0 W = some r) : omS (.func (.func 21) #[] #[]) [x0] W = some (gc W r) := om_of (nt := 28) (n := 1) (by kernel_rfl) (by kernel_rfl) rfl ((holds_Holds_Next_eq omS x0 W).trans h)
noncomputable def holds_Holds_Len (call : Eng.Callee) (x0 : Value) (W : AW) : Option (Value × AW) :=
  bnd (oMv (.int .i64 0) W) fun r1 =>
  bnd (oMv x0 r1.2) fun r2 =>
  bnd (oBin Try.prog .eql 35 false true r2.1 (.pointer none) r2.2) fun r3 =>
  bnd (oMv r3.1 r3.2) fun r4 =>
  bnd (bIf (wnt r4.1 false) (oMv x0 r4.2) (some (undef, r4.2))) fun r5 =>
  bnd (bIf (wnt r4.1 false) (oNilCheck r5.1 r5.2) (some (undef, r5.2))) fun r6 =>
  bnd (bIf (wnt r4.1 false) (faO 0 r6.1 r6.2) (some (undef, r6.2))) fun r7 =>
  bnd (bIf (wnt r4.1 false) (ldC r7.1 r7.2) (some (undef, r7.2))) fun r8 =>
  bnd (bIf (wnt r4.1 false) (oBin Try.prog .eql 3 false true r8.1 (.int .i64 0) r8.2) (some (undef, r8.2))) fun r9 =>
  bnd (oPick r4.1 (.bool true) r9.1 r9.2) fun r10 =>
  vIf r10.1 (
    bnd (oMv (.int .i64 0) r10.2) fun r11 =>
    oRes Try.prog [(r11.1, none)] r11.2) (
    bnd (oMv x0 r10.2) fun r12 =>
    bnd (oNilCheck r12.1 r12.2) fun r13 =>
    bnd (faO 1 r13.1 r13.2) fun r14 =>
    bnd (ldC r14.1 r14.2) fun r15 =>
    bnd (call (fnV 65) [r15.1] r15.2) fun r16 =>
    bnd (oMv r16.1 r16.2) fun r17 =>
    oRes Try.prog [(r17.1, none)] r17.2)
theorem holds_Holds_Len_eq (call : Eng.Callee) (x0 : Value) (W : AW) : kFun Try.prog call 17 (cod 22) (rss 22) [x0] W = holds_Holds_Len call x0 W := by kernel_rfl
theorem holds_Holds_Len_om {x0 : Value} {W : AW} {r : Value × AW} (h : holds_Holds_Len omS x0 W = some r) : omS (.func (.func 22) #[] #[]) [x0] W = some (gc W r) := om_of (nt := 17) (n := 1) (by kernel_rfl) (by kernel_rfl) rfl ((holds_Holds_Len_eq omS x0 W).trans h)
noncomputable def holds_New_1 (call : Eng.Callee) (x0 x1 : Value) (W : AW) : Option (Value × AW) :=
  bnd (oBox x0 W) fun r1 =>
  bnd (oBox x1 r1.2) fun r2 =>
  bnd (oMv (.bool false) r2.2) fun r3 =>
  bnd (faO 1 r1.1 r3.2) fun r4 =>
  bnd (ldC r4.1 r4.2) fun r5 =>
  bnd (faO 1 r2.1 r5.2) fun r6 =>
  bnd (ldC r6.1 r6.2) fun r7 =>
  bnd (faO 0 r1.1 r7.2) fun r8 =>
  bnd (ldC r8.1 r8.2) fun r9 =>
  bnd (faO 0 r2.1 r9.2) fun r10 =>
  bnd (ldC r10.1 r10.2) fun r11 =>
  bnd (call (fnV 57) [r5.1, r7.1] r11.2) fun r12 =>
  bIf (agV true (ldC r10.1 r12.2) r11.1 && (agV true (ldC r8.1 r12.2) r9.1 && true)) (bnd (call (fnV 58) [r9.1, r11.1] r12.2) fun r13 =>
  bnd (oBuildSlice Try.prog 22 2 [(0, r12.1), (1, r13.1)] r13.2) fun r14 =>
  bnd (call (fnV 56) [r14.1] r14.2) fun r15 =>
  bnd (oBin Try.prog .lss 3 false true r15.1 (.int .i64 0) r15.2) fun r16 =>
  bnd (oMv r16.1 r16.2) fun r17 =>
  oRes Try.prog [(r17.1, none)] r17.2) none
theorem holds_New_1_eq (call : Eng.Callee) (x0 x1 : Value) (W : AW) : kFun Try.prog call 18 (cod 55) (rss 55) [x0, x1] W = holds_New_1 call x0 x1 W := by kernel_rfl
theorem holds_New_1_om {x0 x1 : Value} {W : AW} {r : Value × AW} (h : holds_New_1 omS x0 x1 W = some r) : omS (.func (.func 55) #[] #[]) [x0, x1] W = some (gc W r) := om_of (nt := 18) (n := 2) (by kernel_rfl) (by kernel_rfl) rfl ((holds_New_1_eq omS x0 x1 W).trans h)
theorem holds_New_1_om1 {x0 x1 : Value} {W : AW} {r : Value × AW} (h : holds_New_1 om1 x0 x1 W = some r) : om1 (.func (.func 55) #[] #[]) [x0, x1] W = some (gc W r) := om_of (nt := 18) (n := 2) (by kernel_rfl) (by kernel_rfl) rfl ((holds_New_1_eq om1 x0 x1 W).trans h)
noncomputable def cmp_Orint_L1 (call : Eng.Callee) (R : Nat → Value) (W : AW) : Option LT :=
  bnd (oBin Try.prog .lss 3 false false (R 8) (R 7) W) fun r6 =>
  vIf r6.1 (
    bnd (ixS 1 (R 6) (R 8) r6.2) fun r7 =>
    bnd (ldC r7.1 r7.2) fun r8 =>
    bnd (oMv r8.1 r8.2) fun r9 =>
    bnd (oMv r9.1 r9.2) fun r10 =>
    bnd (oMv (R 3) r10.2) fun r11 =>
    bnd (oBin Try.prog .neq 3 false false r10.1 r11.1 r11.2) fun r12 =>
    vIf r12.1 (
      bnd (oMv r9.1 r12.2) fun r13 =>
      bnd (oMv r13.1 r13.2) fun r14 =>
      some (X.ret, (rput (rput (rput (rput (rput (rput (rput (rput (rput R (some 9) r6.1) (some 10) r7.1) (some 11) r8.1) (some 5) r9.1) (some 12) r10.1) (some 13) r11.1) (some 14) r12.1) (some 15) r13.1) (some 2) r14.1), r14.2)) (
      bnd (oBin Try.prog .add 3 false true (R 8) (.int .i64 1) r12.2) fun r15 =>
      bnd (oMv r15.1 r15.2) fun r16 =>
      some (X.normal, (rput (rput (rput (rput (rput (rput (rput (rput (rput R (some 9) r6.1) (some 10) r7.1) (some 11) r8.1) (some 5) r9.1) (some 12) r10.1) (some 13) r11.1) (some 14) r12.1) (some 16) r15.1) (some 8) r16.1), r16.2))) (
    some (X.exit 0, (rput R (some 9) r6.1), r6.2))
noncomputable def cmp_Orint (call : Eng.Callee) (x0 : Value) (W : AW) : Option (Value × AW) :=
  bnd (oMv (.int .i64 0) W) fun r1 =>
  bnd (oMv (.int .i64 0) r1.2) fun r2 =>
  bnd (oMv x0 r2.2) fun r3 =>
  bnd (oBuiltin Try.prog .len #[22] 3 #[false] [r3.1] r3.2) fun r4 =>
  bnd (oMv (.int .i64 0) r4.2) fun r5 =>
  bnd (loopO (cmp_Orint_L1 call) (rput (rput (rput (rput (rput (argGo 0 [x0] PlanTab.blank) (some 2) r1.1) (some 3) r2.1) (some 6) r3.1) (some 7) r4.1) (some 8) r5.1) r5.2) fun r17 =>
  kExit 0 r17.1 (
    bnd (oMv (r17.2.1 3) r17.2.2) fun r18 =>
    bnd (oMv r18.1 r18.2) fun r19 =>
    oRes Try.prog [(r19.1, none)] r19.2) (kRetX r17.1 (
    oRes Try.prog [((r17.2.1 2), none)] r17.2.2))
theorem cmp_Orint_eq (call : Eng.Callee) (x0 : Value) (W : AW) : kFun Try.prog call 18 (cod 56) (rss 56) [x0] W = cmp_Orint call x0 W := by kernel_rfl
theorem cmp_Orint_om {x0 : Value} {W : AW} {r : Value × AW} (h : cmp_Orint omS x0 W = some r) : omS (.func (.func 56) #[] #[]) [x0] W = some (gc W r) := om_of (nt := 18) (n := 1) (by kernel_rfl) (by kernel_rfl) rfl ((cmp_Orint_eq omS x0 W).trans h)
theorem cmp_Orint_om1 {x0 : Value} {W : AW} {r : Value × AW} (h : cmp_Orint om1 x0 W = some r) : om1 (.func (.func 56) #[] #[]) [x0] W = some (gc W r) := om_of (nt := 18) (n := 1) (by kernel_rfl) (by kernel_rfl) rfl ((cmp_Orint_eq om1 x0 W).trans h)
noncomputable def cmp_Compareint64 (call : Eng.Callee) (x0 x1 : Value) (W : AW) : Option (Value × AW) :=
  bnd (oMv (.int .i64 0) W) fun r1 =>
  bnd (oMv x0 r1.2) fun r2 =>
  bnd (call (fnV 95) [r2.1] r2.2) fun r3 =>
  bnd (oMv r3.1 r3.2) fun r4 =>
  bnd (oMv x1 r4.2) fun r5 =>
  bnd (call (fnV 95) [r5.1] r5.2) fun r6 =>
  bnd (oMv r6.1 r6.2) fun r7 =>
  bnd (oMv r4.1 r7.2) fun r8 =>
  vIf r8.1 (
    bnd (oMv r7.1 r8.2) fun r9 =>
    vIf r9.1 (
      bnd (oMv (.int .i64 0) r9.2) fun r10 =>
      oRes Try.prog [(r10.1, none)] r10.2) (
      bnd (oMv (.int .i64 (-1)) r9.2) fun r11 =>
      oRes Try.prog [(r11.1, none)] r11.2)) (
    bnd (oMv r7.1 r8.2) fun r12 =>
    vIf r12.1 (
      bnd (oMv (.int .i64 1) r12.2) fun r13 =>
      oRes Try.prog [(r13.1, none)] r13.2) (
      bnd (oMv x0 r12.2) fun r14 =>
      bnd (oMv x1 r14.2) fun r15 =>
      bnd (oBin Try.prog .lss 2 false false r14.1 r15.1 r15.2) fun r16 =>
      vIf r16.1 (
        bnd (oMv (.int .i64 (-1)) r16.2) fun r17 =>
        oRes Try.prog [(r17.1, none)] r17.2) (
        bnd (oMv x0 r16.2) fun r18 =>
        bnd (oMv x1 r18.2) fun r19 =>
        bnd (oBin Try.prog .gtr 2 false false r18.1 r19.1 r19.2) fun r20 =>
        vIf r20.1 (
          bnd (oMv (.int .i64 1) r20.2) fun r21 =>
          oRes Try.prog [(r21.1, none)] r21.2) (
          bnd (oMv (.int .i64 0) r20.2) fun r22 =>
          oRes Try.prog [(r22.1, none)] r22.2))))
theorem cmp_Compareint64_eq (call : Eng.Callee) (x0 x1 : Value) (W : AW) : kFun Try.prog call 20 (cod 57) (rss 57) [x0, x1] W = cmp_Compareint64 call x0 x1 W := by kernel_rfl
theorem cmp_Compareint64_om {x0 x1 : Value} {W : AW} {r : Value × AW} (h : cmp_Compareint64 omS x0 x1 W = some r) : omS (.func (.func 57) #[] #[]) [x0, x1] W = some (gc W r) := om_of (nt := 20) (n := 2) (by kernel_rfl) (by kernel_rfl) rfl ((cmp_Compareint64_eq omS x0 x1 W).trans h)
theorem cmp_Compareint64_om1 {x0 x1 : Value} {W : AW} {r : Value × AW} (h : cmp_Compareint64 om1 x0 x1 W = some r) : om1 (.func (.func 57) #[] #[]) [x0, x1] W = some (gc W r) := om_of (nt := 20) (n := 2) (by kernel_rfl) (by kernel_rfl) rfl ((cmp_Compareint64_eq om1 x0 x1 W).trans h)
noncomputable def cmp_Compareint (call : Eng.Callee) (x0 x1 : Value) (W : AW) : Option (Value × AW) :=
  bnd (oMv (.int .i64 0) W) fun r1 =>
  bnd (oMv x0 r1.2) fun r2 =>
  bnd (call (fnV 96) [r2.1] r2.2) fun r3 =>
  bnd (oMv r3.1 r3.2) fun r4 =>
  bnd (oMv x1 r4.2) fun r5 =>
  bnd (call (fnV 96) [r5.1] r5.2) fun r6 =>
  bnd (oMv r6.1 r6.2) fun r7 =>
  bnd (oMv r4.1 r7.2) fun r8 =>
  vIf r8.1 (
    bnd (oMv r7.1 r8.2) fun r9 =>
    vIf r9.1 (
      bnd (oMv (.int .i64 0) r9.2) fun r10 =>
      oRes Try.prog [(r10.1, none)] r10.2) (
      bnd (oMv (.int .i64 (-1)) r9.2) fun r11 =>
      oRes Try.prog [(r11.1, none)] r11.2)) (
    bnd (oMv r7.1 r8.2) fun r12 =>
    vIf r12.1 (
      bnd (oMv (.int .i64 1) r12.2) fun r13 =>
      oRes Try.prog [(r13.1, none)] r13.2) (
      bnd (oMv x0 r12.2) fun r14 =>
      bnd (oMv x1 r14.2) fun r15 =>
      bnd (oBin Try.prog .lss 3 false false r14.1 r15.1 r15.2) fun r16 =>
      vIf r16.1 (
        bnd (oMv (.int .i64 (-1)) r16.2) fun r17 =>
        oRes Try.prog [(r17.1, none)] r17.2) (
        bnd (oMv x0 r16.2) fun r18 =>
        bnd (oMv x1 r18.2) fun r19 =>
        bnd (oBin Try.prog .gtr 3 false false r18.1 r19.1 r19.2) fun r20 =>
        vIf r20.1 (
          bnd (oMv (.int .i64 1) r20.2) fun r21 =>
          oRes Try.prog [(r21.1, none)] r21.2) (
          bnd (oMv (.int .i64 0) r20.2) fun r22 =>
          oRes Try.prog [(r22.1, none)] r22.2))))
theorem cmp_Compareint_eq (call : Eng.Callee) (x0 x1 : Value) (W : AW) : kFun Try.prog call 20 (cod 58) (rss 58) [x0, x1] W = cmp_Compareint call x0 x1 W := by kernel_rfl
theorem cmp_Compareint_om {x0 x1 : Value} {W : AW} {r : Value × AW} (h : cmp_Compareint omS x0 x1 W = some r) : omS (.func (.func 58) #[] #[]) [x0, x1] W = some (gc W r) := om_of (nt := 20) (n := 2) (by kernel_rfl) (by kernel_rfl) rfl ((cmp_Compareint_eq omS x0 x1 W).trans h)
theorem cmp_Compareint_om1 {x0 x1 : Value} {W : AW} {r : Value × AW} (h : cmp_Compareint om1 x0 x1 W = some r) : om1 (.func (.func 58) #[] #[]) [x0, x1] W = some (gc W r) := om_of (nt := 20) (n := 2) (by kernel_rfl) (by kernel_rfl) rfl ((cmp_Compareint_eq om1 x0 x1 W).trans h)
noncomputable def heaps_Newapi_HoEntry (call : Eng.Callee) (x0 : Value) (W : AW) : Option (Value × AW) :=
  bnd (oMv (.pointer none) W) fun r1 =>
  bnd (oMv x0 r1.2) fun r2 =>
  bnd (oBin Try.prog .eql 113 false true r2.1 .nilFunc r2.2) fun r3 =>
  vIf r3.1 (
    bnd (oMv (.pointer none) r3.2) fun r4 =>
    oRes Try.prog [(r4.1, none)] r4.2) (
    bnd (oMv x0 r3.2) fun r5 =>
    bnd (oBuild Try.prog 181 [(1, r5.1)] r5.2) fun r6 =>
    bnd (oMkMap Try.prog 182 none r6.2) fun r7 =>
    bnd (oBuild Try.prog 184 [(0, r6.1), (1, r7.1), (2, (.int .i64 1))] r7.2) fun r8 =>
    bnd (oBox r8.1 r8.2) fun r9 =>
    bnd (oMv r9.1 r9.2) fun r10 =>
    oRes Try.prog [(r10.1, none)] r10.2)
theorem heaps_Newapi_HoEntry_eq (call : Eng.Callee) (x0 : Value) (W : AW) : kFun Try.prog call 10 (cod 59) (rss 59) [x0] W = heaps_Newapi_HoEntry call x0 W := by kernel_rfl
theorem heaps_Newapi_HoEntry_om {x0 : Value} {W : AW} {r : Value × AW} (h : heaps_Newapi_HoEntry omS x0 W = some r) : omS (.func (.func 59) #[] #[]) [x0] W = some (gc W r) := om_of (nt := 10) (n := 1) (by kernel_rfl) (by kernel_rfl) rfl ((heaps_Newapi_HoEntry_eq omS x0 W).trans h)
noncomputable def holds_Holds_find (call : Eng.Callee) (x0 x1 x2 : Value) (W : AW) : Option (Value × AW) :=
  bnd (oMv (.int .i64 0) W) fun r1 =>
  bnd (oMv (.int .i64 0) r1.2) fun r2 =>
  bnd (oMv x0 r2.2) fun r3 =>
  bnd (oBin Try.prog .eql 35 false true r3.1 (.pointer none) r3.2) fun r4 =>
  bnd (oMv r4.1 r4.2) fun r5 =>
  bnd (bIf (wnt r5.1 false) (oMv x0 r5.2) (some (undef, r5.2))) fun r6 =>
  bnd (bIf (wnt r5.1 false) (oNilCheck r6.1 r6.2) (some (undef, r6.2))) fun r7 =>
  bnd (bIf (wnt r5.1 false) (faO 0 r7.1 r7.2) (some (undef, r7.2))) fun r8 =>
  bnd (bIf (wnt r5.1 false) (ldC r8.1 r8.2) (some (undef, r8.2))) fun r9 =>
  bnd (bIf (wnt r5.1 false) (oBin Try.prog .eql 3 false true r9.1 (.int .i64 0) r9.2) (some (undef, r9.2))) fun r10 =>
  bnd (oPick r5.1 (.bool true) r10.1 r10.2) fun r11 =>
  bnd (oMv r11.1 r11.2) fun r12 =>
  vIf r12.1 (
    bnd (oMv (.int .i64 0) r12.2) fun r13 =>
    bnd (oMv (.int .i64 1) r13.2) fun r14 =>
    oRes Try.prog [(r13.1, none), (r14.1, none)] r14.2) (
    bnd (oMv x0 r12.2) fun r15 =>
    bnd (oMv x1 r15.2) fun r16 =>
    bnd (oMv x2 r16.2) fun r17 =>
    bnd (call (fnV 97) [r15.1, r16.1, r17.1] r17.2) fun r18 =>
    bnd (oMv r18.1 r18.2) fun r19 =>
    vIf r19.1 (
      bnd (oMv (.int .i64 0) r19.2) fun r20 =>
      bnd (oMv (.int .i64 7) r20.2) fun r21 =>
      oRes Try.prog [(r20.1, none), (r21.1, none)] r21.2) (
      bnd (oMv x0 r19.2) fun r22 =>
      bnd (oNilCheck r22.1 r22.2) fun r23 =>
      bnd (faO 2 r23.1 r23.2) fun r24 =>
      bnd (ldC r24.1 r24.2) fun r25 =>
      bnd (oMv x1 r25.2) fun r26 =>
      bnd (oLookup Try.prog 116 r25.1 r26.1 true r26.2) fun r27 =>
      bnd (oMv r27.1 r27.2) fun r28 =>
      bnd (oExtract r28.1 0 r28.2) fun r29 =>
      bnd (oExtract r28.1 1 r29.2) fun r30 =>
      bnd (oMv r29.1 r30.2) fun r31 =>
      bnd (oMv r30.1 r31.2) fun r32 =>
      bnd (oMv r32.1 r32.2) fun r33 =>
      bnd (oUn Try.prog .not r33.1 r33.2) fun r34 =>
      vIf r34.1 (
        bnd (oMv (.int .i64 0) r34.2) fun r35 =>
        bnd (oMv (.int .i64 4) r35.2) fun r36 =>
        oRes Try.prog [(r35.1, none), (r36.1, none)] r36.2) (
        bnd (oMv r31.1 r34.2) fun r37 =>
        bnd (oMv r37.1 r37.2) fun r38 =>
        bnd (oMv (.int .i64 0) r38.2) fun r39 =>
        oRes Try.prog [(r38.1, none), (r39.1, none)] r39.2)))
theorem holds_Holds_find_eq (call : Eng.Callee) (x0 x1 x2 : Value) (W : AW) : kFun Try.prog call 37 (cod 60) (rss 60) [x0, x1, x2] W = holds_Holds_find call x0 x1 x2 W := by kernel_rfl
theorem holds_Holds_find_om {x0 x1 x2 : Value} {W : AW} {r : Value × AW} (h : holds_Holds_find omS x0 x1 x2 W = some r) : omS (.func (.func 60) #[] #[]) [x0, x1, x2] W = some (gc W r) := om_of (nt := 37) (n := 3) (by kernel_rfl) (by kernel_rfl) rfl ((holds_Holds_find_eq omS x0 x1 x2 W).trans h)
noncomputable def heaps_Queueapi_HoEntry_Push (call : Eng.Callee) (x0 x1 : Value) (W : AW) : Option (Value × AW) :=
  bnd (oBox x1 W) fun r1 =>
  bnd (oMv (.int .i64 0) r1.2) fun r2 =>
  bnd (oMv (.int .i64 0) r2.2) fun r3 =>
  bnd (oMv x0 r3.2) fun r4 =>
  bnd (call (fnV 98) [r4.1] r4.2) fun r5 =>
  bnd (oUn Try.prog .not r5.1 r5.2) fun r6 =>
  bnd (oMv r6.1 r6.2) fun r7 =>
  vIf r7.1 (
    bnd (oMv (.int .i64 0) r7.2) fun r8 =>
    bnd (oMv (.int .i64 1) r8.2) fun r9 =>
    oRes Try.prog [(r8.1, none), (r9.1, none)] r9.2) (
    bnd (oMv x0 r7.2) fun r10 =>
    bnd (oNilCheck r10.1 r10.2) fun r11 =>
    bnd (faO 0 r11.1 r11.2) fun r12 =>
    bnd (faO 0 r12.1 r12.2) fun r13 =>
    bnd (ldC r13.1 r13.2) fun r14 =>
    bnd (oBuiltin Try.prog .len #[179] 3 #[false] [r14.1] r14.2) fun r15 =>
    bnd (oBin Try.prog .geq 3 false true r15.1 (.int .i64 5000) r15.2) fun r16 =>
    bnd (oMv r16.1 r16.2) fun r17 =>
    bnd (bIf (wnt r17.1 false) (oMv x0 r17.2) (some (undef, r17.2))) fun r18 =>
    bnd (bIf (wnt r17.1 false) (oNilCheck r18.1 r18.2) (some (undef, r18.2))) fun r19 =>
    bnd (bIf (wnt r17.1 false) (faO 3 r19.1 r19.2) (some (undef, r19.2))) fun r20 =>
    bnd (bIf (wnt r17.1 false) (ldC r20.1 r20.2) (some (undef, r20.2))) fun r21 =>
    bnd (bIf (wnt r17.1 false) (oBin Try.prog .geq 2 false true r21.1 (.int .i64 1000000000000000) r21.2) (some (undef, r21.2))) fun r22 =>
    bnd (oPick r17.1 (.bool true) r22.1 r22.2) fun r23 =>
    bnd (oMv r23.1 r23.2) fun r24 =>
    vIf r24.1 (
      bnd (oMv (.int .i64 0) r24.2) fun r25 =>
      bnd (oMv (.int .i64 5) r25.2) fun r26 =>
      oRes Try.prog [(r25.1, none), (r26.1, none)] r26.2) (
      bnd (oMv x0 r24.2) fun r27 =>
      bnd (oNilCheck r27.1 r27.2) fun r28 =>
      bnd (faO 3 r28.1 r28.2) fun r29 =>
      bnd (ldC r29.1 r29.2) fun r30 =>
      bnd (ldA 2 r1.1 r30.2) fun r31 =>
      bnd (oBuild Try.prog 189 [(0, r30.1), (1, r31.1)] r31.2) fun r32 =>
      bnd (oBox r32.1 r32.2) fun r33 =>
      bnd (oMv r33.1 r33.2) fun r34 =>
      bnd (oMv x0 r34.2) fun r35 =>
      bnd (oNilCheck r35.1 r35.2) fun r36 =>
      bnd (faO 3 r36.1 r36.2) fun r37 =>
      bnd (ldC r37.1 r37.2) fun r38 =>
      bnd (oBin Try.prog .add 2 false true r38.1 (.int .i64 1) r38.2) fun r39 =>
      bnd (oNilCheck r35.1 r39.2) fun r40 =>
      bnd (faO 3 r40.1 r40.2) fun r41 =>
      bnd (stV 1 r41.1 r39.1 r41.2) fun r42 =>
      bnd (oMv x0 r42.2) fun r43 =>
      bnd (oNilCheck r43.1 r43.2) fun r44 =>
      bnd (faO 2 r44.1 r44.2) fun r45 =>
      bnd (ldC r45.1 r45.2) fun r46 =>
      bnd (oMv r34.1 r46.2) fun r47 =>
      bnd (oNilCheck r47.1 r47.2) fun r48 =>
      bnd (faO 0 r48.1 r48.2) fun r49 =>
      bnd (ldC r49.1 r49.2) fun r50 =>
      bnd (oMv r34.1 r50.2) fun r51 =>
      bnd (oMapUpdate Try.prog 182 r46.1 r50.1 r51.1 r51.2) fun r52 =>
      bnd (oMv x0 r52.2) fun r53 =>
      bnd (oNilCheck r53.1 r53.2) fun r54 =>
      bnd (faO 0 r54.1 r54.2) fun r55 =>
      bnd (oMkIface Try.prog 190 r55.1 r55.2) fun r56 =>
      bnd (oMv r34.1 r56.2) fun r57 =>
      bnd (oMkIface Try.prog 187 r57.1 r57.2) fun r58 =>
      bnd (call (fnV 70) [r56.1, r58.1] r58.2) fun r59 =>
      bnd (oMv r34.1 r59.2) fun r60 =>
      bnd (oNilCheck r60.1 r60.2) fun r61 =>
      bnd (faO 0 r61.1 r61.2) fun r62 =>
      bnd (ldC r62.1 r62.2) fun r63 =>
      bnd (oMv r63.1 r63.2) fun r64 =>
      bnd (oMv (.int .i64 0) r64.2) fun r65 =>
      oRes Try.prog [(r64.1, none), (r65.1, none)] r65.2))
theorem heaps_Queueapi_HoEntry_Push_eq (call : Eng.Callee) (x0 x1 : Value) (W : AW) : kFun Try.prog call 60 (cod 61) (rss 61) [x0, x1] W = heaps_Queueapi_HoEntry_Push call x0 x1 W := by kernel_rfl
theorem heaps_Queueapi_HoEntry_Push_om {x0 x1 : Value} {W : AW} {r : Value × AW} (h : heaps_Queueapi_HoEntry_Push omS x0 x1 W = some r) : omS (.func (.func 61) #[] #[]) [x0, x1] W = some (gc W r) := om_of (nt := 60) (n := 2) (by kernel_rfl) (by kernel_rfl) rfl ((heaps_Queueapi_HoEntry_Push_eq omS x0 x1 W).trans h)
noncomputable def heaps_Queueapi_HoEntry_Peek (call : Eng.Callee) (x0 : Value) (W : AW) : Option (Value × AW) :=
  bnd (oMv (.int .i64 0) W) fun r1 =>
  bnd (oAlloc Try.prog 43 r1.2) fun r2 =>
  bnd (oMv (.int .i64 0) r2.2) fun r3 =>
  bnd (oMv x0 r3.2) fun r4 =>
  bnd (call (fnV 98) [r4.1] r4.2) fun r5 =>
  bnd (oUn Try.prog .not r5.1 r5.2) fun r6 =>
  bnd (oMv r6.1 r6.2) fun r7 =>
  vIf r7.1 (
    bnd (ldA 2 r2.1 r7.2) fun r8 =>
    bnd (oMv (.int .i64 0) r8.2) fun r9 =>
    bnd (stV 2 r2.1 r8.1 r9.2) fun r10 =>
    bnd (oMv (.int .i64 1) r10.2) fun r11 =>
    oRes Try.prog [(r9.1, none), (r2.1, some 43), (r11.1, none)] r11.2) (
    bnd (oMv x0 r7.2) fun r12 =>
    bnd (oNilCheck r12.1 r12.2) fun r13 =>
    bnd (faO 0 r13.1 r13.2) fun r14 =>
    bnd (faO 0 r14.1 r14.2) fun r15 =>
    bnd (ldC r15.1 r15.2) fun r16 =>
    bnd (oBuiltin Try.prog .len #[179] 3 #[false] [r16.1] r16.2) fun r17 =>
    bnd (oBin Try.prog .eql 3 false true r17.1 (.int .i64 0) r17.2) fun r18 =>
    bnd (oMv r18.1 r18.2) fun r19 =>
    vIf r19.1 (
      bnd (ldA 2 r2.1 r19.2) fun r20 =>
      bnd (oMv (.int .i64 0) r20.2) fun r21 =>
      bnd (stV 2 r2.1 r20.1 r21.2) fun r22 =>
      bnd (oMv (.int .i64 4) r22.2) fun r23 =>
      oRes Try.prog [(r21.1, none), (r2.1, some 43), (r23.1, none)] r23.2) (
      bnd (oMv x0 r19.2) fun r24 =>
      bnd (oNilCheck r24.1 r24.2) fun r25 =>
      bnd (faO 0 r25.1 r25.2) fun r26 =>
      bnd (faO 0 r26.1 r26.2) fun r27 =>
      bnd (ldC r27.1 r27.2) fun r28 =>
      bnd (ixS 1 r28.1 (.int .i64 0) r28.2) fun r29 =>
      bnd (ldC r29.1 r29.2) fun r30 =>
      bnd (oMv r30.1 r30.2) fun r31 =>
      bnd (oMv r31.1 r31.2) fun r32 =>
      bnd (oNilCheck r32.1 r32.2) fun r33 =>
      bnd (faO 0 r33.1 r33.2) fun r34 =>
      bnd (ldC r34.1 r34.2) fun r35 =>
      bnd (oMv r31.1 r35.2) fun r36 =>
      bnd (oNilCheck r36.1 r36.2) fun r37 =>
      bnd (faO 1 r37.1 r37.2) fun r38 =>
      bnd (ldA 2 r38.1 r38.2) fun r39 =>
      bnd (oMv r35.1 r39.2) fun r40 =>
      bnd (stV 2 r2.1 r39.1 r40.2) fun r41 =>
      bnd (oMv (.int .i64 0) r41.2) fun r42 =>
      oRes Try.prog [(r40.1, none), (r2.1, some 43), (r42.1, none)] r42.2))
theorem heaps_Queueapi_HoEntry_Peek_eq (call : Eng.Callee) (x0 : Value) (W : AW) : kFun Try.prog call 35 (cod 62) (rss 62) [x0] W = heaps_Queueapi_HoEntry_Peek call x0 W := by kernel_rfl
theorem heaps_Queueapi_HoEntry_Peek_om {x0 : Value} {W : AW} {r : Value × AW} (h : heaps_Queueapi_HoEntry_Peek omS x0 W = some r) : omS (.func (.func 62) #[] #[]) [x0] W = some (gc W r) := om_of (nt := 35) (n := 1) (by kernel_rfl) (by kernel_rfl) rfl ((heaps_Queueapi_HoEntry_Peek_eq omS x0 W).trans h)
noncomputable def times_Passed (call : Eng.Callee) (x0 x1 : Value) (W : AW) : Option (Value × AW) :=
  bnd (oMv (.bool false) W) fun r1 =>
  bnd (oMv (.int .i64 0) r1.2) fun r2 =>
  bnd (oMv x0 r2.2) fun r3 =>
  bnd (oMv x1 r3.2) fun r4 =>
  bnd (oBuildSlice Try.prog 34 2 [(0, r3.1), (1, r4.1)] r4.2) fun r5 =>
  bnd (call (fnV 99) [r5.1] r5.2) fun r6 =>
  vIf r6.1 (
    bnd (oMv (.bool false) r6.2) fun r7 =>
    bnd (oMv (.int .i64 7) r7.2) fun r8 =>
    oRes Try.prog [(r7.1, none), (r8.1, none)] r8.2) (
    bnd (oMv x0 r6.2) fun r9 =>
    bnd (oMv x1 r9.2) fun r10 =>
    bnd (oBin Try.prog .leq 2 false false r9.1 r10.1 r10.2) fun r11 =>
    bnd (oMv r11.1 r11.2) fun r12 =>
    bnd (oMv (.int .i64 0) r12.2) fun r13 =>
    oRes Try.prog [(r12.1, none), (r13.1, none)] r13.2)
theorem times_Passed_eq (call : Eng.Callee) (x0 x1 : Value) (W : AW) : kFun Try.prog call 13 (cod 63) (rss 63) [x0, x1] W = times_Passed call x0 x1 W := by kernel_rfl
theorem times_Passed_om {x0 x1 : Value} {W : AW} {r : Value × AW} (h : times_Passed omS x0 x1 W = some r) : omS (.func (.func 63) #[] #[]) [x0, x1] W = some (gc W r) := om_of (nt := 13) (n := 2) (by kernel_rfl) (by kernel_rfl) rfl ((times_Passed_eq omS x0 x1 W).trans h)
noncomputable def heaps_Queueapi_HoEntry_Pop (call : Eng.Callee) (x0 : Value) (W : AW) : Option (Value × AW) :=
  bnd (oMv (.int .i64 0) W) fun r1 =>
  bnd (oAlloc Try.prog 43 r1.2) fun r2 =>
  bnd (oMv (.int .i64 0) r2.2) fun r3 =>
  bnd (oMv x0 r3.2) fun r4 =>
  bnd (call (fnV 62) [r4.1] r4.2) fun r5 =>
  bnd (oMv r5.1 r5.2) fun r6 =>
  bnd (oExtract r6.1 0 r6.2) fun r7 =>
  bnd (oExtract r6.1 1 r7.2) fun r8 =>
  bnd (oExtract r6.1 2 r8.2) fun r9 =>
  bnd (oMv r7.1 r9.2) fun r10 =>
  bnd (stV 2 r2.1 r8.1 r10.2) fun r11 =>
  bnd (oMv r9.1 r11.2) fun r12 =>
  bnd (oMv r12.1 r12.2) fun r13 =>
  bnd (oBin Try.prog .neq 29 false true r13.1 (.int .i64 0) r13.2) fun r14 =>
  vIf r14.1 (
    bnd (ldA 2 r2.1 r14.2) fun r15 =>
    bnd (oMv r12.1 r15.2) fun r16 =>
    bnd (oMv (.int .i64 0) r16.2) fun r17 =>
    bnd (stV 2 r2.1 r15.1 r17.2) fun r18 =>
    bnd (oMv r16.1 r18.2) fun r19 =>
    oRes Try.prog [(r17.1, none), (r2.1, some 43), (r19.1, none)] r19.2) (
    bnd (oMv x0 r14.2) fun r20 =>
    bnd (oNilCheck r20.1 r20.2) fun r21 =>
    bnd (faO 0 r21.1 r21.2) fun r22 =>
    bnd (oMkIface Try.prog 190 r22.1 r22.2) fun r23 =>
    bnd (call (fnV 53) [r23.1] r23.2) fun r24 =>
    bnd (oMv x0 r24.2) fun r25 =>
    bnd (oNilCheck r25.1 r25.2) fun r26 =>
    bnd (faO 2 r26.1 r26.2) fun r27 =>
    bnd (ldC r27.1 r27.2) fun r28 =>
    bnd (oMv r10.1 r28.2) fun r29 =>
    bnd (oBuiltin Try.prog .delete #[182, 2] 0 #[false, false] [r28.1, r29.1] r29.2) fun r30 =>
    bnd (oMv r10.1 r30.2) fun r31 =>
    bnd (ldA 2 r2.1 r31.2) fun r32 =>
    bnd (oMv r31.1 r32.2) fun r33 =>
    bIf (agV true (ldA 2 r2.1 r33.2) r32.1 && true) (bnd (stV 2 r2.1 r32.1 r33.2) fun r34 =>
    bnd (oMv (.int .i64 0) r34.2) fun r35 =>
    oRes Try.prog [(r33.1, none), (r2.1, some 43), (r35.1, none)] r35.2) none)
theorem heaps_Queueapi_HoEntry_Pop_eq (call : Eng.Callee) (x0 : Value) (W : AW) : kFun Try.prog call 27 (cod 64) (rss 64) [x0] W = heaps_Queueapi_HoEntry_Pop call x0 W := by kernel_rfl
theorem heaps_Queueapi_HoEntry_Pop_om {x0 : Value} {W : AW} {r : Value × AW} (h : heaps_Queueapi_HoEntry_Pop omS x0 W = some r) : omS (.func (.func 64) #[] #[]) [x0] W = some (gc W r) := om_of (nt := 27) (n := 1) (by kernel_rfl) (by kernel_rfl) rfl ((heaps_Queueapi_HoEntry_Pop_eq omS x0 W).trans h)
noncomputable def heaps_Queueapi_HoEntry_Len (call : Eng.Callee) (x0 : Value) (W : AW) : Option (Value × AW) :=
  bnd (oMv (.int .i64 0) W) fun r1 =>
  bnd (oMv x0 r1.2) fun r2 =>
  bnd (call (fnV 98) [r2.1] r2.2) fun r3 =>
  bnd (oUn Try.prog .not r3.1 r3.2) fun r4 =>
  vIf r4.1 (
    bnd (oMv (.int .i64 0) r4.2) fun r5 =>
    oRes Try.prog [(r5.1, none)] r5.2) (
    bnd (oMv x0 r4.2) fun r6 =>
    bnd (oNilCheck r6.1 r6.2) fun r7 =>
    bnd (faO 0 r7.1 r7.2) fun r8 =>
    bnd (faO 0 r8.1 r8.2) fun r9 =>
    bnd (ldC r9.1 r9.2) fun r10 =>
    bnd (oBuiltin Try.prog .len #[179] 3 #[false] [r10.1] r10.2) fun r11 =>
    bnd (oMv r11.1 r11.2) fun r12 =>
    oRes Try.prog [(r12.1, none)] r12.2)
theorem heaps_Queueapi_HoEntry_Len_eq (call : Eng.Callee) (x0 : Value) (W : AW) : kFun Try.prog call 12 (cod 65) (rss 65) [x0] W = heaps_Queueapi_HoEntry_Len call x0 W := by kernel_rfl
theorem heaps_Queueapi_HoEntry_Len_om {x0 : Value} {W : AW} {r : Value × AW} (h : heaps_Queueapi_HoEntry_Len omS x0 W = some r) : omS (.func (.func 65) #[] #[]) [x0] W = some (gc W r) := om_of (nt := 12) (n := 1) (by kernel_rfl) (by kernel_rfl) rfl ((heaps_Queueapi_HoEntry_Len_eq omS x0 W).trans h)
noncomputable def cmp_isNaNint64 (call : Eng.Callee) (x0 : Value) (W : AW) : Option (Value × AW) :=
  bnd (oMv (.bool false) W) fun r1 =>
  bnd (oMv x0 r1.2) fun r2 =>
  bnd (oMv x0 r2.2) fun r3 =>
  bnd (oBin Try.prog .neq 2 false false r2.1 r3.1 r3.2) fun r4 =>
  bnd (oMv r4.1 r4.2) fun r5 =>
  oRes Try.prog [(r5.1, none)] r5.2
theorem cmp_isNaNint64_eq (call : Eng.Callee) (x0 : Value) (W : AW) : kFun Try.prog call 6 (cod 95) (rss 95) [x0] W = cmp_isNaNint64 call x0 W := by kernel_rfl
theorem cmp_isNaNint64_om {x0 : Value} {W : AW} {r : Value × AW} (h : cmp_isNaNint64 omS x0 W = some r) : omS (.func (.func 95) #[] #[]) [x0] W = some (gc W r) := om_of (nt := 6) (n := 1) (by kernel_rfl) (by kernel_rfl) rfl ((cmp_isNaNint64_eq omS x0 W).trans h)
theorem cmp_isNaNint64_om1 {x0 : Value} {W : AW} {r : Value × AW} (h : cmp_isNaNint64 om1 x0 W = some r) : om1 (.func (.func 95) #[] #[]) [x0] W = some (gc W r) := om_of (nt := 6) (n := 1) (by kernel_rfl) (by kernel_rfl) rfl ((cmp_isNaNint64_eq om1 x0 W).trans h)
noncomputable def cmp_isNaNint (call : Eng.Callee) (x0 : Value) (W : AW) : Option (Value × AW) :=
  bnd (oMv (.bool false) W) fun r1 =>
  bnd (oMv x0 r1.2) fun r2 =>
  bnd (oMv x0 r2.2) fun r3 =>
  bnd (oBin Try.prog .neq 3 false false r2.1 r3.1 r3.2) fun r4 =>
  bnd (oMv r4.1 r4.2) fun r5 =>
  oRes Try.prog [(r5.1, none)] r5.2
theorem cmp_isNaNint_eq (call : Eng.Callee) (x0 : Value) (W : AW) : kFun Try.prog call 6 (cod 96) (rss 96) [x0] W = cmp_isNaNint call x0 W := by kernel_rfl
theorem cmp_isNaNint_om {x0 : Value} {W : AW} {r : Value × AW} (h : cmp_isNaNint omS x0 W = some r) : omS (.func (.func 96) #[] #[]) [x0] W = some (gc W r) := om_of (nt := 6) (n := 1) (by kernel_rfl) (by kernel_rfl) rfl ((cmp_isNaNint_eq omS x0 W).trans h)
theorem cmp_isNaNint_om1 {x0 : Value} {W : AW} {r : Value × AW} (h : cmp_isNaNint om1 x0 W = some r) : om1 (.func (.func 96) #[] #[]) [x0] W = some (gc W r) := om_of (nt := 6) (n := 1) (by kernel_rfl) (by kernel_rfl) rfl ((cmp_isNaNint_eq om1 x0 W).trans h)
noncomputable def holds_Holds_bad (call : Eng.Callee) (x0 x1 x2 : Value) (W : AW) : Option (Value × AW) :=
  bnd (oMv (.bool false) W) fun r1 =>
  bnd (oMv x1 r1.2) fun r2 =>
  bnd (oBin Try.prog .lss 3 false true r2.1 (.int .i64 0) r2.2) fun r3 =>
  bnd (oMv r3.1 r3.2) fun r4 =>
  bnd (bIf (wnt r4.1 false) (oMv x1 r4.2) (some (undef, r4.2))) fun r5 =>
  bnd (bIf (wnt r4.1 false) (oMv x0 r5.2) (some (undef, r5.2))) fun r6 =>
  bnd (bIf (wnt r4.1 false) (oNilCheck r6.1 r6.2) (some (undef, r6.2))) fun r7 =>
  bnd (bIf (wnt r4.1 false) (faO 0 r7.1 r7.2) (some (undef, r7.2))) fun r8 =>
  bnd (bIf (wnt r4.1 false) (ldC r8.1 r8.2) (some (undef, r8.2))) fun r9 =>
  bnd (bIf (wnt r4.1 false) (oBin Try.prog .geq 3 false false r5.1 r9.1 r9.2) (some (undef, r9.2))) fun r10 =>
  bnd (oPick r4.1 (.bool true) r10.1 r10.2) fun r11 =>
  bnd (oMv r11.1 r11.2) fun r12 =>
  bnd (bIf (wnt r12.1 false) (oMv x2 r12.2) (some (undef, r12.2))) fun r13 =>
  bnd (bIf (wnt r12.1 false) (oBin Try.prog .lss 2 false true r13.1 (.int .i64 0) r13.2) (some (undef, r13.2))) fun r14 =>
  bnd (oPick r12.1 (.bool true) r14.1 r14.2) fun r15 =>
  bnd (oMv r15.1 r15.2) fun r16 =>
  oRes Try.prog [(r16.1, none)] r16.2
theorem holds_Holds_bad_eq (call : Eng.Callee) (x0 x1 x2 : Value) (W : AW) : kFun Try.prog call 21 (cod 97) (rss 97) [x0, x1, x2] W = holds_Holds_bad call x0 x1 x2 W := by kernel_rfl
theorem holds_Holds_bad_om {x0 x1 x2 : Value} {W : AW} {r : Value × AW} (h : holds_Holds_bad omS x0 x1 x2 W = some r) : omS (.func (.func 97) #[] #[]) [x0, x1, x2] W = some (gc W r) := om_of (nt := 21) (n := 3) (by kernel_rfl) (by kernel_rfl) rfl ((holds_Holds_bad_eq omS x0 x1 x2 W).trans h)
noncomputable def heaps_Queueapi_HoEntry_made (call : Eng.Callee) (x0 : Value) (W : AW) : Option (Value × AW) :=
  bnd (oMv (.bool false) W) fun r1 =>
  bnd (oMv x0 r1.2) fun r2 =>
  bnd (oBin Try.prog .neq 114 false true r2.1 (.pointer none) r2.2) fun r3 =>
  bnd (oMv r3.1 r3.2) fun r4 =>
  bnd (bIf (wnt r4.1 true) (oMv x0 r4.2) (some (undef, r4.2))) fun r5 =>
  bnd (bIf (wnt r4.1 true) (oNilCheck r5.1 r5.2) (some (undef, r5.2))) fun r6 =>
  bnd (bIf (wnt r4.1 true) (faO 2 r6.1 r6.2) (some (undef, r6.2))) fun r7 =>
  bnd (bIf (wnt r4.1 true) (ldC r7.1 r7.2) (some (undef, r7.2))) fun r8 =>
  bnd (bIf (wnt r4.1 true) (oBin Try.prog .neq 182 false true r8.1 (.map none) r8.2) (some (undef, r8.2))) fun r9 =>
  bnd (oPick r4.1 r9.1 (.bool false) r9.2) fun r10 =>
  bnd (oMv r10.1 r10.2) fun r11 =>
  oRes Try.prog [(r11.1, none)] r11.2
theorem heaps_Queueapi_HoEntry_made_eq (call : Eng.Callee) (x0 : Value) (W : AW) : kFun Try.prog call 12 (cod 98) (rss 98) [x0] W = heaps_Queueapi_HoEntry_made call x0 W := by kernel_rfl
theorem heaps_Queueapi_HoEntry_made_om {x0 : Value} {W : AW} {r : Value × AW} (h : heaps_Queueapi_HoEntry_made omS x0 W = some r) : omS (.func (.func 98) #[] #[]) [x0] W = some (gc W r) := om_of (nt := 12) (n := 1) (by kernel_rfl) (by kernel_rfl) rfl ((heaps_Queueapi_HoEntry_made_eq omS x0 W).trans h)
noncomputable def times_none (call : Eng.Callee) (x0 : Value) (W : AW) : Option (Value × AW) :=
  bnd (oMv (.bool false) W) fun r1 =>
  bnd (oMv x0 r1.2) fun r2 =>
  bnd (call (fnV 119) [r2.1] r2.2) fun r3 =>
  bnd (oBin Try.prog .lss 2 false true r3.1 (.int .i64 0) r3.2) fun r4 =>
  bnd (oMv r4.1 r4.2) fun r5 =>
  oRes Try.prog [(r5.1, none)] r5.2
theorem times_none_eq (call : Eng.Callee) (x0 : Value) (W : AW) : kFun Try.prog call 6 (cod 99) (rss 99) [x0] W = times_none call x0 W := by kernel_rfl
theorem times_none_om {x0 : Value} {W : AW} {r : Value × AW} (h : times_none omS x0 W = some r) : omS (.func (.func 99) #[] #[]) [x0] W = some (gc W r) := om_of (nt := 6) (n := 1) (by kernel_rfl) (by kernel_rfl) rfl ((times_none_eq omS x0 W).trans h)
noncomputable def slices_Minint64int64_L1 (call : Eng.Callee) (R : Nat → Value) (W : AW) : Option LT :=
  bnd (oMv (R 4) W) fun r12 =>
  bnd (oMv (R 0) r12.2) fun r13 =>
  bnd (oBuiltin Try.prog .len #[34] 3 #[false] [r13.1] r13.2) fun r14 =>
  bnd (oBin Try.prog .lss 3 false false r12.1 r14.1 r14.2) fun r15 =>
  vIf r15.1 (
    bnd (oMv (R 3) r15.2) fun r16 =>
    bnd (oMv (R 0) r16.2) fun r17 =>
    bnd (oMv (R 4) r17.2) fun r18 =>
    bnd (ixS 1 r17.1 r18.1 r18.2) fun r19 =>
    bnd (ldC r19.1 r19.2) fun r20 =>
    bnd (oBuiltin Try.prog .min #[2, 2] 2 #[false, false] [r16.1, r20.1] r20.2) fun r21 =>
    bnd (oMv r21.1 r21.2) fun r22 =>
    bnd (oMv (R 4) r22.2) fun r23 =>
    bnd (oBin Try.prog .add 3 false true r23.1 (.int .i64 1) r23.2) fun r24 =>
    bnd (oMv r24.1 r24.2) fun r25 =>
    some (X.normal, (rput (rput (rput (rput (rput (rput (rput (rput (rput (rput (rput (rput (rput (rput R (some 12) r12.1) (some 13) r13.1) (some 14) r14.1) (some 15) r15.1) (some 18) r16.1) (some 19) r17.1) (some 20) r18.1) (some 21) r19.1) (some 22) r20.1) (some 23) r21.1) (some 3) r22.1) (some 16) r23.1) (some 17) r24.1) (some 4) r25.1), r25.2)) (
    some (X.exit 0, (rput (rput (rput (rput R (some 12) r12.1) (some 13) r13.1) (some 14) r14.1) (some 15) r15.1), r15.2))
noncomputable def slices_Minint64int64_L2 (call : Eng.Callee) (R : Nat → Value) (W : AW) : Option LT :=
  bnd (oMv (R 4) W) fun r34 =>
  bnd (oMv (R 0) r34.2) fun r35 =>
  bnd (oBuiltin Try.prog .len #[34] 3 #[false] [r35.1] r35.2) fun r36 =>
  bnd (oBin Try.prog .lss 3 false false r34.1 r36.1 r36.2) fun r37 =>
  vIf r37.1 (
    bnd (oMv (R 3) r37.2) fun r38 =>
    bnd (oMv (R 0) r38.2) fun r39 =>
    bnd (oMv (R 4) r39.2) fun r40 =>
    bnd (ixS 1 r39.1 r40.1 r40.2) fun r41 =>
    bnd (ldC r41.1 r41.2) fun r42 =>
    bnd (oBuiltin Try.prog .min #[2, 2] 2 #[false, false] [r38.1, r42.1] r42.2) fun r43 =>
    bnd (oMv r43.1 r43.2) fun r44 =>
    bnd (oMv (R 4) r44.2) fun r45 =>
    bnd (oBin Try.prog .add 3 false true r45.1 (.int .i64 1) r45.2) fun r46 =>
    bnd (oMv r46.1 r46.2) fun r47 =>
    some (X.normal, (rput (rput (rput (rput (rput (rput (rput (rput (rput (rput (rput (rput (rput (rput R (some 12) r34.1) (some 13) r35.1) (some 14) r36.1) (some 15) r37.1) (some 18) r38.1) (some 19) r39.1) (some 20) r40.1) (some 21) r41.1) (some 22) r42.1) (some 23) r43.1) (some 3) r44.1) (some 16) r45.1) (some 17) r46.1) (some 4) r47.1), r47.2)) (
    some (X.exit 0, (rput (rput (rput (rput R (some 12) r34.1) (some 13) r35.1) (some 14) r36.1) (some 15) r37.1), r37.2))
noncomputable def slices_Minint64int64 (call : Eng.Callee) (x0 : Value) (W : AW) : Option (Value × AW) :=
  bnd (oMv (.int .i64 0) W) fun r1 =>
  bnd (oMv x0 r1.2) fun r2 =>
  bnd (oBuiltin Try.prog .len #[34] 3 #[false] [r2.1] r2.2) fun r3 =>
  bnd (oBin Try.prog .lss 3 false true r3.1 (.int .i64 1) r3.2) fun r4 =>
  vIf r4.1 (
    bnd (oMkIface Try.prog 9 (strV [115, 108, 105, 99, 101, 115, 46, 77, 105, 110, 58, 32, 101, 109, 112, 116, 121, 32, 108, 105, 115, 116]) r4.2) fun r5 =>
    bnd ((none : Option (Value × AW))) fun r6 =>
    bnd (oMv x0 r6.2) fun r7 =>
    bnd (ixS 1 r7.1 (.int .i64 0) r7.2) fun r8 =>
    bnd (ldC r8.1 r8.2) fun r9 =>
    bnd (oMv r9.1 r9.2) fun r10 =>
    bnd (oMv (.int .i64 1) r10.2) fun r11 =>
    bnd (loopO (slices_Minint64int64_L1 call) (rput (rput (rput (rput (rput (rput (rput (rput (rput (rput (argGo 0 [x0] PlanTab.blank) (some 2) r1.1) (some 5) r2.1) (some 6) r3.1) (some 7) r4.1) (some 8) r5.1) (some 9) r7.1) (some 10) r8.1) (some 11) r9.1) (some 3) r10.1) (some 4) r11.1) r11.2) fun r26 =>
    kExit 0 r26.1 (
      bnd (oMv (r26.2.1 3) r26.2.2) fun r27 =>
      bnd (oMv r27.1 r27.2) fun r28 =>
      oRes Try.prog [(r28.1, none)] r28.2) (none)) (
    bnd (oMv x0 r4.2) fun r29 =>
    bnd (ixS 1 r29.1 (.int .i64 0) r29.2) fun r30 =>
    bnd (ldC r30.1 r30.2) fun r31 =>
    bnd (oMv r31.1 r31.2) fun r32 =>
    bnd (oMv (.int .i64 1) r32.2) fun r33 =>
    bnd (loopO (slices_Minint64int64_L2 call) (rput (rput (rput (rput (rput (rput (rput (rput (rput (argGo 0 [x0] PlanTab.blank) (some 2) r1.1) (some 5) r2.1) (some 6) r3.1) (some 7) r4.1) (some 9) r29.1) (some 10) r30.1) (some 11) r31.1) (some 3) r32.1) (some 4) r33.1) r33.2) fun r48 =>
    kExit 0 r48.1 (
      bnd (oMv (r48.2.1 3) r48.2.2) fun r49 =>
      bnd (oMv r49.1 r49.2) fun r50 =>
      oRes Try.prog [(r50.1, none)] r50.2) (none))
theorem slices_Minint64int64_eq (call : Eng.Callee) (x0 : Value) (W : AW) : kFun Try.prog call 25 (cod 119) (rss 119) [x0] W = slices_Minint64int64 call x0 W := by kernel_rfl
theorem slices_Minint64int64_om {x0 : Value} {W : AW} {r : Value × AW} (h : slices_Minint64int64 omS x0 W = some r) : omS (.func (.func 119) #[] #[]) [x0] W = some (gc W r) := om_of (nt := 25) (n := 1) (by kernel_rfl) (by kernel_rfl) rfl ((slices_Minint64int64_eq omS x0 W).trans h)
noncomputable def heaps_pileapi_HoEntry_before (call : Eng.Callee) (x0 x1 x2 : Value) (W : AW) : Option (Value × AW) :=
  bnd (oMv (.bool false) W) fun r1 =>
  bnd (oMv x0 r1.2) fun r2 =>
  bnd (oNilCheck r2.1 r2.2) fun r3 =>
  bnd (faO 1 r3.1 r3.2) fun r4 =>
  bnd (ldC r4.1 r4.2) fun r5 =>
  bnd (oMv x1 r5.2) fun r6 =>
  bnd (oNilCheck r6.1 r6.2) fun r7 =>
  bnd (faO 1 r7.1 r7.2) fun r8 =>
  bnd (ldA 2 r8.1 r8.2) fun r9 =>
  bnd (oMv x2 r9.2) fun r10 =>
  bnd (oNilCheck r10.1 r10.2) fun r11 =>
  bnd (faO 1 r11.1 r11.2) fun r12 =>
  bnd (ldA 2 r12.1 r12.2) fun r13 =>
  bnd (call r5.1 [r9.1, r13.1] r13.2) fun r14 =>
  bnd (oMv r14.1 r14.2) fun r15 =>
  vIf r15.1 (
    bnd (oMv (.bool true) r15.2) fun r16 =>
    oRes Try.prog [(r16.1, none)] r16.2) (
    bnd (oMv x0 r15.2) fun r17 =>
    bnd (oNilCheck r17.1 r17.2) fun r18 =>
    bnd (faO 1 r18.1 r18.2) fun r19 =>
    bnd (ldC r19.1 r19.2) fun r20 =>
    bnd (oMv x2 r20.2) fun r21 =>
    bnd (oNilCheck r21.1 r21.2) fun r22 =>
    bnd (faO 1 r22.1 r22.2) fun r23 =>
    bnd (ldA 2 r23.1 r23.2) fun r24 =>
    bnd (oMv x1 r24.2) fun r25 =>
    bnd (oNilCheck r25.1 r25.2) fun r26 =>
    bnd (faO 1 r26.1 r26.2) fun r27 =>
    bnd (ldA 2 r27.1 r27.2) fun r28 =>
    bnd (call r20.1 [r24.1, r28.1] r28.2) fun r29 =>
    bnd (oMv r29.1 r29.2) fun r30 =>
    vIf r30.1 (
      bnd (oMv (.bool false) r30.2) fun r31 =>
      oRes Try.prog [(r31.1, none)] r31.2) (
      bnd (oMv x1 r30.2) fun r32 =>
      bnd (oNilCheck r32.1 r32.2) fun r33 =>
      bnd (faO 0 r33.1 r33.2) fun r34 =>
      bnd (ldC r34.1 r34.2) fun r35 =>
      bnd (oMv x2 r35.2) fun r36 =>
      bnd (oNilCheck r36.1 r36.2) fun r37 =>
      bnd (faO 0 r37.1 r37.2) fun r38 =>
      bnd (ldC r38.1 r38.2) fun r39 =>
      bnd (oBin Try.prog .lss 2 false false r35.1 r39.1 r39.2) fun r40 =>
      bnd (oMv r40.1 r40.2) fun r41 =>
      oRes Try.prog [(r41.1, none)] r41.2))
theorem heaps_pileapi_HoEntry_before_eq (call : Eng.Callee) (x0 x1 x2 : Value) (W : AW) : kFun Try.prog call 44 (cod 124) (rss 124) [x0, x1, x2] W = heaps_pileapi_HoEntry_before call x0 x1 x2 W := by kernel_rfl
theorem heaps_pileapi_HoEntry_before_om {x0 x1 x2 : Value} {W : AW} {r : Value × AW} (h : heaps_pileapi_HoEntry_before omS x0 x1 x2 W = some r) : omS (.func (.func 124) #[] #[]) [x0, x1, x2] W = some (gc W r) := om_of (nt := 44) (n := 3) (by kernel_rfl) (by kernel_rfl) rfl ((heaps_pileapi_HoEntry_before_eq omS x0 x1 x2 W).trans h)
theorem heaps_pileapi_HoEntry_before_om1 {x0 x1 x2 : Value} {W : AW} {r : Value × AW} (h : heaps_pileapi_HoEntry_before om1 x0 x1 x2 W = some r) : om1 (.func (.func 124) #[] #[]) [x0, x1, x2] W = some (gc W r) := om_of (nt := 44) (n := 3) (by kernel_rfl) (by kernel_rfl) rfl ((heaps_pileapi_HoEntry_before_eq om1 x0 x1 x2 W).trans h)
noncomputable def heaps_pileapi_HoEntry_Len (call : Eng.Callee) (x0 : Value) (W : AW) : Option (Value × AW) :=
  bnd (oMv (.int .i64 0) W) fun r1 =>
  bnd (oMv x0 r1.2) fun r2 =>
  bnd (oNilCheck r2.1 r2.2) fun r3 =>
  bnd (faO 0 r3.1 r3.2) fun r4 =>
  bnd (ldC r4.1 r4.2) fun r5 =>
  bnd (oBuiltin Try.prog .len #[179] 3 #[false] [r5.1] r5.2) fun r6 =>
  bnd (oMv r6.1 r6.2) fun r7 =>
  oRes Try.prog [(r7.1, none)] r7.2
theorem heaps_pileapi_HoEntry_Len_eq (call : Eng.Callee) (x0 : Value) (W : AW) : kFun Try.prog call 8 (cod 201) (rss 201) [x0] W = heaps_pileapi_HoEntry_Len call x0 W := by kernel_rfl
theorem heaps_pileapi_HoEntry_Len_om {x0 : Value} {W : AW} {r : Value × AW} (h : heaps_pileapi_HoEntry_Len omS x0 W = some r) : omS (.func (.func 201) #[] #[]) [x0] W = some (gc W r) := om_of (nt := 8) (n := 1) (by kernel_rfl) (by kernel_rfl) rfl ((heaps_pileapi_HoEntry_Len_eq omS x0 W).trans h)
noncomputable def heaps_pileapi_HoEntry_Less (call : Eng.Callee) (x0 x1 x2 : Value) (W : AW) : Option (Value × AW) :=
  bnd (oMv (.bool false) W) fun r1 =>
  bnd (oMv x0 r1.2) fun r2 =>
  bnd (oMv x0 r2.2) fun r3 =>
  bnd (oNilCheck r3.1 r3.2) fun r4 =>
  bnd (faO 0 r4.1 r4.2) fun r5 =>
  bnd (ldC r5.1 r5.2) fun r6 =>
  bnd (oMv x1 r6.2) fun r7 =>
  bnd (ixS 1 r6.1 r7.1 r7.2) fun r8 =>
  bnd (ldC r8.1 r8.2) fun r9 =>
  bnd (oMv x0 r9.2) fun r10 =>
  bnd (oNilCheck r10.1 r10.2) fun r11 =>
  bnd (faO 0 r11.1 r11.2) fun r12 =>
  bnd (ldC r12.1 r12.2) fun r13 =>
  bnd (oMv x2 r13.2) fun r14 =>
  bnd (ixS 1 r13.1 r14.1 r14.2) fun r15 =>
  bnd (ldC r15.1 r15.2) fun r16 =>
  bnd (call (fnV 124) [r2.1, r9.1, r16.1] r16.2) fun r17 =>
  bnd (oMv r17.1 r17.2) fun r18 =>
  oRes Try.prog [(r18.1, none)] r18.2
theorem heaps_pileapi_HoEntry_Less_eq (call : Eng.Callee) (x0 x1 x2 : Value) (W : AW) : kFun Try.prog call 23 (cod 202) (rss 202) [x0, x1, x2] W = heaps_pileapi_HoEntry_Less call x0 x1 x2 W := by kernel_rfl
theorem heaps_pileapi_HoEntry_Less_om {x0 x1 x2 : Value} {W : AW} {r : Value × AW} (h : heaps_pileapi_HoEntry_Less omS x0 x1 x2 W = some r) : omS (.func (.func 202) #[] #[]) [x0, x1, x2] W = some (gc W r) := om_of (nt := 23) (n := 3) (by kernel_rfl) (by kernel_rfl) rfl ((heaps_pileapi_HoEntry_Less_eq omS x0 x1 x2 W).trans h)
noncomputable def heaps_pileapi_HoEntry_Pop (call : Eng.Callee) (x0 : Value) (W : AW) : Option (Value × AW) :=
  bnd (oMv .nilIface W) fun r1 =>
  bnd (oMv x0 r1.2) fun r2 =>
  bnd (oNilCheck r2.1 r2.2) fun r3 =>
  bnd (faO 0 r3.1 r3.2) fun r4 =>
  bnd (ldC r4.1 r4.2) fun r5 =>
  bnd (oBuiltin Try.prog .len #[179] 3 #[false] [r5.1] r5.2) fun r6 =>
  bnd (oBin Try.prog .sub 3 false true r6.1 (.int .i64 1) r6.2) fun r7 =>
  bnd (oMv r7.1 r7.2) fun r8 =>
  bnd (oMv x0 r8.2) fun r9 =>
  bnd (oNilCheck r9.1 r9.2) fun r10 =>
  bnd (faO 0 r10.1 r10.2) fun r11 =>
  bnd (ldC r11.1 r11.2) fun r12 =>
  bnd (oMv r8.1 r12.2) fun r13 =>
  bnd (ixS 1 r12.1 r13.1 r13.2) fun r14 =>
  bnd (ldC r14.1 r14.2) fun r15 =>
  bnd (oMv r15.1 r15.2) fun r16 =>
  bnd (oMv x0 r16.2) fun r17 =>
  bnd (oNilCheck r17.1 r17.2) fun r18 =>
  bnd (faO 0 r18.1 r18.2) fun r19 =>
  bnd (ldC r19.1 r19.2) fun r20 =>
  bnd (oMv r8.1 r20.2) fun r21 =>
  bnd (ixS 1 r20.1 r21.1 r21.2) fun r22 =>
  bnd (stV 1 r22.1 (.pointer none) r22.2) fun r23 =>
  bnd (oMv x0 r23.2) fun r24 =>
  bnd (oMv x0 r24.2) fun r25 =>
  bnd (oNilCheck r25.1 r25.2) fun r26 =>
  bnd (faO 0 r26.1 r26.2) fun r27 =>
  bnd (ldC r27.1 r27.2) fun r28 =>
  bnd (oMv r8.1 r28.2) fun r29 =>
  bnd (oSlice Try.prog 179 r28.1 none (some r29.1) none r29.2) fun r30 =>
  bnd (oNilCheck r24.1 r30.2) fun r31 =>
  bnd (faO 0 r31.1 r31.2) fun r32 =>
  bnd (stV 1 r32.1 r30.1 r32.2) fun r33 =>
  bnd (oMv r16.1 r33.2) fun r34 =>
  bnd (oMkIface Try.prog 187 r34.1 r34.2) fun r35 =>
  bnd (oMv r35.1 r35.2) fun r36 =>
  oRes Try.prog [(r36.1, none)] r36.2
theorem heaps_pileapi_HoEntry_Pop_eq (call : Eng.Callee) (x0 : Value) (W : AW) : kFun Try.prog call 35 (cod 203) (rss 203) [x0] W = heaps_pileapi_HoEntry_Pop call x0 W := by kernel_rfl
theorem heaps_pileapi_HoEntry_Pop_om {x0 : Value} {W : AW} {r : Value × AW} (h : heaps_pileapi_HoEntry_Pop omS x0 W = some r) : omS (.func (.func 203) #[] #[]) [x0] W = some (gc W r) := om_of (nt := 35) (n := 1) (by kernel_rfl) (by kernel_rfl) rfl ((heaps_pileapi_HoEntry_Pop_eq omS x0 W).trans h)
noncomputable def heaps_pileapi_HoEntry_Push (call : Eng.Callee) (x0 x1 : Value) (W : AW) : Option (Value × AW) :=
  bnd (oMv x1 W) fun r1 =>
  bnd (oAssert Try.prog r1.1 187 false r1.2) fun r2 =>
  bnd (oMv r2.1 r2.2) fun r3 =>
  bnd (oMv r3.1 r3.2) fun r4 =>
  bnd (oMv x0 r4.2) fun r5 =>
  bnd (oNilCheck r5.1 r5.2) fun r6 =>
  bnd (faO 0 r6.1 r6.2) fun r7 =>
  bnd (ldC r7.1 r7.2) fun r8 =>
  bnd (oBuiltin Try.prog .len #[179] 3 #[false] [r8.1] r8.2) fun r9 =>
  bnd (oNilCheck r4.1 r9.2) fun r10 =>
  bnd (faO 3 r10.1 r10.2) fun r11 =>
  bnd (stV 1 r11.1 r9.1 r11.2) fun r12 =>
  bnd (oMv x0 r12.2) fun r13 =>
  bnd (oMv x0 r13.2) fun r14 =>
  bnd (oNilCheck r14.1 r14.2) fun r15 =>
  bnd (faO 0 r15.1 r15.2) fun r16 =>
  bnd (ldC r16.1 r16.2) fun r17 =>
  bnd (oMv r3.1 r17.2) fun r18 =>
  bnd (oBuildSlice Try.prog 179 1 [(0, r18.1)] r18.2) fun r19 =>
  bnd (aAppend Try.prog r19.2 #[179, 179] r17.1 r19.1) fun r20 =>
  bnd (oNilCheck r13.1 r20.2) fun r21 =>
  bnd (faO 0 r21.1 r21.2) fun r22 =>
  bnd (stV 1 r22.1 r20.1 r22.2) fun r23 =>
  oRes Try.prog [] r23.2
theorem heaps_pileapi_HoEntry_Push_eq (call : Eng.Callee) (x0 x1 : Value) (W : AW) : kFun Try.prog call 25 (cod 204) (rss 204) [x0, x1] W = heaps_pileapi_HoEntry_Push call x0 x1 W := by kernel_rfl
theorem heaps_pileapi_HoEntry_Push_om {x0 x1 : Value} {W : AW} {r : Value × AW} (h : heaps_pileapi_HoEntry_Push omS x0 x1 W = some r) : omS (.func (.func 204) #[] #[]) [x0, x1] W = some (gc W r) := om_of (nt := 25) (n := 2) (by kernel_rfl) (by kernel_rfl) rfl ((heaps_pileapi_HoEntry_Push_eq omS x0 x1 W).trans h)
noncomputable def heaps_pileapi_HoEntry_Swap (call : Eng.Callee) (x0 x1 x2 : Value) (W : AW) : Option (Value × AW) :=
  bnd (oMv x0 W) fun r1 =>
  bnd (oNilCheck r1.1 r1.2) fun r2 =>
  bnd (faO 0 r2.1 r2.2) fun r3 =>
  bnd (ldC r3.1 r3.2) fun r4 =>
  bnd (oMv x1 r4.2) fun r5 =>
  bnd (oMv x0 r5.2) fun r6 =>
  bnd (oNilCheck r6.1 r6.2) fun r7 =>
  bnd (faO 0 r7.1 r7.2) fun r8 =>
  bnd (ldC r8.1 r8.2) fun r9 =>
  bnd (oMv x2 r9.2) fun r10 =>
  bnd (oMv x0 r10.2) fun r11 =>
  bnd (oNilCheck r11.1 r11.2) fun r12 =>
  bnd (faO 0 r12.1 r12.2) fun r13 =>
  bnd (ldC r13.1 r13.2) fun r14 =>
  bnd (oMv x2 r14.2) fun r15 =>
  bnd (ixS 1 r14.1 r15.1 r15.2) fun r16 =>
  bnd (ldC r16.1 r16.2) fun r17 =>
  bnd (oMv x0 r17.2) fun r18 =>
  bnd (oNilCheck r18.1 r18.2) fun r19 =>
  bnd (faO 0 r19.1 r19.2) fun r20 =>
  bnd (ldC r20.1 r20.2) fun r21 =>
  bnd (oMv x1 r21.2) fun r22 =>
  bnd (ixS 1 r21.1 r22.1 r22.2) fun r23 =>
  bnd (ldC r23.1 r23.2) fun r24 =>
  bnd (ixS 1 r4.1 r5.1 r24.2) fun r25 =>
  bnd (stV 1 r25.1 r17.1 r25.2) fun r26 =>
  bnd (ixS 1 r9.1 r10.1 r26.2) fun r27 =>
  bnd (stV 1 r27.1 r24.1 r27.2) fun r28 =>
  bnd (oMv x0 r28.2) fun r29 =>
  bnd (oNilCheck r29.1 r29.2) fun r30 =>
  bnd (faO 0 r30.1 r30.2) fun r31 =>
  bnd (ldC r31.1 r31.2) fun r32 =>
  bnd (oMv x1 r32.2) fun r33 =>
  bnd (ixS 1 r32.1 r33.1 r33.2) fun r34 =>
  bnd (ldC r34.1 r34.2) fun r35 =>
  bnd (oMv x0 r35.2) fun r36 =>
  bnd (oNilCheck r36.1 r36.2) fun r37 =>
  bnd (faO 0 r37.1 r37.2) fun r38 =>
  bnd (ldC r38.1 r38.2) fun r39 =>
  bnd (oMv x2 r39.2) fun r40 =>
  bnd (ixS 1 r39.1 r40.1 r40.2) fun r41 =>
  bnd (ldC r41.1 r41.2) fun r42 =>
  bnd (oMv x1 r42.2) fun r43 =>
  bnd (oMv x2 r43.2) fun r44 =>
  bnd (oNilCheck r35.1 r44.2) fun r45 =>
  bnd (faO 3 r45.1 r45.2) fun r46 =>
  bnd (stV 1 r46.1 r43.1 r46.2) fun r47 =>
  bnd (oNilCheck r42.1 r47.2) fun r48 =>
  bnd (faO 3 r48.1 r48.2) fun r49 =>
  bnd (stV 1 r49.1 r44.1 r49.2) fun r50 =>
  oRes Try.prog [] r50.2
theorem heaps_pileapi_HoEntry_Swap_eq (call : Eng.Callee) (x0 x1 x2 : Value) (W : AW) : kFun Try.prog call 52 (cod 205) (rss 205) [x0, x1, x2] W = heaps_pileapi_HoEntry_Swap call x0 x1 x2 W := by kernel_rfl
theorem heaps_pileapi_HoEntry_Swap_om {x0 x1 x2 : Value} {W : AW} {r : Value × AW} (h : heaps_pileapi_HoEntry_Swap omS x0 x1 x2 W = some r) : omS (.func (.func 205) #[] #[]) [x0, x1, x2] W = some (gc W r) := om_of (nt := 52) (n := 3) (by kernel_rfl) (by kernel_rfl) rfl ((heaps_pileapi_HoEntry_Swap_eq omS x0 x1 x2 W).trans h)
noncomputable def containerheap_Remove (call : Eng.Callee) (x0 x1 : Value) (W : AW) : Option (Value × AW) :=
  bnd (oMv .nilIface W) fun r1 =>
  bnd (oMv x0 r1.2) fun r2 =>
  bnd (oInvoke Try.prog call r2.1 "Len" [] r2.2) fun r3 =>
  bnd (oBin Try.prog .sub 3 false true r3.1 (.int .i64 1) r3.2) fun r4 =>
  bnd (oMv r4.1 r4.2) fun r5 =>
  bnd (oMv r5.1 r5.2) fun r6 =>
  bnd (oMv x1 r6.2) fun r7 =>
  bnd (oBin Try.prog .neq 3 false false r6.1 r7.1 r7.2) fun r8 =>
  vIf r8.1 (
    bnd (oMv x0 r8.2) fun r9 =>
    bnd (oMv x1 r9.2) fun r10 =>
    bnd (oMv r5.1 r10.2) fun r11 =>
    bnd (oInvoke Try.prog call r9.1 "Swap" [r10.1, r11.1] r11.2) fun r12 =>
    bnd (oMv x0 r12.2) fun r13 =>
    bnd (oMv x1 r13.2) fun r14 =>
    bnd (oMv r5.1 r14.2) fun r15 =>
    bnd (call (fnV 94) [r13.1, r14.1, r15.1] r15.2) fun r16 =>
    bnd (oUn Try.prog .not r16.1 r16.2) fun r17 =>
    vIf r17.1 (
      bnd (oMv x0 r17.2) fun r18 =>
      bnd (oMv x1 r18.2) fun r19 =>
      bnd (call (fnV 104) [r18.1, r19.1] r19.2) fun r20 =>
      bnd (oMv x0 r20.2) fun r21 =>
      bnd (oInvoke Try.prog call r21.1 "Pop" [] r21.2) fun r22 =>
      bnd (oMv r22.1 r22.2) fun r23 =>
      oRes Try.prog [(r23.1, none)] r23.2) (
      bnd (oMv x0 r17.2) fun r24 =>
      bnd (oInvoke Try.prog call r24.1 "Pop" [] r24.2) fun r25 =>
      bnd (oMv r25.1 r25.2) fun r26 =>
      oRes Try.prog [(r26.1, none)] r26.2)) (
    bnd (oMv x0 r8.2) fun r27 =>
    bnd (oInvoke Try.prog call r27.1 "Pop" [] r27.2) fun r28 =>
    bnd (oMv r28.1 r28.2) fun r29 =>
    oRes Try.prog [(r29.1, none)] r29.2)
theorem containerheap_Remove_eq (call : Eng.Callee) (x0 x1 : Value) (W : AW) : kFun Try.prog call 26 (cod 69) (rss 69) [x0, x1] W = containerheap_Remove call x0 x1 W := by kernel_rfl
theorem containerheap_Remove_om {x0 x1 : Value} {W : AW} {r : Value × AW} (h : containerheap_Remove omS x0 x1 W = some r) : omS (.func (.func 69) #[] #[]) [x0, x1] W = some (gc W r) := om_of (nt := 26) (n := 2) (by kernel_rfl) (by kernel_rfl) rfl ((containerheap_Remove_eq omS x0 x1 W).trans h)
noncomputable def containerheap_Fix (call : Eng.Callee) (x0 x1 : Value) (W : AW) : Option (Value × AW) :=
  bnd (oMv x0 W) fun r1 =>
  bnd (oMv x1 r1.2) fun r2 =>
  bnd (oMv x0 r2.2) fun r3 =>
  bnd (oInvoke Try.prog call r3.1 "Len" [] r3.2) fun r4 =>
  bnd (call (fnV 94) [r1.1, r2.1, r4.1] r4.2) fun r5 =>
  bnd (oUn Try.prog .not r5.1 r5.2) fun r6 =>
  vIf r6.1 (
    bnd (oMv x0 r6.2) fun r7 =>
    bnd (oMv x1 r7.2) fun r8 =>
    bnd (call (fnV 104) [r7.1, r8.1] r8.2) fun r9 =>
    oRes Try.prog [] r9.2) (
    oRes Try.prog [] r6.2)
theorem containerheap_Fix_eq (call : Eng.Callee) (x0 x1 : Value) (W : AW) : kFun Try.prog call 13 (cod 71) (rss 71) [x0, x1] W = containerheap_Fix call x0 x1 W := by kernel_rfl
theorem containerheap_Fix_om {x0 x1 : Value} {W : AW} {r : Value × AW} (h : containerheap_Fix omS x0 x1 W = some r) : omS (.func (.func 71) #[] #[]) [x0, x1] W = some (gc W r) := om_of (nt := 13) (n := 2) (by kernel_rfl) (by kernel_rfl) rfl ((containerheap_Fix_eq omS x0 x1 W).trans h)
noncomputable def law17_HoldsPlays_L1 (call : Eng.Callee) (R : Nat → Value) (W : AW) : Option LT :=
  bnd (oMv (R 9) W) fun r38 =>
  bnd (oMv (R 1) r38.2) fun r39 =>
  bnd (oBuiltin Try.prog .len #[86] 3 #[false] [r39.1] r39.2) fun r40 =>
  bnd (oBin Try.prog .lss 3 false false r38.1 r40.1 r40.2) fun r41 =>
  vIf r41.1 (
    bnd (oMv (R 5) r41.2) fun r42 =>
    bnd (ldA 2 (R 7) r42.2) fun r43 =>
    bnd (oMv (R 1) r43.2) fun r44 =>
    bnd (oMv (R 9) r44.2) fun r45 =>
    bnd (ixS 3 r44.1 r45.1 r45.2) fun r46 =>
    bnd (ldA 3 r46.1 r46.2) fun r47 =>
    bnd (oAlloc Try.prog 91 r47.2) fun r48 =>
    bnd (call (fnV 45) [r42.1, r43.1, r47.1] r48.2) fun r49 =>
    bnd (oMv r49.1 r49.2) fun r50 =>
    bnd (oExtract r50.1 0 r50.2) fun r51 =>
    bnd (oExtract r50.1 1 r51.2) fun r52 =>
    bnd (stV 2 r48.1 r51.1 r52.2) fun r53 =>
    bnd (oMv r52.1 r53.2) fun r54 =>
    bnd (oMv r54.1 r54.2) fun r55 =>
    bnd (oUn Try.prog .not r55.1 r55.2) fun r56 =>
    bnd (oMv r56.1 r56.2) fun r57 =>
    bnd (bIf (wnt r57.1 false) (oMv (R 5) r57.2) (some (undef, r57.2))) fun r58 =>
    bnd (bIf (wnt r57.1 false) (faO 1 r48.1 r58.2) (some (undef, r58.2))) fun r59 =>
    bnd (bIf (wnt r57.1 false) (ldC r59.1 r59.2) (some (undef, r59.2))) fun r60 =>
    bnd (bIf (wnt r57.1 false) (call (fnV 43) [r58.1] r60.2) (some (undef, r60.2))) fun r61 =>
    bIf (agV (wnt r57.1 false) (ldC r59.1 r61.2) r60.1 && true) (bnd (bIf (wnt r57.1 false) (call (fnV 46) [r61.1, r60.1] r61.2) (some (undef, r61.2))) fun r62 =>
    bnd (bIf (wnt r57.1 false) (oUn Try.prog .not r62.1 r62.2) (some (undef, r62.2))) fun r63 =>
    bnd (oPick r57.1 (.bool true) r63.1 r63.2) fun r64 =>
    vIf r64.1 (
      bnd (oMv (.bool false) r64.2) fun r65 =>
      some (X.ret, (rput (rput (rput (rput (rput (rput (rput (rput (rput (rput (rput (rput (rput (rput (rput (rput (rput (rput (rput (rput (rput (rput (rput (rput (rput (rput (rput R (some 39) r38.1) (some 40) r39.1) (some 41) r40.1) (some 42) r41.1) (some 46) r42.1) (some 47) r43.1) (some 48) r44.1) (some 49) r45.1) (some 50) r46.1) (some 51) r47.1) (some 10) r48.1) (some 52) r49.1) (some 45) r50.1) (some 53) r51.1) (some 54) r52.1) (some 11) r54.1) (some 55) r55.1) (some 56) r56.1) (some 57) r57.1) (some 58) r58.1) (some 60) r59.1) (some 61) r60.1) (some 59) r61.1) (some 62) r62.1) (some 63) r63.1) (some 64) r64.1) (some 4) r65.1), r65.2)) (
      bnd (ldA 2 r48.1 r64.2) fun r66 =>
      bnd (stV 2 (R 7) r66.1 r66.2) fun r67 =>
      bnd (oMv (R 9) r67.2) fun r68 =>
      bnd (oBin Try.prog .add 3 false true r68.1 (.int .i64 1) r68.2) fun r69 =>
      bnd (oMv r69.1 r69.2) fun r70 =>
      some (X.normal, (rput (rput (rput (rput (rput (rput (rput (rput (rput (rput (rput (rput (rput (rput (rput (rput (rput (rput (rput (rput (rput (rput (rput (rput (rput (rput (rput (rput (rput (rput R (some 39) r38.1) (some 40) r39.1) (some 41) r40.1) (some 42) r41.1) (some 46) r42.1) (some 47) r43.1) (some 48) r44.1) (some 49) r45.1) (some 50) r46.1) (some 51) r47.1) (some 10) r48.1) (some 52) r49.1) (some 45) r50.1) (some 53) r51.1) (some 54) r52.1) (some 11) r54.1) (some 55) r55.1) (some 56) r56.1) (some 57) r57.1) (some 58) r58.1) (some 60) r59.1) (some 61) r60.1) (some 59) r61.1) (some 62) r62.1) (some 63) r63.1) (some 64) r64.1) (some 65) r66.1) (some 43) r68.1) (some 44) r69.1) (some 9) r70.1), r70.2))) none) (
    some (X.exit 0, (rput (rput (rput (rput R (some 39) r38.1) (some 40) r39.1) (some 41) r40.1) (some 42) r41.1), r41.2))
noncomputable def law17_HoldsPlays (call : Eng.Callee) (x0 x1 : Value) (W : AW) : Option (Value × AW) :=
  bnd (oMv (.bool false) W) fun r1 =>
  bnd (oMv x1 r1.2) fun r2 =>
  bnd (oBuiltin Try.prog .len #[86] 3 #[false] [r2.1] r2.2) fun r3 =>
  bnd (oBin Try.prog .gtr 3 false true r3.1 (.int .i64 100) r3.2) fun r4 =>
  vIf r4.1 (
    bnd (call (fnV 17) [] r4.2) fun r5 =>
    bnd (oMv r5.1 r5.2) fun r6 =>
    oRes Try.prog [(r6.1, none)] r6.2) (
    bnd (oMv x0 r4.2) fun r7 =>
    bnd (call (fnV 18) [r7.1] r7.2) fun r8 =>
    bnd (oMv r8.1 r8.2) fun r9 =>
    bnd (oExtract r9.1 0 r9.2) fun r10 =>
    bnd (oExtract r9.1 1 r10.2) fun r11 =>
    bnd (oMv r10.1 r11.2) fun r12 =>
    bnd (oMv r11.1 r12.2) fun r13 =>
    bnd (oMv x0 r13.2) fun r14 =>
    bnd (call (fnV 44) [r14.1] r14.2) fun r15 =>
    bnd (oMv r15.1 r15.2) fun r16 =>
    bnd (oExtract r16.1 0 r16.2) fun r17 =>
    bnd (oExtract r16.1 1 r17.2) fun r18 =>
    bnd (oAlloc Try.prog 91 r18.2) fun r19 =>
    bnd (stV 2 r19.1 r17.1 r19.2) fun r20 =>
    bnd (oMv r18.1 r20.2) fun r21 =>
    bnd (oMv r13.1 r21.2) fun r22 =>
    bnd (oMv r21.1 r22.2) fun r23 =>
    bnd (oBin Try.prog .neq 29 false false r22.1 r23.1 r23.2) fun r24 =>
    bnd (oMv r24.1 r24.2) fun r25 =>
    bnd (bIf (wnt r25.1 false) (oMv r12.1 r25.2) (some (undef, r25.2))) fun r26 =>
    bnd (bIf (wnt r25.1 false) (oBin Try.prog .eql 35 false true r26.1 (.pointer none) r26.2) (some (undef, r26.2))) fun r27 =>
    bnd (bIf (wnt r25.1 false) (oMv r13.1 r27.2) (some (undef, r27.2))) fun r28 =>
    bnd (bIf (wnt r25.1 false) (oBin Try.prog .neq 29 false true r28.1 (.int .i64 0) r28.2) (some (undef, r28.2))) fun r29 =>
    bnd (bIf (wnt r25.1 false) (oBin Try.prog .neq 4 false false r27.1 r29.1 r29.2) (some (undef, r29.2))) fun r30 =>
    bnd (oPick r25.1 (.bool true) r30.1 r30.2) fun r31 =>
    vIf r31.1 (
      bnd (oMv (.bool false) r31.2) fun r32 =>
      oRes Try.prog [(r32.1, none)] r32.2) (
      bnd (oMv r13.1 r31.2) fun r33 =>
      bnd (oBin Try.prog .neq 29 false true r33.1 (.int .i64 0) r33.2) fun r34 =>
      vIf r34.1 (
        bnd (call (fnV 17) [] r34.2) fun r35 =>
        bnd (oMv r35.1 r35.2) fun r36 =>
        oRes Try.prog [(r36.1, none)] r36.2) (
        bnd (oMv (.int .i64 0) r34.2) fun r37 =>
        bnd (loopO (law17_HoldsPlays_L1 call) (rput (rput (rput (rput (rput (rput (rput (rput (rput (rput (rput (rput (rput (rput (rput (rput (rput (rput (rput (rput (rput (rput (rput (rput (rput (rput (rput (rput (rput (rput (rput (argGo 0 [x0, x1] PlanTab.blank) (some 4) r1.1) (some 12) r2.1) (some 13) r3.1) (some 14) r4.1) (some 17) r7.1) (some 18) r8.1) (some 16) r9.1) (some 19) r10.1) (some 20) r11.1) (some 5) r12.1) (some 6) r13.1) (some 22) r14.1) (some 23) r15.1) (some 21) r16.1) (some 24) r17.1) (some 25) r18.1) (some 7) r19.1) (some 8) r21.1) (some 26) r22.1) (some 27) r23.1) (some 28) r24.1) (some 29) r25.1) (some 30) r26.1) (some 31) r27.1) (some 32) r28.1) (some 33) r29.1) (some 34) r30.1) (some 35) r31.1) (some 36) r33.1) (some 37) r34.1) (some 9) r37.1) r37.2) fun r71 =>
        kExit 0 r71.1 (
          bnd (call (fnV 17) [] r71.2.2) fun r72 =>
          bnd (oMv r72.1 r72.2) fun r73 =>
          oRes Try.prog [(r73.1, none)] r73.2) (kRetX r71.1 (
          oRes Try.prog [((r71.2.1 4), none)] r71.2.2)))))
theorem law17_HoldsPlays_eq (call : Eng.Callee) (x0 x1 : Value) (W : AW) : kFun Try.prog call 67 (cod 10) (rss 10) [x0, x1] W = law17_HoldsPlays call x0 x1 W := by kernel_rfl
theorem law17_HoldsPlays_om {x0 x1 : Value} {W : AW} {r : Value × AW} (h : law17_HoldsPlays omS x0 x1 W = some r) : omS (.func (.func 10) #[] #[]) [x0, x1] W = some (gc W r) := om_of (nt := 67) (n := 2) (by kernel_rfl) (by kernel_rfl) rfl ((law17_HoldsPlays_eq omS x0 x1 W).trans h)
noncomputable def holds_Holds_Save_Y1a (call : Eng.Callee) (R : Nat → Value) (W : AW) : Option LT :=
  bnd (oAlloc Try.prog 43 W) fun r18 =>
  bnd (stV 2 r18.1 (R 21) r18.2) fun r19 =>
  some (X.normal, (rput R (some 5) r18.1), r19.2)
theorem holds_Holds_Save_Y1a_eq (call : Eng.Callee) (R : Nat → Value) (W : AW) : kCode Try.prog call false 29 (cAt [1, 1, 1, 0, 1, 0, 0] (cod 43)) LT R W ret3 = holds_Holds_Save_Y1a call R W := by kernel_rfl
noncomputable def holds_Holds_Save_Y1b (call : Eng.Callee) (R : Nat → Value) (W : AW) : Option LT :=
  bnd (ldC (R 3) W) fun r20 =>
  bnd (ldA 2 (R 5) r20.2) fun r21 =>
  bnd (oBuildSlice Try.prog 39 1 [(0, r21.1)] r21.2) fun r22 =>
  bnd (aAppend Try.prog r22.2 #[39, 39] r20.1 r22.1) fun r23 =>
  bnd (stV 1 (R 3) r23.1 r23.2) fun r24 =>
  some (X.normal, (rput (rput (rput (rput R (some 22) r20.1) (some 23) r21.1) (some 24) r22.1) (some 25) r23.1), r24.2)
theorem holds_Holds_Save_Y1b_eq (call : Eng.Callee) (R : Nat → Value) (W : AW) : kCode Try.prog call false 29 (cAt [1, 1, 1, 0, 1, 0, 1] (cod 43)) LT R W ret3 = holds_Holds_Save_Y1b call R W := by kernel_rfl
noncomputable def holds_Holds_Save (call : Eng.Callee) (x0 : Value) (W : AW) : Option (Value × AW) :=
  bnd (oMv (.slice none 0 0) W) fun r1 =>
  bnd (oMv x0 r1.2) fun r2 =>
  bnd (oBin Try.prog .eql 35 false true r2.1 (.pointer none) r2.2) fun r3 =>
  bnd (oMv r3.1 r3.2) fun r4 =>
  bnd (bIf (wnt r4.1 false) (oMv x0 r4.2) (some (undef, r4.2))) fun r5 =>
  bnd (bIf (wnt r4.1 false) (oNilCheck r5.1 r5.2) (some (undef, r5.2))) fun r6 =>
  bnd (bIf (wnt r4.1 false) (faO 0 r6.1 r6.2) (some (undef, r6.2))) fun r7 =>
  bnd (bIf (wnt r4.1 false) (ldC r7.1 r7.2) (some (undef, r7.2))) fun r8 =>
  bnd (bIf (wnt r4.1 false) (oBin Try.prog .eql 3 false true r8.1 (.int .i64 0) r8.2) (some (undef, r8.2))) fun r9 =>
  bnd (oPick r4.1 (.bool true) r9.1 r9.2) fun r10 =>
  vIf r10.1 (
    bnd (oMv (.slice none 0 0) r10.2) fun r11 =>
    oRes Try.prog [(r11.1, none)] r11.2) (
    bnd (oAlloc Try.prog 39 r10.2) fun r12 =>
    bnd (oMv x0 r12.2) fun r13 =>
    bnd (oNilCheck r13.1 r13.2) fun r14 =>
    bnd (faO 1 r14.1 r14.2) fun r15 =>
    bnd (ldC r15.1 r15.2) fun r16 =>
    bnd (call (fnV 82) [r16.1] r16.2) fun r17 =>
    bnd (oRange call r17.1 (.loop .ready none (rput (rput (rput (rput (rput (rput (rput (rput (rput (rput (rput (rput (rput (rput (rput (rput (argGo 0 [x0] PlanTab.blank) (some 2) r1.1) (some 6) r2.1) (some 7) r3.1) (some 8) r4.1) (some 9) r5.1) (some 10) r6.1) (some 11) r7.1) (some 12) r8.1) (some 13) r9.1) (some 14) r10.1) (some 3) r12.1) (some 15) r13.1) (some 16) r14.1) (some 17) r15.1) (some 18) r16.1) (some 19) r17.1) 29 #[20, 21] (cAt [1, 1, 1, 0, 1, 0, 0] (cod 43)) (cAt [1, 1, 1, 0, 1, 0, 1] (cod 43))) r17.2) fun r25 =>
    kNorm r25.1 (
      bnd (ldC r12.1 r25.2) fun r26 =>
      bnd (call (fnV 83) [r26.1, (fnV 84)] r26.2) fun r27 =>
      bnd (ldC r12.1 r27.2) fun r28 =>
      bnd (oMv r28.1 r28.2) fun r29 =>
      oRes Try.prog [(r29.1, none)] r29.2) (none))
theorem holds_Holds_Save_eq (call : Eng.Callee) (x0 : Value) (W : AW) : kFun Try.prog call 29 (cod 43) (rss 43) [x0] W = holds_Holds_Save call x0 W := by kernel_rfl
theorem holds_Holds_Save_om {x0 : Value} {W : AW} {r : Value × AW} (h : holds_Holds_Save omS x0 W = some r) : omS (.func (.func 43) #[] #[]) [x0] W = some (gc W r) := om_of (nt := 29) (n := 1) (by kernel_rfl) (by kernel_rfl) rfl ((holds_Holds_Save_eq omS x0 W).trans h)
noncomputable def ref17_New (call : Eng.Callee) (x0 : Value) (W : AW) : Option (Value × AW) :=
  bnd (oAlloc Try.prog 91 W) fun r1 =>
  bnd (oMv (.int .i64 0) r1.2) fun r2 =>
  bnd (oMv x0 r2.2) fun r3 =>
  bnd (oBin Try.prog .lss 3 false true r3.1 (.int .i64 1) r3.2) fun r4 =>
  bnd (oMv r4.1 r4.2) fun r5 =>
  bnd (bIf (wnt r5.1 false) (oMv x0 r5.2) (some (undef, r5.2))) fun r6 =>
  bnd (bIf (wnt r5.1 false) (oBin Try.prog .gtr 3 false true r6.1 (.int .i64 4096) r6.2) (some (undef, r6.2))) fun r7 =>
  bnd (oPick r5.1 (.bool true) r7.1 r7.2) fun r8 =>
  vIf r8.1 (
    bnd (oBuild Try.prog 91 [] r8.2) fun r9 =>
    bnd (stV 2 r1.1 r9.1 r9.2) fun r10 =>
    bnd (oMv (.int .i64 7) r10.2) fun r11 =>
    oRes Try.prog [(r1.1, some 91), (r11.1, none)] r11.2) (
    bnd (oMv x0 r8.2) fun r12 =>
    bnd (oBuild Try.prog 91 [(0, r12.1)] r12.2) fun r13 =>
    bnd (stV 2 r1.1 r13.1 r13.2) fun r14 =>
    bnd (oMv (.int .i64 0) r14.2) fun r15 =>
    oRes Try.prog [(r1.1, some 91), (r15.1, none)] r15.2)
theorem ref17_New_eq (call : Eng.Callee) (x0 : Value) (W : AW) : kFun Try.prog call 13 (cod 44) (rss 44) [x0] W = ref17_New call x0 W := by kernel_rfl
theorem ref17_New_om {x0 : Value} {W : AW} {r : Value × AW} (h : ref17_New omS x0 W = some r) : omS (.func (.func 44) #[] #[]) [x0] W = some (gc W r) := om_of (nt := 13) (n := 1) (by kernel_rfl) (by kernel_rfl) rfl ((ref17_New_eq omS x0 W).trans h)
noncomputable def law17_one (call : Eng.Callee) (x0 x1 x2 : Value) (W : AW) : Option (Value × AW) :=
  bnd (oBox x1 W) fun r1 =>
  bnd (oBox x2 r1.2) fun r2 =>
  bnd (oAlloc Try.prog 91 r2.2) fun r3 =>
  bnd (oMv (.bool false) r3.2) fun r4 =>
  bnd (faO 0 r2.1 r4.2) fun r5 =>
  bnd (ldC r5.1 r5.2) fun r6 =>
  bnd (oBin Try.prog .rem 5 false true r6.1 (.int .u8 8) r6.2) fun r7 =>
  bnd (oBin Try.prog .eql 5 false true r7.1 (.int .u8 0) r7.2) fun r8 =>
  bnd (oMv r8.1 r8.2) fun r9 =>
  vIf r9.1 (
    vIf r9.1 (
      bnd (ldA 2 r1.1 r9.2) fun r10 =>
      bnd (faO 1 r2.1 r10.2) fun r11 =>
      bnd (ldC r11.1 r11.2) fun r12 =>
      bnd (faO 2 r2.1 r12.2) fun r13 =>
      bnd (ldC r13.1 r13.2) fun r14 =>
      bnd (call (fnV 85) [r10.1, r12.1, r14.1] r14.2) fun r15 =>
      bnd (oMv r15.1 r15.2) fun r16 =>
      bnd (oExtract r16.1 0 r16.2) fun r17 =>
      bnd (oExtract r16.1 1 r17.2) fun r18 =>
      bnd (oAlloc Try.prog 91 r18.2) fun r19 =>
      bnd (stV 2 r19.1 r17.1 r19.2) fun r20 =>
      bnd (oMv r18.1 r20.2) fun r21 =>
      bnd (ldA 2 r19.1 r21.2) fun r22 =>
      bnd (oMv x0 r22.2) fun r23 =>
      bnd (faO 1 r2.1 r23.2) fun r24 =>
      bnd (ldC r24.1 r24.2) fun r25 =>
      bnd (faO 2 r2.1 r25.2) fun r26 =>
      bnd (ldC r26.1 r26.2) fun r27 =>
      bnd (oMv r21.1 r27.2) fun r28 =>
      bnd (call (fnV 19) [r23.1, r25.1, r27.1] r28.2) fun r29 =>
      bIf (agV true (ldA 2 r19.1 r29.2) r22.1 && true) (bnd (oBin Try.prog .eql 29 false false r29.1 r28.1 r29.2) fun r30 =>
      bnd (stV 2 r3.1 r22.1 r30.2) fun r31 =>
      bIf (agV true (oBin Try.prog .eql 29 false false r29.1 r28.1 r31.2) r30.1 && true) (bnd (oMv r30.1 r31.2) fun r32 =>
      oRes Try.prog [(r3.1, some 91), (r32.1, none)] r32.2) none) none) (
      bnd (oBin Try.prog .eql 5 false true r7.1 (.int .u8 2) r9.2) fun r33 =>
      bnd (oMv r33.1 r33.2) fun r34 =>
      vIf r34.1 (
        bnd (ldA 2 r1.1 r34.2) fun r35 =>
        bnd (faO 1 r2.1 r35.2) fun r36 =>
        bnd (ldC r36.1 r36.2) fun r37 =>
        bnd (faO 2 r2.1 r37.2) fun r38 =>
        bnd (ldC r38.1 r38.2) fun r39 =>
        bnd (call (fnV 86) [r35.1, r37.1, r39.1] r39.2) fun r40 =>
        bnd (oMv r40.1 r40.2) fun r41 =>
        bnd (oExtract r41.1 0 r41.2) fun r42 =>
        bnd (oExtract r41.1 1 r42.2) fun r43 =>
        bnd (oAlloc Try.prog 91 r43.2) fun r44 =>
        bnd (stV 2 r44.1 r42.1 r44.2) fun r45 =>
        bnd (oMv r43.1 r45.2) fun r46 =>
        bnd (ldA 2 r44.1 r46.2) fun r47 =>
        bnd (oMv x0 r47.2) fun r48 =>
        bnd (faO 1 r2.1 r48.2) fun r49 =>
        bnd (ldC r49.1 r49.2) fun r50 =>
        bnd (faO 2 r2.1 r50.2) fun r51 =>
        bnd (ldC r51.1 r51.2) fun r52 =>
        bnd (oMv r46.1 r52.2) fun r53 =>
        bnd (call (fnV 49) [r48.1, r50.1, r52.1] r53.2) fun r54 =>
        bIf (agV true (ldA 2 r44.1 r54.2) r47.1 && true) (bnd (oBin Try.prog .eql 29 false false r54.1 r53.1 r54.2) fun r55 =>
        bnd (stV 2 r3.1 r47.1 r55.2) fun r56 =>
        bIf (agV true (oBin Try.prog .eql 29 false false r54.1 r53.1 r56.2) r55.1 && true) (bnd (oMv r55.1 r56.2) fun r57 =>
        oRes Try.prog [(r3.1, some 91), (r57.1, none)] r57.2) none) none) (
        bnd (oBin Try.prog .eql 5 false true r7.1 (.int .u8 3) r34.2) fun r58 =>
        bnd (oMv r58.1 r58.2) fun r59 =>
        vIf r59.1 (
          bnd (oMv x0 r59.2) fun r60 =>
          bnd (faO 1 r2.1 r60.2) fun r61 =>
          bnd (ldC r61.1 r61.2) fun r62 =>
          bnd (call (fnV 47) [r60.1, r62.1] r62.2) fun r63 =>
          bnd (oMv r63.1 r63.2) fun r64 =>
          bnd (oExtract r64.1 0 r64.2) fun r65 =>
          bnd (oExtract r64.1 1 r65.2) fun r66 =>
          bnd (oMv r65.1 r66.2) fun r67 =>
          bnd (oMv r66.1 r67.2) fun r68 =>
          bnd (ldA 2 r1.1 r68.2) fun r69 =>
          bnd (faO 1 r2.1 r69.2) fun r70 =>
          bnd (ldC r70.1 r70.2) fun r71 =>
          bnd (call (fnV 87) [r69.1, r71.1] r71.2) fun r72 =>
          bnd (oMv r72.1 r72.2) fun r73 =>
          bnd (oExtract r73.1 0 r73.2) fun r74 =>
          bnd (oExtract r73.1 1 r74.2) fun r75 =>
          bnd (oExtract r73.1 2 r75.2) fun r76 =>
          bnd (oAlloc Try.prog 91 r76.2) fun r77 =>
          bnd (stV 2 r77.1 r74.1 r77.2) fun r78 =>
          bnd (oMv r75.1 r78.2) fun r79 =>
          bnd (oMv r76.1 r79.2) fun r80 =>
          bnd (ldA 2 r77.1 r80.2) fun r81 =>
          bnd (oMv r67.1 r81.2) fun r82 =>
          bnd (oMv r79.1 r82.2) fun r83 =>
          bnd (oBin Try.prog .eql 2 false false r82.1 r83.1 r83.2) fun r84 =>
          bnd (oMv r84.1 r84.2) fun r85 =>
          bnd (bIf (wnt r85.1 true) (oMv r68.1 r85.2) (some (undef, r85.2))) fun r86 =>
          bnd (bIf (wnt r85.1 true) (oMv r80.1 r86.2) (some (undef, r86.2))) fun r87 =>
          bnd (bIf (wnt r85.1 true) (oBin Try.prog .eql 29 false false r86.1 r87.1 r87.2) (some (undef, r87.2))) fun r88 =>
          bnd (oPick r85.1 r88.1 (.bool false) r88.2) fun r89 =>
          bnd (stV 2 r3.1 r81.1 r89.2) fun r90 =>
          bnd (oMv r89.1 r90.2) fun r91 =>
          oRes Try.prog [(r3.1, some 91), (r91.1, none)] r91.2) (
          bnd (oBin Try.prog .eql 5 false true r7.1 (.int .u8 4) r59.2) fun r92 =>
          bnd (oMv r92.1 r92.2) fun r93 =>
          vIf r93.1 (
            bnd (oMv x0 r93.2) fun r94 =>
            bnd (faO 1 r2.1 r94.2) fun r95 =>
            bnd (ldC r95.1 r95.2) fun r96 =>
            bnd (call (fnV 48) [r94.1, r96.1] r96.2) fun r97 =>
            bnd (oMv r97.1 r97.2) fun r98 =>
            bnd (oExtract r98.1 0 r98.2) fun r99 =>
            bnd (oExtract r98.1 1 r99.2) fun r100 =>
            bnd (oMv r99.1 r100.2) fun r101 =>
            bnd (oMv r100.1 r101.2) fun r102 =>
            bnd (ldA 2 r1.1 r102.2) fun r103 =>
            bnd (faO 1 r2.1 r103.2) fun r104 =>
            bnd (ldC r104.1 r104.2) fun r105 =>
            bnd (call (fnV 88) [r103.1, r105.1] r105.2) fun r106 =>
            bnd (oMv r106.1 r106.2) fun r107 =>
            bnd (oExtract r107.1 0 r107.2) fun r108 =>
            bnd (oExtract r107.1 1 r108.2) fun r109 =>
            bnd (oMv r108.1 r109.2) fun r110 =>
            bnd (oMv r109.1 r110.2) fun r111 =>
            bnd (ldA 2 r1.1 r111.2) fun r112 =>
            bnd (oMv r101.1 r112.2) fun r113 =>
            bnd (oMv r110.1 r113.2) fun r114 =>
            bnd (oBin Try.prog .eql 2 false false r113.1 r114.1 r114.2) fun r115 =>
            bnd (oMv r115.1 r115.2) fun r116 =>
            bnd (bIf (wnt r116.1 true) (oMv r102.1 r116.2) (some (undef, r116.2))) fun r117 =>
            bnd (bIf (wnt r116.1 true) (oMv r111.1 r117.2) (some (undef, r117.2))) fun r118 =>
            bnd (bIf (wnt r116.1 true) (oBin Try.prog .eql 29 false false r117.1 r118.1 r118.2) (some (undef, r118.2))) fun r119 =>
            bnd (oPick r116.1 r119.1 (.bool false) r119.2) fun r120 =>
            bnd (stV 2 r3.1 r112.1 r120.2) fun r121 =>
            bnd (oMv r120.1 r121.2) fun r122 =>
            oRes Try.prog [(r3.1, some 91), (r122.1, none)] r122.2) (
            bnd (oBin Try.prog .eql 5 false true r7.1 (.int .u8 5) r93.2) fun r123 =>
            bnd (oMv r123.1 r123.2) fun r124 =>
            vIf r124.1 (
              bnd (oMv x0 r124.2) fun r125 =>
              bnd (call (fnV 21) [r125.1] r125.2) fun r126 =>
              bnd (oMv r126.1 r126.2) fun r127 =>
              bnd (oExtract r127.1 0 r127.2) fun r128 =>
              bnd (oExtract r127.1 1 r128.2) fun r129 =>
              bnd (oAlloc Try.prog 43 r129.2) fun r130 =>
              bnd (stV 2 r130.1 r128.1 r130.2) fun r131 =>
              bnd (oMv r129.1 r131.2) fun r132 =>
              bnd (ldA 2 r1.1 r132.2) fun r133 =>
              bnd (call (fnV 89) [r133.1] r133.2) fun r134 =>
              bnd (oMv r134.1 r134.2) fun r135 =>
              bnd (oExtract r135.1 0 r135.2) fun r136 =>
              bnd (oExtract r135.1 1 r136.2) fun r137 =>
              bnd (oAlloc Try.prog 43 r137.2) fun r138 =>
              bnd (stV 2 r138.1 r136.1 r138.2) fun r139 =>
              bnd (oMv r137.1 r139.2) fun r140 =>
              bnd (ldA 2 r1.1 r140.2) fun r141 =>
              bnd (ldA 2 r130.1 r141.2) fun r142 =>
              bnd (ldA 2 r138.1 r142.2) fun r143 =>
              bnd (oBin Try.prog .eql 43 false false r142.1 r143.1 r143.2) fun r144 =>
              bnd (oMv r144.1 r144.2) fun r145 =>
              bnd (bIf (wnt r145.1 true) (oMv r132.1 r145.2) (some (undef, r145.2))) fun r146 =>
              bnd (bIf (wnt r145.1 true) (oMv r140.1 r146.2) (some (undef, r146.2))) fun r147 =>
              bnd (bIf (wnt r145.1 true) (oBin Try.prog .eql 29 false false r146.1 r147.1 r147.2) (some (undef, r147.2))) fun r148 =>
              bnd (oPick r145.1 r148.1 (.bool false) r148.2) fun r149 =>
              bnd (oMv r149.1 r149.2) fun r150 =>
              bnd (bIf (wnt r150.1 true) (oMv x0 r150.2) (some (undef, r150.2))) fun r151 =>
              bnd (bIf (wnt r150.1 true) (faO 1 r1.1 r151.2) (some (undef, r151.2))) fun r152 =>
              bnd (bIf (wnt r150.1 true) (ldC r152.1 r152.2) (some (undef, r152.2))) fun r153 =>
              bnd (bIf (wnt r150.1 true) (oBuiltin Try.prog .len #[39] 3 #[false] [r153.1] r153.2) (some (undef, r153.2))) fun r154 =>
              bnd (bIf (wnt r150.1 true) (call (fnV 22) [r151.1] r154.2) (some (undef, r154.2))) fun r155 =>
              bIf (agV (wnt r150.1 true) (oBuiltin Try.prog .len #[39] 3 #[false] [r153.1] r155.2) r154.1 && (agV (wnt r150.1 true) (ldC r152.1 r155.2) r153.1 && (agV true (ldA 2 r1.1 r155.2) r141.1 && true))) (bnd (bIf (wnt r150.1 true) (oBin Try.prog .eql 3 false false r155.1 r154.1 r155.2) (some (undef, r155.2))) fun r156 =>
              bnd (oPick r150.1 r156.1 (.bool false) r156.2) fun r157 =>
              bnd (stV 2 r3.1 r141.1 r157.2) fun r158 =>
              bIf (agV (wnt r150.1 true) (oBin Try.prog .eql 3 false false r155.1 r154.1 r158.2) r156.1 && (agV (wnt r150.1 true) (oBuiltin Try.prog .len #[39] 3 #[false] [r153.1] r158.2) r154.1 && (agV (wnt r150.1 true) (ldC r152.1 r158.2) r153.1 && true))) (bnd (oMv r157.1 r158.2) fun r159 =>
              oRes Try.prog [(r3.1, some 91), (r159.1, none)] r159.2) none) none) (
              bnd (oMv x0 r124.2) fun r160 =>
              bnd (faO 2 r2.1 r160.2) fun r161 =>
              bnd (ldC r161.1 r161.2) fun r162 =>
              bnd (call (fnV 20) [r160.1, r162.1] r162.2) fun r163 =>
              bnd (oMv r163.1 r163.2) fun r164 =>
              bnd (oExtract r164.1 0 r164.2) fun r165 =>
              bnd (oExtract r164.1 1 r165.2) fun r166 =>
              bnd (oMv r165.1 r166.2) fun r167 =>
              bnd (oMv r166.1 r167.2) fun r168 =>
              bnd (ldA 2 r1.1 r168.2) fun r169 =>
              bnd (faO 2 r2.1 r169.2) fun r170 =>
              bnd (ldC r170.1 r170.2) fun r171 =>
              bnd (call (fnV 90) [r169.1, r171.1] r171.2) fun r172 =>
              bnd (oMv r172.1 r172.2) fun r173 =>
              bnd (oExtract r173.1 0 r173.2) fun r174 =>
              bnd (oExtract r173.1 1 r174.2) fun r175 =>
              bnd (oExtract r173.1 2 r175.2) fun r176 =>
              bnd (oAlloc Try.prog 91 r176.2) fun r177 =>
              bnd (stV 2 r177.1 r174.1 r177.2) fun r178 =>
              bnd (oMv r175.1 r178.2) fun r179 =>
              bnd (oMv r176.1 r179.2) fun r180 =>
              bnd (ldA 2 r177.1 r180.2) fun r181 =>
              bnd (oMv r167.1 r181.2) fun r182 =>
              bnd (oMv r179.1 r182.2) fun r183 =>
              bnd (call (fnV 46) [r182.1, r183.1] r183.2) fun r184 =>
              bIf (agV true (ldA 2 r177.1 r184.2) r181.1 && true) (bnd (oMv r184.1 r184.2) fun r185 =>
              bnd (bIf (wnt r185.1 true) (oMv r168.1 r185.2) (some (undef, r185.2))) fun r186 =>
              bnd (bIf (wnt r185.1 true) (oMv r180.1 r186.2) (some (undef, r186.2))) fun r187 =>
              bnd (bIf (wnt r185.1 true) (oBin Try.prog .eql 29 false false r186.1 r187.1 r187.2) (some (undef, r187.2))) fun r188 =>
              bnd (oPick r185.1 r188.1 (.bool false) r188.2) fun r189 =>
              bnd (stV 2 r3.1 r181.1 r189.2) fun r190 =>
              bIf (agV (wnt r185.1 true) (oBin Try.prog .eql 29 false false r186.1 r187.1 r190.2) r188.1 && true) (bnd (oMv r189.1 r190.2) fun r191 =>
              oRes Try.prog [(r3.1, some 91), (r191.1, none)] r191.2) none) none)))))) (
    bnd (oBin Try.prog .eql 5 false true r7.1 (.int .u8 1) r9.2) fun r192 =>
    bnd (oMv r192.1 r192.2) fun r193 =>
    vIf r193.1 (
      bnd (ldA 2 r1.1 r193.2) fun r194 =>
      bnd (faO 1 r2.1 r194.2) fun r195 =>
      bnd (ldC r195.1 r195.2) fun r196 =>
      bnd (faO 2 r2.1 r196.2) fun r197 =>
      bnd (ldC r197.1 r197.2) fun r198 =>
      bnd (call (fnV 85) [r194.1, r196.1, r198.1] r198.2) fun r199 =>
      bnd (oMv r199.1 r199.2) fun r200 =>
      bnd (oExtract r200.1 0 r200.2) fun r201 =>
      bnd (oExtract r200.1 1 r201.2) fun r202 =>
      bnd (oAlloc Try.prog 91 r202.2) fun r203 =>
      bnd (stV 2 r203.1 r201.1 r203.2) fun r204 =>
      bnd (oMv r202.1 r204.2) fun r205 =>
      bnd (ldA 2 r203.1 r205.2) fun r206 =>
      bnd (oMv x0 r206.2) fun r207 =>
      bnd (faO 1 r2.1 r207.2) fun r208 =>
      bnd (ldC r208.1 r208.2) fun r209 =>
      bnd (faO 2 r2.1 r209.2) fun r210 =>
      bnd (ldC r210.1 r210.2) fun r211 =>
      bnd (oMv r205.1 r211.2) fun r212 =>
      bnd (call (fnV 19) [r207.1, r209.1, r211.1] r212.2) fun r213 =>
      bIf (agV true (ldA 2 r203.1 r213.2) r206.1 && true) (bnd (oBin Try.prog .eql 29 false false r213.1 r212.1 r213.2) fun r214 =>
      bnd (stV 2 r3.1 r206.1 r214.2) fun r215 =>
      bIf (agV true (oBin Try.prog .eql 29 false false r213.1 r212.1 r215.2) r214.1 && true) (bnd (oMv r214.1 r215.2) fun r216 =>
      oRes Try.prog [(r3.1, some 91), (r216.1, none)] r216.2) none) none) (
      bnd (oBin Try.prog .eql 5 false true r7.1 (.int .u8 2) r193.2) fun r217 =>
      bnd (oMv r217.1 r217.2) fun r218 =>
      vIf r218.1 (
        bnd (ldA 2 r1.1 r218.2) fun r219 =>
        bnd (faO 1 r2.1 r219.2) fun r220 =>
        bnd (ldC r220.1 r220.2) fun r221 =>
        bnd (faO 2 r2.1 r221.2) fun r222 =>
        bnd (ldC r222.1 r222.2) fun r223 =>
        bnd (call (fnV 86) [r219.1, r221.1, r223.1] r223.2) fun r224 =>
        bnd (oMv r224.1 r224.2) fun r225 =>
        bnd (oExtract r225.1 0 r225.2) fun r226 =>
        bnd (oExtract r225.1 1 r226.2) fun r227 =>
        bnd (oAlloc Try.prog 91 r227.2) fun r228 =>
        bnd (stV 2 r228.1 r226.1 r228.2) fun r229 =>
        bnd (oMv r227.1 r229.2) fun r230 =>
        bnd (ldA 2 r228.1 r230.2) fun r231 =>
        bnd (oMv x0 r231.2) fun r232 =>
        bnd (faO 1 r2.1 r232.2) fun r233 =>
        bnd (ldC r233.1 r233.2) fun r234 =>
        bnd (faO 2 r2.1 r234.2) fun r235 =>
        bnd (ldC r235.1 r235.2) fun r236 =>
        bnd (oMv r230.1 r236.2) fun r237 =>
        bnd (call (fnV 49) [r232.1, r234.1, r236.1] r237.2) fun r238 =>
        bIf (agV true (ldA 2 r228.1 r238.2) r231.1 && true) (bnd (oBin Try.prog .eql 29 false false r238.1 r237.1 r238.2) fun r239 =>
        bnd (stV 2 r3.1 r231.1 r239.2) fun r240 =>
        bIf (agV true (oBin Try.prog .eql 29 false false r238.1 r237.1 r240.2) r239.1 && true) (bnd (oMv r239.1 r240.2) fun r241 =>
        oRes Try.prog [(r3.1, some 91), (r241.1, none)] r241.2) none) none) (
        bnd (oBin Try.prog .eql 5 false true r7.1 (.int .u8 3) r218.2) fun r242 =>
        bnd (oMv r242.1 r242.2) fun r243 =>
        vIf r243.1 (
          bnd (oMv x0 r243.2) fun r244 =>
          bnd (faO 1 r2.1 r244.2) fun r245 =>
          bnd (ldC r245.1 r245.2) fun r246 =>
          bnd (call (fnV 47) [r244.1, r246.1] r246.2) fun r247 =>
          bnd (oMv r247.1 r247.2) fun r248 =>
          bnd (oExtract r248.1 0 r248.2) fun r249 =>
          bnd (oExtract r248.1 1 r249.2) fun r250 =>
          bnd (oMv r249.1 r250.2) fun r251 =>
          bnd (oMv r250.1 r251.2) fun r252 =>
          bnd (ldA 2 r1.1 r252.2) fun r253 =>
          bnd (faO 1 r2.1 r253.2) fun r254 =>
          bnd (ldC r254.1 r254.2) fun r255 =>
          bnd (call (fnV 87) [r253.1, r255.1] r255.2) fun r256 =>
          bnd (oMv r256.1 r256.2) fun r257 =>
          bnd (oExtract r257.1 0 r257.2) fun r258 =>
          bnd (oExtract r257.1 1 r258.2) fun r259 =>
          bnd (oExtract r257.1 2 r259.2) fun r260 =>
          bnd (oAlloc Try.prog 91 r260.2) fun r261 =>
          bnd (stV 2 r261.1 r258.1 r261.2) fun r262 =>
          bnd (oMv r259.1 r262.2) fun r263 =>
          bnd (oMv r260.1 r263.2) fun r264 =>
          bnd (ldA 2 r261.1 r264.2) fun r265 =>
          bnd (oMv r251.1 r265.2) fun r266 =>
          bnd (oMv r263.1 r266.2) fun r267 =>
          bnd (oBin Try.prog .eql 2 false false r266.1 r267.1 r267.2) fun r268 =>
          bnd (oMv r268.1 r268.2) fun r269 =>
          bnd (bIf (wnt r269.1 true) (oMv r252.1 r269.2) (some (undef, r269.2))) fun r270 =>
          bnd (bIf (wnt r269.1 true) (oMv r264.1 r270.2) (some (undef, r270.2))) fun r271 =>
          bnd (bIf (wnt r269.1 true) (oBin Try.prog .eql 29 false false r270.1 r271.1 r271.2) (some (undef, r271.2))) fun r272 =>
          bnd (oPick r269.1 r272.1 (.bool false) r272.2) fun r273 =>
          bnd (stV 2 r3.1 r265.1 r273.2) fun r274 =>
          bnd (oMv r273.1 r274.2) fun r275 =>
          oRes Try.prog [(r3.1, some 91), (r275.1, none)] r275.2) (
          bnd (oBin Try.prog .eql 5 false true r7.1 (.int .u8 4) r243.2) fun r276 =>
          bnd (oMv r276.1 r276.2) fun r277 =>
          vIf r277.1 (
            bnd (oMv x0 r277.2) fun r278 =>
            bnd (faO 1 r2.1 r278.2) fun r279 =>
            bnd (ldC r279.1 r279.2) fun r280 =>
            bnd (call (fnV 48) [r278.1, r280.1] r280.2) fun r281 =>
            bnd (oMv r281.1 r281.2) fun r282 =>
            bnd (oExtract r282.1 0 r282.2) fun r283 =>
            bnd (oExtract r282.1 1 r283.2) fun r284 =>
            bnd (oMv r283.1 r284.2) fun r285 =>
            bnd (oMv r284.1 r285.2) fun r286 =>
            bnd (ldA 2 r1.1 r286.2) fun r287 =>
            bnd (faO 1 r2.1 r287.2) fun r288 =>
            bnd (ldC r288.1 r288.2) fun r289 =>
            bnd (call (fnV 88) [r287.1, r289.1] r289.2) fun r290 =>
            bnd (oMv r290.1 r290.2) fun r291 =>
            bnd (oExtract r291.1 0 r291.2) fun r292 =>
            bnd (oExtract r291.1 1 r292.2) fun r293 =>
            bnd (oMv r292.1 r293.2) fun r294 =>
            bnd (oMv r293.1 r294.2) fun r295 =>
            bnd (ldA 2 r1.1 r295.2) fun r296 =>
            bnd (oMv r285.1 r296.2) fun r297 =>
            bnd (oMv r294.1 r297.2) fun r298 =>
            bnd (oBin Try.prog .eql 2 false false r297.1 r298.1 r298.2) fun r299 =>
            bnd (oMv r299.1 r299.2) fun r300 =>
            bnd (bIf (wnt r300.1 true) (oMv r286.1 r300.2) (some (undef, r300.2))) fun r301 =>
            bnd (bIf (wnt r300.1 true) (oMv r295.1 r301.2) (some (undef, r301.2))) fun r302 =>
            bnd (bIf (wnt r300.1 true) (oBin Try.prog .eql 29 false false r301.1 r302.1 r302.2) (some (undef, r302.2))) fun r303 =>
            bnd (oPick r300.1 r303.1 (.bool false) r303.2) fun r304 =>
            bnd (stV 2 r3.1 r296.1 r304.2) fun r305 =>
            bnd (oMv r304.1 r305.2) fun r306 =>
            oRes Try.prog [(r3.1, some 91), (r306.1, none)] r306.2) (
            bnd (oBin Try.prog .eql 5 false true r7.1 (.int .u8 5) r277.2) fun r307 =>
            bnd (oMv r307.1 r307.2) fun r308 =>
            vIf r308.1 (
              bnd (oMv x0 r308.2) fun r309 =>
              bnd (call (fnV 21) [r309.1] r309.2) fun r310 =>
              bnd (oMv r310.1 r310.2) fun r311 =>
              bnd (oExtract r311.1 0 r311.2) fun r312 =>
              bnd (oExtract r311.1 1 r312.2) fun r313 =>
              bnd (oAlloc Try.prog 43 r313.2) fun r314 =>
              bnd (stV 2 r314.1 r312.1 r314.2) fun r315 =>
              bnd (oMv r313.1 r315.2) fun r316 =>
              bnd (ldA 2 r1.1 r316.2) fun r317 =>
              bnd (call (fnV 89) [r317.1] r317.2) fun r318 =>
              bnd (oMv r318.1 r318.2) fun r319 =>
              bnd (oExtract r319.1 0 r319.2) fun r320 =>
              bnd (oExtract r319.1 1 r320.2) fun r321 =>
              bnd (oAlloc Try.prog 43 r321.2) fun r322 =>
              bnd (stV 2 r322.1 r320.1 r322.2) fun r323 =>
              bnd (oMv r321.1 r323.2) fun r324 =>
              bnd (ldA 2 r1.1 r324.2) fun r325 =>
              bnd (ldA 2 r314.1 r325.2) fun r326 =>
              bnd (ldA 2 r322.1 r326.2) fun r327 =>
              bnd (oBin Try.prog .eql 43 false false r326.1 r327.1 r327.2) fun r328 =>
              bnd (oMv r328.1 r328.2) fun r329 =>
              bnd (bIf (wnt r329.1 true) (oMv r316.1 r329.2) (some (undef, r329.2))) fun r330 =>
              bnd (bIf (wnt r329.1 true) (oMv r324.1 r330.2) (some (undef, r330.2))) fun r331 =>
              bnd (bIf (wnt r329.1 true) (oBin Try.prog .eql 29 false false r330.1 r331.1 r331.2) (some (undef, r331.2))) fun r332 =>
              bnd (oPick r329.1 r332.1 (.bool false) r332.2) fun r333 =>
              bnd (oMv r333.1 r333.2) fun r334 =>
              bnd (bIf (wnt r334.1 true) (oMv x0 r334.2) (some (undef, r334.2))) fun r335 =>
              bnd (bIf (wnt r334.1 true) (faO 1 r1.1 r335.2) (some (undef, r335.2))) fun r336 =>
              bnd (bIf (wnt r334.1 true) (ldC r336.1 r336.2) (some (undef, r336.2))) fun r337 =>
              bnd (bIf (wnt r334.1 true) (oBuiltin Try.prog .len #[39] 3 #[false] [r337.1] r337.2) (some (undef, r337.2))) fun r338 =>
              bnd (bIf (wnt r334.1 true) (call (fnV 22) [r335.1] r338.2) (some (undef, r338.2))) fun r339 =>
              bIf (agV (wnt r334.1 true) (oBuiltin Try.prog .len #[39] 3 #[false] [r337.1] r339.2) r338.1 && (agV (wnt r334.1 true) (ldC r336.1 r339.2) r337.1 && (agV true (ldA 2 r1.1 r339.2) r325.1 && true))) (bnd (bIf (wnt r334.1 true) (oBin Try.prog .eql 3 false false r339.1 r338.1 r339.2) (some (undef, r339.2))) fun r340 =>
              bnd (oPick r334.1 r340.1 (.bool false) r340.2) fun r341 =>
              bnd (stV 2 r3.1 r325.1 r341.2) fun r342 =>
              bIf (agV (wnt r334.1 true) (oBin Try.prog .eql 3 false false r339.1 r338.1 r342.2) r340.1 && (agV (wnt r334.1 true) (oBuiltin Try.prog .len #[39] 3 #[false] [r337.1] r342.2) r338.1 && (agV (wnt r334.1 true) (ldC r336.1 r342.2) r337.1 && true))) (bnd (oMv r341.1 r342.2) fun r343 =>
              oRes Try.prog [(r3.1, some 91), (r343.1, none)] r343.2) none) none) (
              bnd (oMv x0 r308.2) fun r344 =>
              bnd (faO 2 r2.1 r344.2) fun r345 =>
              bnd (ldC r345.1 r345.2) fun r346 =>
              bnd (call (fnV 20) [r344.1, r346.1] r346.2) fun r347 =>
              bnd (oMv r347.1 r347.2) fun r348 =>
              bnd (oExtract r348.1 0 r348.2) fun r349 =>
              bnd (oExtract r348.1 1 r349.2) fun r350 =>
              bnd (oMv r349.1 r350.2) fun r351 =>
              bnd (oMv r350.1 r351.2) fun r352 =>
              bnd (ldA 2 r1.1 r352.2) fun r353 =>
              bnd (faO 2 r2.1 r353.2) fun r354 =>
              bnd (ldC r354.1 r354.2) fun r355 =>
              bnd (call (fnV 90) [r353.1, r355.1] r355.2) fun r356 =>
              bnd (oMv r356.1 r356.2) fun r357 =>
              bnd (oExtract r357.1 0 r357.2) fun r358 =>
              bnd (oExtract r357.1 1 r358.2) fun r359 =>
              bnd (oExtract r357.1 2 r359.2) fun r360 =>
              bnd (oAlloc Try.prog 91 r360.2) fun r361 =>
              bnd (stV 2 r361.1 r358.1 r361.2) fun r362 =>
              bnd (oMv r359.1 r362.2) fun r363 =>
              bnd (oMv r360.1 r363.2) fun r364 =>
              bnd (ldA 2 r361.1 r364.2) fun r365 =>
              bnd (oMv r351.1 r365.2) fun r366 =>
              bnd (oMv r363.1 r366.2) fun r367 =>
              bnd (call (fnV 46) [r366.1, r367.1] r367.2) fun r368 =>
              bIf (agV true (ldA 2 r361.1 r368.2) r365.1 && true) (bnd (oMv r368.1 r368.2) fun r369 =>
              bnd (bIf (wnt r369.1 true) (oMv r352.1 r369.2) (some (undef, r369.2))) fun r370 =>
              bnd (bIf (wnt r369.1 true) (oMv r364.1 r370.2) (some (undef, r370.2))) fun r371 =>
              bnd (bIf (wnt r369.1 true) (oBin Try.prog .eql 29 false false r370.1 r371.1 r371.2) (some (undef, r371.2))) fun r372 =>
              bnd (oPick r369.1 r372.1 (.bool false) r372.2) fun r373 =>
              bnd (stV 2 r3.1 r365.1 r373.2) fun r374 =>
              bIf (agV (wnt r369.1 true) (oBin Try.prog .eql 29 false false r370.1 r371.1 r374.2) r372.1 && true) (bnd (oMv r373.1 r374.2) fun r375 =>
              oRes Try.prog [(r3.1, some 91), (r375.1, none)] r375.2) none) none))))))
theorem law17_one_eq (call : Eng.Callee) (x0 x1 x2 : Value) (W : AW) : kFun Try.prog call 178 (cod 45) (rss 45) [x0, x1, x2] W = law17_one call x0 x1 x2 W := by kernel_rfl
theorem law17_one_om {x0 x1 x2 : Value} {W : AW} {r : Value × AW} (h : law17_one omS x0 x1 x2 W = some r) : omS (.func (.func 45) #[] #[]) [x0, x1, x2] W = some (gc W r) := om_of (nt := 178) (n := 3) (by kernel_rfl) (by kernel_rfl) rfl ((law17_one_eq omS x0 x1 x2 W).trans h)
noncomputable def ref17_Same_L1 (call : Eng.Callee) (R : Nat → Value) (W : AW) : Option LT :=
  bnd (oMv (R 5) W) fun r9 =>
  bnd (oMv (R 0) r9.2) fun r10 =>
  bnd (oBuiltin Try.prog .len #[39] 3 #[false] [r10.1] r10.2) fun r11 =>
  bnd (oBin Try.prog .lss 3 false false r9.1 r11.1 r11.2) fun r12 =>
  vIf r12.1 (
    bnd (oMv (R 0) r12.2) fun r13 =>
    bnd (oMv (R 5) r13.2) fun r14 =>
    bnd (ixS 2 r13.1 r14.1 r14.2) fun r15 =>
    bnd (ldA 2 r15.1 r15.2) fun r16 =>
    bnd (oMv (R 1) r16.2) fun r17 =>
    bnd (oMv (R 5) r17.2) fun r18 =>
    bnd (ixS 2 r17.1 r18.1 r18.2) fun r19 =>
    bnd (ldA 2 r19.1 r19.2) fun r20 =>
    bnd (oBin Try.prog .neq 43 false false r16.1 r20.1 r20.2) fun r21 =>
    vIf r21.1 (
      bnd (oMv (.bool false) r21.2) fun r22 =>
      some (X.ret, (rput (rput (rput (rput (rput (rput (rput (rput (rput (rput (rput (rput (rput (rput R (some 11) r9.1) (some 12) r10.1) (some 13) r11.1) (some 14) r12.1) (some 17) r13.1) (some 18) r14.1) (some 19) r15.1) (some 20) r16.1) (some 21) r17.1) (some 22) r18.1) (some 23) r19.1) (some 24) r20.1) (some 25) r21.1) (some 4) r22.1), r22.2)) (
      bnd (oMv (R 5) r21.2) fun r23 =>
      bnd (oBin Try.prog .add 3 false true r23.1 (.int .i64 1) r23.2) fun r24 =>
      bnd (oMv r24.1 r24.2) fun r25 =>
      some (X.normal, (rput (rput (rput (rput (rput (rput (rput (rput (rput (rput (rput (rput (rput (rput (rput (rput R (some 11) r9.1) (some 12) r10.1) (some 13) r11.1) (some 14) r12.1) (some 17) r13.1) (some 18) r14.1) (some 19) r15.1) (some 20) r16.1) (some 21) r17.1) (some 22) r18.1) (some 23) r19.1) (some 24) r20.1) (some 25) r21.1) (some 15) r23.1) (some 16) r24.1) (some 5) r25.1), r25.2))) (
    some (X.exit 0, (rput (rput (rput (rput R (some 11) r9.1) (some 12) r10.1) (some 13) r11.1) (some 14) r12.1), r12.2))
noncomputable def ref17_Same (call : Eng.Callee) (x0 x1 : Value) (W : AW) : Option (Value × AW) :=
  bnd (oMv (.bool false) W) fun r1 =>
  bnd (oMv x0 r1.2) fun r2 =>
  bnd (oBuiltin Try.prog .len #[39] 3 #[false] [r2.1] r2.2) fun r3 =>
  bnd (oMv x1 r3.2) fun r4 =>
  bnd (oBuiltin Try.prog .len #[39] 3 #[false] [r4.1] r4.2) fun r5 =>
  bnd (oBin Try.prog .neq 3 false false r3.1 r5.1 r5.2) fun r6 =>
  vIf r6.1 (
    bnd (oMv (.bool false) r6.2) fun r7 =>
    oRes Try.prog [(r7.1, none)] r7.2) (
    bnd (oMv (.int .i64 0) r6.2) fun r8 =>
    bnd (loopO (ref17_Same_L1 call) (rput (rput (rput (rput (rput (rput (rput (argGo 0 [x0, x1] PlanTab.blank) (some 4) r1.1) (some 6) r2.1) (some 7) r3.1) (some 8) r4.1) (some 9) r5.1) (some 10) r6.1) (some 5) r8.1) r8.2) fun r26 =>
    kExit 0 r26.1 (
      bnd (oMv (.bool true) r26.2.2) fun r27 =>
      oRes Try.prog [(r27.1, none)] r27.2) (kRetX r26.1 (
      oRes Try.prog [((r26.2.1 4), none)] r26.2.2)))
theorem ref17_Same_eq (call : Eng.Callee) (x0 x1 : Value) (W : AW) : kFun Try.prog call 26 (cod 46) (rss 46) [x0, x1] W = ref17_Same call x0 x1 W := by kernel_rfl
theorem ref17_Same_om {x0 x1 : Value} {W : AW} {r : Value × AW} (h : ref17_Same omS x0 x1 W = some r) : omS (.func (.func 46) #[] #[]) [x0, x1] W = some (gc W r) := om_of (nt := 26) (n := 2) (by kernel_rfl) (by kernel_rfl) rfl ((ref17_Same_eq omS x0 x1 W).trans h)
noncomputable def holds_Holds_Drop (call : Eng.Callee) (x0 x1 : Value) (W : AW) : Option (Value × AW) :=
  bnd (oMv (.int .i64 0) W) fun r1 =>
  bnd (oMv (.int .i64 0) r1.2) fun r2 =>
  bnd (oMv x0 r2.2) fun r3 =>
  bnd (oMv x1 r3.2) fun r4 =>
  bnd (call (fnV 60) [r3.1, r4.1, (.int .i64 0)] r4.2) fun r5 =>
  bnd (oMv r5.1 r5.2) fun r6 =>
  bnd (oExtract r6.1 0 r6.2) fun r7 =>
  bnd (oExtract r6.1 1 r7.2) fun r8 =>
  bnd (oMv r7.1 r8.2) fun r9 =>
  bnd (oMv r8.1 r9.2) fun r10 =>
  bnd (oMv r10.1 r10.2) fun r11 =>
  bnd (oBin Try.prog .neq 29 false true r11.1 (.int .i64 0) r11.2) fun r12 =>
  vIf r12.1 (
    bnd (oMv r10.1 r12.2) fun r13 =>
    bnd (oMv (.int .i64 0) r13.2) fun r14 =>
    bnd (oMv r13.1 r14.2) fun r15 =>
    oRes Try.prog [(r14.1, none), (r15.1, none)] r15.2) (
    bnd (oMv x0 r12.2) fun r16 =>
    bnd (oNilCheck r16.1 r16.2) fun r17 =>
    bnd (faO 1 r17.1 r17.2) fun r18 =>
    bnd (ldC r18.1 r18.2) fun r19 =>
    bnd (oMv r9.1 r19.2) fun r20 =>
    bnd (call (fnV 91) [r19.1, r20.1] r20.2) fun r21 =>
    bnd (oMv r21.1 r21.2) fun r22 =>
    bnd (oExtract r22.1 0 r22.2) fun r23 =>
    bnd (oExtract r22.1 1 r23.2) fun r24 =>
    bnd (oAlloc Try.prog 43 r24.2) fun r25 =>
    bnd (stV 2 r25.1 r23.1 r25.2) fun r26 =>
    bnd (oMv r24.1 r26.2) fun r27 =>
    bnd (oMv x0 r27.2) fun r28 =>
    bnd (oNilCheck r28.1 r28.2) fun r29 =>
    bnd (faO 2 r29.1 r29.2) fun r30 =>
    bnd (ldC r30.1 r30.2) fun r31 =>
    bnd (oMv x1 r31.2) fun r32 =>
    bnd (oBuiltin Try.prog .delete #[116, 3] 0 #[false, false] [r31.1, r32.1] r32.2) fun r33 =>
    bnd (faO 1 r25.1 r33.2) fun r34 =>
    bnd (ldC r34.1 r34.2) fun r35 =>
    bnd (oMv r27.1 r35.2) fun r36 =>
    bnd (oMv r35.1 r36.2) fun r37 =>
    bnd (oMv r36.1 r37.2) fun r38 =>
    oRes Try.prog [(r37.1, none), (r38.1, none)] r38.2)
theorem holds_Holds_Drop_eq (call : Eng.Callee) (x0 x1 : Value) (W : AW) : kFun Try.prog call 34 (cod 47) (rss 47) [x0, x1] W = holds_Holds_Drop call x0 x1 W := by kernel_rfl
theorem holds_Holds_Drop_om {x0 x1 : Value} {W : AW} {r : Value × AW} (h : holds_Holds_Drop omS x0 x1 W = some r) : omS (.func (.func 47) #[] #[]) [x0, x1] W = some (gc W r) := om_of (nt := 34) (n := 2) (by kernel_rfl) (by kernel_rfl) rfl ((holds_Holds_Drop_eq omS x0 x1 W).trans h)
noncomputable def holds_Holds_Of (call : Eng.Callee) (x0 x1 : Value) (W : AW) : Option (Value × AW) :=
  bnd (oMv (.int .i64 0) W) fun r1 =>
  bnd (oMv (.int .i64 0) r1.2) fun r2 =>
  bnd (oMv x0 r2.2) fun r3 =>
  bnd (oMv x1 r3.2) fun r4 =>
  bnd (call (fnV 60) [r3.1, r4.1, (.int .i64 0)] r4.2) fun r5 =>
  bnd (oMv r5.1 r5.2) fun r6 =>
  bnd (oExtract r6.1 0 r6.2) fun r7 =>
  bnd (oExtract r6.1 1 r7.2) fun r8 =>
  bnd (oMv r7.1 r8.2) fun r9 =>
  bnd (oMv r8.1 r9.2) fun r10 =>
  bnd (oMv r10.1 r10.2) fun r11 =>
  bnd (oBin Try.prog .neq 29 false true r11.1 (.int .i64 0) r11.2) fun r12 =>
  vIf r12.1 (
    bnd (oMv r10.1 r12.2) fun r13 =>
    bnd (oMv (.int .i64 0) r13.2) fun r14 =>
    bnd (oMv r13.1 r14.2) fun r15 =>
    oRes Try.prog [(r14.1, none), (r15.1, none)] r15.2) (
    bnd (oMv x0 r12.2) fun r16 =>
    bnd (oNilCheck r16.1 r16.2) fun r17 =>
    bnd (faO 1 r17.1 r17.2) fun r18 =>
    bnd (ldC r18.1 r18.2) fun r19 =>
    bnd (oMv r9.1 r19.2) fun r20 =>
    bnd (call (fnV 92) [r19.1, r20.1] r20.2) fun r21 =>
    bnd (oMv r21.1 r21.2) fun r22 =>
    bnd (oExtract r22.1 0 r22.2) fun r23 =>
    bnd (oExtract r22.1 1 r23.2) fun r24 =>
    bnd (oAlloc Try.prog 43 r24.2) fun r25 =>
    bnd (stV 2 r25.1 r23.1 r25.2) fun r26 =>
    bnd (oMv r24.1 r26.2) fun r27 =>
    bnd (faO 1 r25.1 r27.2) fun r28 =>
    bnd (ldC r28.1 r28.2) fun r29 =>
    bnd (oMv r27.1 r29.2) fun r30 =>
    bnd (oMv r29.1 r30.2) fun r31 =>
    bnd (oMv r30.1 r31.2) fun r32 =>
    oRes Try.prog [(r31.1, none), (r32.1, none)] r32.2)
theorem holds_Holds_Of_eq (call : Eng.Callee) (x0 x1 : Value) (W : AW) : kFun Try.prog call 29 (cod 48) (rss 48) [x0, x1] W = holds_Holds_Of call x0 x1 W := by kernel_rfl
theorem holds_Holds_Of_om {x0 x1 : Value} {W : AW} {r : Value × AW} (h : holds_Holds_Of omS x0 x1 W = some r) : omS (.func (.func 48) #[] #[]) [x0, x1] W = some (gc W r) := om_of (nt := 29) (n := 2) (by kernel_rfl) (by kernel_rfl) rfl ((holds_Holds_Of_eq omS x0 x1 W).trans h)
noncomputable def holds_Holds_Move (call : Eng.Callee) (x0 x1 x2 : Value) (W : AW) : Option (Value × AW) :=
  bnd (oMv (.int .i64 0) W) fun r1 =>
  bnd (oMv x0 r1.2) fun r2 =>
  bnd (oMv x1 r2.2) fun r3 =>
  bnd (oMv x2 r3.2) fun r4 =>
  bnd (call (fnV 60) [r2.1, r3.1, r4.1] r4.2) fun r5 =>
  bnd (oMv r5.1 r5.2) fun r6 =>
  bnd (oExtract r6.1 0 r6.2) fun r7 =>
  bnd (oExtract r6.1 1 r7.2) fun r8 =>
  bnd (oMv r7.1 r8.2) fun r9 =>
  bnd (oMv r8.1 r9.2) fun r10 =>
  bnd (oMv r10.1 r10.2) fun r11 =>
  bnd (oBin Try.prog .neq 29 false true r11.1 (.int .i64 0) r11.2) fun r12 =>
  vIf r12.1 (
    bnd (oMv r10.1 r12.2) fun r13 =>
    bnd (oMv r13.1 r13.2) fun r14 =>
    oRes Try.prog [(r14.1, none)] r14.2) (
    bnd (oMv x0 r12.2) fun r15 =>
    bnd (oNilCheck r15.1 r15.2) fun r16 =>
    bnd (faO 1 r16.1 r16.2) fun r17 =>
    bnd (ldC r17.1 r17.2) fun r18 =>
    bnd (oMv r9.1 r18.2) fun r19 =>
    bnd (oMv x1 r19.2) fun r20 =>
    bnd (oMv x2 r20.2) fun r21 =>
    bnd (oBuild Try.prog 43 [(0, r20.1), (1, r21.1)] r21.2) fun r22 =>
    bnd (call (fnV 93) [r18.1, r19.1, r22.1] r22.2) fun r23 =>
    bnd (oMv r23.1 r23.2) fun r24 =>
    oRes Try.prog [(r24.1, none)] r24.2)
theorem holds_Holds_Move_eq (call : Eng.Callee) (x0 x1 x2 : Value) (W : AW) : kFun Try.prog call 28 (cod 49) (rss 49) [x0, x1, x2] W = holds_Holds_Move call x0 x1 x2 W := by kernel_rfl
theorem holds_Holds_Move_om {x0 x1 x2 : Value} {W : AW} {r : Value × AW} (h : holds_Holds_Move omS x0 x1 x2 W = some r) : omS (.func (.func 49) #[] #[]) [x0, x1, x2] W = some (gc W r) := om_of (nt := 28) (n := 3) (by kernel_rfl) (by kernel_rfl) rfl ((holds_Holds_Move_eq omS x0 x1 x2 W).trans h)
noncomputable def heaps_Queueapi_HoEntry_All (call : Eng.Callee) (x0 : Value) (W : AW) : Option (Value × AW) :=
  bnd (oBox x0 W) fun r1 =>
  bnd (oMv .nilFunc r1.2) fun r2 =>
  bnd (oMkFunc (.func 109) #[] #[r1.1] r2.2) fun r3 =>
  bnd (oMv r3.1 r3.2) fun r4 =>
  oRes Try.prog [(r4.1, none)] r4.2
theorem heaps_Queueapi_HoEntry_All_eq (call : Eng.Callee) (x0 : Value) (W : AW) : kFun Try.prog call 4 (cod 82) (rss 82) [x0] W = heaps_Queueapi_HoEntry_All call x0 W := by kernel_rfl
theorem heaps_Queueapi_HoEntry_All_om {x0 : Value} {W : AW} {r : Value × AW} (h : heaps_Queueapi_HoEntry_All omS x0 W = some r) : omS (.func (.func 82) #[] #[]) [x0] W = some (gc W r) := om_of (nt := 4) (n := 1) (by kernel_rfl) (by kernel_rfl) rfl ((heaps_Queueapi_HoEntry_All_eq omS x0 W).trans h)
noncomputable def holds_Holds_Save_1 (call : Eng.Callee) (x0 x1 : Value) (W : AW) : Option (Value × AW) :=
  bnd (oBox x0 W) fun r1 =>
  bnd (oBox x1 r1.2) fun r2 =>
  bnd (oMv (.int .i64 0) r2.2) fun r3 =>
  bnd (faO 0 r1.1 r3.2) fun r4 =>
  bnd (ldC r4.1 r4.2) fun r5 =>
  bnd (faO 0 r2.1 r5.2) fun r6 =>
  bnd (ldC r6.1 r6.2) fun r7 =>
  bnd (call (fnV 58) [r5.1, r7.1] r7.2) fun r8 =>
  bnd (oMv r8.1 r8.2) fun r9 =>
  oRes Try.prog [(r9.1, none)] r9.2
theorem holds_Holds_Save_1_eq (call : Eng.Callee) (x0 x1 : Value) (W : AW) : kFun Try.prog call 10 (cod 84) (rss 84) [x0, x1] W = holds_Holds_Save_1 call x0 x1 W := by kernel_rfl
theorem holds_Holds_Save_1_om {x0 x1 : Value} {W : AW} {r : Value × AW} (h : holds_Holds_Save_1 omS x0 x1 W = some r) : omS (.func (.func 84) #[] #[]) [x0, x1] W = some (gc W r) := om_of (nt := 10) (n := 2) (by kernel_rfl) (by kernel_rfl) rfl ((holds_Holds_Save_1_eq omS x0 x1 W).trans h)
theorem holds_Holds_Save_1_om1 {x0 x1 : Value} {W : AW} {r : Value × AW} (h : holds_Holds_Save_1 om1 x0 x1 W = some r) : om1 (.func (.func 84) #[] #[]) [x0, x1] W = some (gc W r) := om_of (nt := 10) (n := 2) (by kernel_rfl) (by kernel_rfl) rfl ((holds_Holds_Save_1_eq om1 x0 x1 W).trans h)
noncomputable def ref17_Put_L1 (call : Eng.Callee) (R : Nat → Value) (W : AW) : Option LT :=
  bnd (oMv (R 9) W) fun r25 =>
  bnd (faO 1 (R 3) r25.2) fun r26 =>
  bnd (ldC r26.1 r26.2) fun r27 =>
  bnd (oBuiltin Try.prog .len #[39] 3 #[false] [r27.1] r27.2) fun r28 =>
  bnd (oBin Try.prog .lss 3 false false r25.1 r28.1 r28.2) fun r29 =>
  bnd (oMv r29.1 r29.2) fun r30 =>
  bnd (bIf (wnt r30.1 true) (faO 1 (R 3) r30.2) (some (undef, r30.2))) fun r31 =>
  bnd (bIf (wnt r30.1 true) (ldC r31.1 r31.2) (some (undef, r31.2))) fun r32 =>
  bnd (bIf (wnt r30.1 true) (oMv (R 9) r32.2) (some (undef, r32.2))) fun r33 =>
  bnd (bIf (wnt r30.1 true) (ixS 2 r32.1 r33.1 r33.2) (some (undef, r33.2))) fun r34 =>
  bnd (bIf (wnt r30.1 true) (faO 0 r34.1 r34.2) (some (undef, r34.2))) fun r35 =>
  bnd (bIf (wnt r30.1 true) (ldC r35.1 r35.2) (some (undef, r35.2))) fun r36 =>
  bnd (bIf (wnt r30.1 true) (oMv (R 1) r36.2) (some (undef, r36.2))) fun r37 =>
  bnd (bIf (wnt r30.1 true) (oBin Try.prog .lss 3 false false r36.1 r37.1 r37.2) (some (undef, r37.2))) fun r38 =>
  bnd (oPick r30.1 r38.1 (.bool false) r38.2) fun r39 =>
  vIf r39.1 (
    bnd (oMv (R 9) r39.2) fun r40 =>
    bnd (oBin Try.prog .add 3 false true r40.1 (.int .i64 1) r40.2) fun r41 =>
    bnd (oMv r41.1 r41.2) fun r42 =>
    some (X.normal, (rput (rput (rput (rput (rput (rput (rput (rput (rput (rput (rput (rput (rput (rput (rput (rput (rput (rput R (some 27) r25.1) (some 28) r26.1) (some 29) r27.1) (some 30) r28.1) (some 31) r29.1) (some 32) r30.1) (some 33) r31.1) (some 34) r32.1) (some 35) r33.1) (some 36) r34.1) (some 37) r35.1) (some 38) r36.1) (some 39) r37.1) (some 40) r38.1) (some 41) r39.1) (some 42) r40.1) (some 43) r41.1) (some 9) r42.1), r42.2)) (
    some (X.exit 0, (rput (rput (rput (rput (rput (rput (rput (rput (rput (rput (rput (rput (rput (rput (rput R (some 27) r25.1) (some 28) r26.1) (some 29) r27.1) (some 30) r28.1) (some 31) r29.1) (some 32) r30.1) (some 33) r31.1) (some 34) r32.1) (some 35) r33.1) (some 36) r34.1) (some 37) r35.1) (some 38) r36.1) (some 39) r37.1) (some 40) r38.1) (some 41) r39.1), r39.2))
noncomputable def ref17_Put_L2 (call : Eng.Callee) (R : Nat → Value) (W : AW) : Option LT :=
  bnd (oMv (R 9) W) fun r74 =>
  bnd (faO 1 (R 3) r74.2) fun r75 =>
  bnd (ldC r75.1 r75.2) fun r76 =>
  bnd (oBuiltin Try.prog .len #[39] 3 #[false] [r76.1] r76.2) fun r77 =>
  bnd (oBin Try.prog .lss 3 false false r74.1 r77.1 r77.2) fun r78 =>
  bnd (oMv r78.1 r78.2) fun r79 =>
  bnd (bIf (wnt r79.1 true) (faO 1 (R 3) r79.2) (some (undef, r79.2))) fun r80 =>
  bnd (bIf (wnt r79.1 true) (ldC r80.1 r80.2) (some (undef, r80.2))) fun r81 =>
  bnd (bIf (wnt r79.1 true) (oMv (R 9) r81.2) (some (undef, r81.2))) fun r82 =>
  bnd (bIf (wnt r79.1 true) (ixS 2 r81.1 r82.1 r82.2) (some (undef, r82.2))) fun r83 =>
  bnd (bIf (wnt r79.1 true) (faO 0 r83.1 r83.2) (some (undef, r83.2))) fun r84 =>
  bnd (bIf (wnt r79.1 true) (ldC r84.1 r84.2) (some (undef, r84.2))) fun r85 =>
  bnd (bIf (wnt r79.1 true) (oMv (R 1) r85.2) (some (undef, r85.2))) fun r86 =>
  bnd (bIf (wnt r79.1 true) (oBin Try.prog .lss 3 false false r85.1 r86.1 r86.2) (some (undef, r86.2))) fun r87 =>
  bnd (oPick r79.1 r87.1 (.bool false) r87.2) fun r88 =>
  vIf r88.1 (
    bnd (oMv (R 9) r88.2) fun r89 =>
    bnd (oBin Try.prog .add 3 false true r89.1 (.int .i64 1) r89.2) fun r90 =>
    bnd (oMv r90.1 r90.2) fun r91 =>
    some (X.normal, (rput (rput (rput (rput (rput (rput (rput (rput (rput (rput (rput (rput (rput (rput (rput (rput (rput (rput R (some 27) r74.1) (some 28) r75.1) (some 29) r76.1) (some 30) r77.1) (some 31) r78.1) (some 32) r79.1) (some 33) r80.1) (some 34) r81.1) (some 35) r82.1) (some 36) r83.1) (some 37) r84.1) (some 38) r85.1) (some 39) r86.1) (some 40) r87.1) (some 41) r88.1) (some 42) r89.1) (some 43) r90.1) (some 9) r91.1), r91.2)) (
    some (X.exit 0, (rput (rput (rput (rput (rput (rput (rput (rput (rput (rput (rput (rput (rput (rput (rput R (some 27) r74.1) (some 28) r75.1) (some 29) r76.1) (some 30) r77.1) (some 31) r78.1) (some 32) r79.1) (some 33) r80.1) (some 34) r81.1) (some 35) r82.1) (some 36) r83.1) (some 37) r84.1) (some 38) r85.1) (some 39) r86.1) (some 40) r87.1) (some 41) r88.1), r88.2))
noncomputable def ref17_Put (call : Eng.Callee) (x0 x1 x2 : Value) (W : AW) : Option (Value × AW) :=
  bnd (oBox x0 W) fun r1 =>
  bnd (oAlloc Try.prog 91 r1.2) fun r2 =>
  bnd (oMv (.int .i64 0) r2.2) fun r3 =>
  bnd (ldA 2 r1.1 r3.2) fun r4 =>
  bnd (oMv x1 r4.2) fun r5 =>
  bnd (oMv x2 r5.2) fun r6 =>
  bnd (call (fnV 113) [r4.1, r5.1, r6.1] r6.2) fun r7 =>
  bnd (oMv r7.1 r7.2) fun r8 =>
  bnd (oMv r8.1 r8.2) fun r9 =>
  bnd (oBin Try.prog .eql 29 false true r9.1 (.int .i64 0) r9.2) fun r10 =>
  bnd (oMv r10.1 r10.2) fun r11 =>
  bnd (bIf (wnt r11.1 true) (ldA 2 r1.1 r11.2) (some (undef, r11.2))) fun r12 =>
  bnd (bIf (wnt r11.1 true) (oMv x1 r12.2) (some (undef, r12.2))) fun r13 =>
  bnd (bIf (wnt r11.1 true) (call (fnV 114) [r12.1, r13.1] r13.2) (some (undef, r13.2))) fun r14 =>
  bnd (bIf (wnt r11.1 true) (oBin Try.prog .geq 3 false true r14.1 (.int .i64 0) r14.2) (some (undef, r14.2))) fun r15 =>
  bnd (oPick r11.1 r15.1 (.bool false) r15.2) fun r16 =>
  vIf r16.1 (
    bnd (oMv (.int .i64 8) r16.2) fun r17 =>
    bnd (oMv r17.1 r17.2) fun r18 =>
    bnd (oBin Try.prog .neq 29 false true r18.1 (.int .i64 0) r18.2) fun r19 =>
    vIf r19.1 (
      bnd (ldA 2 r1.1 r19.2) fun r20 =>
      bnd (oMv r17.1 r20.2) fun r21 =>
      bnd (stV 2 r2.1 r20.1 r21.2) fun r22 =>
      bnd (oMv r21.1 r22.2) fun r23 =>
      oRes Try.prog [(r2.1, some 91), (r23.1, none)] r23.2) (
      bnd (oMv (.int .i64 0) r19.2) fun r24 =>
      bnd (loopO (ref17_Put_L1 call) (rput (rput (rput (rput (rput (rput (rput (rput (rput (rput (rput (rput (rput (rput (rput (rput (rput (rput (rput (rput (argGo 0 [x0, x1, x2] PlanTab.blank) (some 3) r1.1) (some 6) r2.1) (some 7) r3.1) (some 11) r4.1) (some 12) r5.1) (some 13) r6.1) (some 14) r7.1) (some 8) r8.1) (some 15) r9.1) (some 16) r10.1) (some 17) r11.1) (some 18) r12.1) (some 19) r13.1) (some 20) r14.1) (some 21) r15.1) (some 22) r16.1) (some 8) r17.1) (some 23) r18.1) (some 24) r19.1) (some 9) r24.1) r24.2) fun r43 =>
      kExit 0 r43.1 (
        bnd (oMv (r43.2.1 1) r43.2.2) fun r44 =>
        bnd (oMv (r43.2.1 2) r44.2) fun r45 =>
        bnd (oBuild Try.prog 43 [(0, r44.1), (1, r45.1)] r45.2) fun r46 =>
        bnd (oBuildSlice Try.prog 39 1 [(0, r46.1)] r46.2) fun r47 =>
        bnd (faO 1 (r43.2.1 3) r47.2) fun r48 =>
        bnd (ldC r48.1 r48.2) fun r49 =>
        bnd (oMv (r43.2.1 9) r49.2) fun r50 =>
        bnd (oSlice Try.prog 39 r49.1 (some r50.1) none none r50.2) fun r51 =>
        bnd (aAppend Try.prog r51.2 #[39, 39] r47.1 r51.1) fun r52 =>
        bnd (oMv r52.1 r52.2) fun r53 =>
        bnd (oBuildSlice Try.prog 39 0 [] r53.2) fun r54 =>
        bnd (faO 1 (r43.2.1 3) r54.2) fun r55 =>
        bnd (ldC r55.1 r55.2) fun r56 =>
        bnd (oMv (r43.2.1 9) r56.2) fun r57 =>
        bnd (oSlice Try.prog 39 r56.1 none (some r57.1) none r57.2) fun r58 =>
        bnd (aAppend Try.prog r58.2 #[39, 39] r54.1 r58.1) fun r59 =>
        bnd (oMv r53.1 r59.2) fun r60 =>
        bnd (aAppend Try.prog r60.2 #[39, 39] r59.1 r60.1) fun r61 =>
        bnd (faO 1 (r43.2.1 3) r61.2) fun r62 =>
        bnd (stV 1 r62.1 r61.1 r62.2) fun r63 =>
        bnd (ldA 2 (r43.2.1 3) r63.2) fun r64 =>
        bnd (stV 2 (r43.2.1 6) r64.1 r64.2) fun r65 =>
        bnd (oMv (.int .i64 0) r65.2) fun r66 =>
        oRes Try.prog [((r43.2.1 6), some 91), (r66.1, none)] r66.2) (none))) (
    bnd (oMv r8.1 r16.2) fun r67 =>
    bnd (oBin Try.prog .neq 29 false true r67.1 (.int .i64 0) r67.2) fun r68 =>
    vIf r68.1 (
      bnd (ldA 2 r1.1 r68.2) fun r69 =>
      bnd (oMv r8.1 r69.2) fun r70 =>
      bnd (stV 2 r2.1 r69.1 r70.2) fun r71 =>
      bnd (oMv r70.1 r71.2) fun r72 =>
      oRes Try.prog [(r2.1, some 91), (r72.1, none)] r72.2) (
      bnd (oMv (.int .i64 0) r68.2) fun r73 =>
      bnd (loopO (ref17_Put_L2 call) (rput (rput (rput (rput (rput (rput (rput (rput (rput (rput (rput (rput (rput (rput (rput (rput (rput (rput (rput (argGo 0 [x0, x1, x2] PlanTab.blank) (some 3) r1.1) (some 6) r2.1) (some 7) r3.1) (some 11) r4.1) (some 12) r5.1) (some 13) r6.1) (some 14) r7.1) (some 8) r8.1) (some 15) r9.1) (some 16) r10.1) (some 17) r11.1) (some 18) r12.1) (some 19) r13.1) (some 20) r14.1) (some 21) r15.1) (some 22) r16.1) (some 23) r67.1) (some 24) r68.1) (some 9) r73.1) r73.2) fun r92 =>
      kExit 0 r92.1 (
        bnd (oMv (r92.2.1 1) r92.2.2) fun r93 =>
        bnd (oMv (r92.2.1 2) r93.2) fun r94 =>
        bnd (oBuild Try.prog 43 [(0, r93.1), (1, r94.1)] r94.2) fun r95 =>
        bnd (oBuildSlice Try.prog 39 1 [(0, r95.1)] r95.2) fun r96 =>
        bnd (faO 1 (r92.2.1 3) r96.2) fun r97 =>
        bnd (ldC r97.1 r97.2) fun r98 =>
        bnd (oMv (r92.2.1 9) r98.2) fun r99 =>
        bnd (oSlice Try.prog 39 r98.1 (some r99.1) none none r99.2) fun r100 =>
        bnd (aAppend Try.prog r100.2 #[39, 39] r96.1 r100.1) fun r101 =>
        bnd (oMv r101.1 r101.2) fun r102 =>
        bnd (oBuildSlice Try.prog 39 0 [] r102.2) fun r103 =>
        bnd (faO 1 (r92.2.1 3) r103.2) fun r104 =>
        bnd (ldC r104.1 r104.2) fun r105 =>
        bnd (oMv (r92.2.1 9) r105.2) fun r106 =>
        bnd (oSlice Try.prog 39 r105.1 none (some r106.1) none r106.2) fun r107 =>
        bnd (aAppend Try.prog r107.2 #[39, 39] r103.1 r107.1) fun r108 =>
        bnd (oMv r102.1 r108.2) fun r109 =>
        bnd (aAppend Try.prog r109.2 #[39, 39] r108.1 r109.1) fun r110 =>
        bnd (faO 1 (r92.2.1 3) r110.2) fun r111 =>
        bnd (stV 1 r111.1 r110.1 r111.2) fun r112 =>
        bnd (ldA 2 (r92.2.1 3) r112.2) fun r113 =>
        bnd (stV 2 (r92.2.1 6) r113.1 r113.2) fun r114 =>
        bnd (oMv (.int .i64 0) r114.2) fun r115 =>
        oRes Try.prog [((r92.2.1 6), some 91), (r115.1, none)] r115.2) (none)))
theorem ref17_Put_eq (call : Eng.Callee) (x0 x1 x2 : Value) (W : AW) : kFun Try.prog call 63 (cod 85) (rss 85) [x0, x1, x2] W = ref17_Put call x0 x1 x2 W := by kernel_rfl
theorem ref17_Put_om {x0 x1 x2 : Value} {W : AW} {r : Value × AW} (h : ref17_Put omS x0 x1 x2 W = some r) : omS (.func (.func 85) #[] #[]) [x0, x1, x2] W = some (gc W r) := om_of (nt := 63) (n := 3) (by kernel_rfl) (by kernel_rfl) rfl ((ref17_Put_eq omS x0 x1 x2 W).trans h)
noncomputable def ref17_Move (call : Eng.Callee) (x0 x1 x2 : Value) (W : AW) : Option (Value × AW) :=
  bnd (oBox x0 W) fun r1 =>
  bnd (oAlloc Try.prog 91 r1.2) fun r2 =>
  bnd (oMv (.int .i64 0) r2.2) fun r3 =>
  bnd (ldA 2 r1.1 r3.2) fun r4 =>
  bnd (oMv x1 r4.2) fun r5 =>
  bnd (oMv x2 r5.2) fun r6 =>
  bnd (call (fnV 113) [r4.1, r5.1, r6.1] r6.2) fun r7 =>
  bnd (oMv r7.1 r7.2) fun r8 =>
  bnd (oMv r8.1 r8.2) fun r9 =>
  bnd (oBin Try.prog .eql 29 false true r9.1 (.int .i64 0) r9.2) fun r10 =>
  vIf r10.1 (
    bnd (ldA 2 r1.1 r10.2) fun r11 =>
    bnd (oMv x1 r11.2) fun r12 =>
    bnd (call (fnV 88) [r11.1, r12.1] r12.2) fun r13 =>
    bnd (oMv r13.1 r13.2) fun r14 =>
    bnd (oExtract r14.1 0 r14.2) fun r15 =>
    bnd (oExtract r14.1 1 r15.2) fun r16 =>
    bnd (oMv r16.1 r16.2) fun r17 =>
    bnd (oMv r17.1 r17.2) fun r18 =>
    bnd (oBin Try.prog .neq 29 false true r18.1 (.int .i64 0) r18.2) fun r19 =>
    vIf r19.1 (
      bnd (ldA 2 r1.1 r19.2) fun r20 =>
      bnd (oMv r17.1 r20.2) fun r21 =>
      bnd (stV 2 r2.1 r20.1 r21.2) fun r22 =>
      bnd (oMv r21.1 r22.2) fun r23 =>
      oRes Try.prog [(r2.1, some 91), (r23.1, none)] r23.2) (
      bnd (ldA 2 r1.1 r19.2) fun r24 =>
      bnd (ldA 2 r1.1 r24.2) fun r25 =>
      bnd (oMv x1 r25.2) fun r26 =>
      bnd (oMv x1 r26.2) fun r27 =>
      bnd (oMv x2 r27.2) fun r28 =>
      bnd (call (fnV 114) [r25.1, r26.1] r28.2) fun r29 =>
      bIf (agV true (ldA 2 r1.1 r29.2) r24.1 && true) (bnd (call (fnV 115) [r24.1, r29.1] r29.2) fun r30 =>
      bnd (call (fnV 85) [r30.1, r27.1, r28.1] r30.2) fun r31 =>
      bnd (oExtract r31.1 0 r31.2) fun r32 =>
      bnd (oExtract r31.1 1 r32.2) fun r33 =>
      bnd (stV 2 r2.1 r32.1 r33.2) fun r34 =>
      bnd (oMv r33.1 r34.2) fun r35 =>
      oRes Try.prog [(r2.1, some 91), (r35.1, none)] r35.2) none)) (
    bnd (oMv r8.1 r10.2) fun r36 =>
    bnd (oBin Try.prog .neq 29 false true r36.1 (.int .i64 0) r36.2) fun r37 =>
    vIf r37.1 (
      bnd (ldA 2 r1.1 r37.2) fun r38 =>
      bnd (oMv r8.1 r38.2) fun r39 =>
      bnd (stV 2 r2.1 r38.1 r39.2) fun r40 =>
      bnd (oMv r39.1 r40.2) fun r41 =>
      oRes Try.prog [(r2.1, some 91), (r41.1, none)] r41.2) (
      bnd (ldA 2 r1.1 r37.2) fun r42 =>
      bnd (ldA 2 r1.1 r42.2) fun r43 =>
      bnd (oMv x1 r43.2) fun r44 =>
      bnd (oMv x1 r44.2) fun r45 =>
      bnd (oMv x2 r45.2) fun r46 =>
      bnd (call (fnV 114) [r43.1, r44.1] r46.2) fun r47 =>
      bIf (agV true (ldA 2 r1.1 r47.2) r42.1 && true) (bnd (call (fnV 115) [r42.1, r47.1] r47.2) fun r48 =>
      bnd (call (fnV 85) [r48.1, r45.1, r46.1] r48.2) fun r49 =>
      bnd (oExtract r49.1 0 r49.2) fun r50 =>
      bnd (oExtract r49.1 1 r50.2) fun r51 =>
      bnd (stV 2 r2.1 r50.1 r51.2) fun r52 =>
      bnd (oMv r51.1 r52.2) fun r53 =>
      oRes Try.prog [(r2.1, some 91), (r53.1, none)] r53.2) none))
theorem ref17_Move_eq (call : Eng.Callee) (x0 x1 x2 : Value) (W : AW) : kFun Try.prog call 35 (cod 86) (rss 86) [x0, x1, x2] W = ref17_Move call x0 x1 x2 W := by kernel_rfl
theorem ref17_Move_om {x0 x1 x2 : Value} {W : AW} {r : Value × AW} (h : ref17_Move omS x0 x1 x2 W = some r) : omS (.func (.func 86) #[] #[]) [x0, x1, x2] W = some (gc W r) := om_of (nt := 35) (n := 3) (by kernel_rfl) (by kernel_rfl) rfl ((ref17_Move_eq omS x0 x1 x2 W).trans h)
noncomputable def ref17_Drop (call : Eng.Callee) (x0 x1 : Value) (W : AW) : Option (Value × AW) :=
  bnd (oBox x0 W) fun r1 =>
  bnd (oAlloc Try.prog 91 r1.2) fun r2 =>
  bnd (oMv (.int .i64 0) r2.2) fun r3 =>
  bnd (oMv (.int .i64 0) r3.2) fun r4 =>
  bnd (ldA 2 r1.1 r4.2) fun r5 =>
  bnd (oMv x1 r5.2) fun r6 =>
  bnd (call (fnV 88) [r5.1, r6.1] r6.2) fun r7 =>
  bnd (oMv r7.1 r7.2) fun r8 =>
  bnd (oExtract r8.1 0 r8.2) fun r9 =>
  bnd (oExtract r8.1 1 r9.2) fun r10 =>
  bnd (oMv r9.1 r10.2) fun r11 =>
  bnd (oMv r10.1 r11.2) fun r12 =>
  bnd (oMv r12.1 r12.2) fun r13 =>
  bnd (oBin Try.prog .neq 29 false true r13.1 (.int .i64 0) r13.2) fun r14 =>
  vIf r14.1 (
    bnd (ldA 2 r1.1 r14.2) fun r15 =>
    bnd (oMv r12.1 r15.2) fun r16 =>
    bnd (stV 2 r2.1 r15.1 r16.2) fun r17 =>
    bnd (oMv (.int .i64 0) r17.2) fun r18 =>
    bnd (oMv r16.1 r18.2) fun r19 =>
    oRes Try.prog [(r2.1, some 91), (r18.1, none), (r19.1, none)] r19.2) (
    bnd (ldA 2 r1.1 r14.2) fun r20 =>
    bnd (ldA 2 r1.1 r20.2) fun r21 =>
    bnd (oMv x1 r21.2) fun r22 =>
    bnd (oMv r11.1 r22.2) fun r23 =>
    bnd (call (fnV 114) [r21.1, r22.1] r23.2) fun r24 =>
    bIf (agV true (ldA 2 r1.1 r24.2) r20.1 && true) (bnd (call (fnV 115) [r20.1, r24.1] r24.2) fun r25 =>
    bnd (stV 2 r2.1 r25.1 r25.2) fun r26 =>
    bnd (oMv r23.1 r26.2) fun r27 =>
    bnd (oMv (.int .i64 0) r27.2) fun r28 =>
    oRes Try.prog [(r2.1, some 91), (r27.1, none), (r28.1, none)] r28.2) none)
theorem ref17_Drop_eq (call : Eng.Callee) (x0 x1 : Value) (W : AW) : kFun Try.prog call 25 (cod 87) (rss 87) [x0, x1] W = ref17_Drop call x0 x1 W := by kernel_rfl
theorem ref17_Drop_om {x0 x1 : Value} {W : AW} {r : Value × AW} (h : ref17_Drop omS x0 x1 W = some r) : omS (.func (.func 87) #[] #[]) [x0, x1] W = some (gc W r) := om_of (nt := 25) (n := 2) (by kernel_rfl) (by kernel_rfl) rfl ((ref17_Drop_eq omS x0 x1 W).trans h)
noncomputable def ref17_Of (call : Eng.Callee) (x0 x1 : Value) (W : AW) : Option (Value × AW) :=
  bnd (oBox x0 W) fun r1 =>
  bnd (oMv (.int .i64 0) r1.2) fun r2 =>
  bnd (oMv (.int .i64 0) r2.2) fun r3 =>
  bnd (ldA 2 r1.1 r3.2) fun r4 =>
  bnd (oMv x1 r4.2) fun r5 =>
  bnd (call (fnV 113) [r4.1, r5.1, (.int .i64 0)] r5.2) fun r6 =>
  bnd (oMv r6.1 r6.2) fun r7 =>
  bnd (oMv r7.1 r7.2) fun r8 =>
  bnd (oBin Try.prog .neq 29 false true r8.1 (.int .i64 0) r8.2) fun r9 =>
  vIf r9.1 (
    bnd (oMv r7.1 r9.2) fun r10 =>
    bnd (oMv (.int .i64 0) r10.2) fun r11 =>
    bnd (oMv r10.1 r11.2) fun r12 =>
    oRes Try.prog [(r11.1, none), (r12.1, none)] r12.2) (
    bnd (ldA 2 r1.1 r9.2) fun r13 =>
    bnd (oMv x1 r13.2) fun r14 =>
    bnd (call (fnV 114) [r13.1, r14.1] r14.2) fun r15 =>
    bnd (oMv r15.1 r15.2) fun r16 =>
    bnd (oMv r16.1 r16.2) fun r17 =>
    bnd (oBin Try.prog .lss 3 false true r17.1 (.int .i64 0) r17.2) fun r18 =>
    vIf r18.1 (
      bnd (oMv (.int .i64 0) r18.2) fun r19 =>
      bnd (oMv (.int .i64 4) r19.2) fun r20 =>
      oRes Try.prog [(r19.1, none), (r20.1, none)] r20.2) (
      bnd (faO 1 r1.1 r18.2) fun r21 =>
      bnd (ldC r21.1 r21.2) fun r22 =>
      bnd (oMv r16.1 r22.2) fun r23 =>
      bnd (ixS 2 r22.1 r23.1 r23.2) fun r24 =>
      bnd (faO 1 r24.1 r24.2) fun r25 =>
      bnd (ldC r25.1 r25.2) fun r26 =>
      bnd (oMv r26.1 r26.2) fun r27 =>
      bnd (oMv (.int .i64 0) r27.2) fun r28 =>
      oRes Try.prog [(r27.1, none), (r28.1, none)] r28.2))
theorem ref17_Of_eq (call : Eng.Callee) (x0 x1 : Value) (W : AW) : kFun Try.prog call 25 (cod 88) (rss 88) [x0, x1] W = ref17_Of call x0 x1 W := by kernel_rfl
theorem ref17_Of_om {x0 x1 : Value} {W : AW} {r : Value × AW} (h : ref17_Of omS x0 x1 W = some r) : omS (.func (.func 88) #[] #[]) [x0, x1] W = some (gc W r) := om_of (nt := 25) (n := 2) (by kernel_rfl) (by kernel_rfl) rfl ((ref17_Of_eq omS x0 x1 W).trans h)
noncomputable def ref17_Next (call : Eng.Callee) (x0 : Value) (W : AW) : Option (Value × AW) :=
  bnd (oBox x0 W) fun r1 =>
  bnd (oAlloc Try.prog 43 r1.2) fun r2 =>
  bnd (oMv (.int .i64 0) r2.2) fun r3 =>
  bnd (faO 1 r1.1 r3.2) fun r4 =>
  bnd (ldC r4.1 r4.2) fun r5 =>
  bnd (oBuiltin Try.prog .len #[39] 3 #[false] [r5.1] r5.2) fun r6 =>
  bnd (oBin Try.prog .eql 3 false true r6.1 (.int .i64 0) r6.2) fun r7 =>
  vIf r7.1 (
    bnd (oBuild Try.prog 43 [] r7.2) fun r8 =>
    bnd (stV 2 r2.1 r8.1 r8.2) fun r9 =>
    bnd (oMv (.int .i64 4) r9.2) fun r10 =>
    oRes Try.prog [(r2.1, some 43), (r10.1, none)] r10.2) (
    bnd (faO 1 r1.1 r7.2) fun r11 =>
    bnd (ldC r11.1 r11.2) fun r12 =>
    bnd (faO 1 r1.1 r12.2) fun r13 =>
    bnd (ldC r13.1 r13.2) fun r14 =>
    bnd (call (fnV 116) [r14.1] r14.2) fun r15 =>
    bIf (agV true (ldC r11.1 r15.2) r12.1 && true) (bnd (ixS 2 r12.1 r15.1 r15.2) fun r16 =>
    bnd (ldA 2 r16.1 r16.2) fun r17 =>
    bnd (stV 2 r2.1 r17.1 r17.2) fun r18 =>
    bnd (oMv (.int .i64 0) r18.2) fun r19 =>
    oRes Try.prog [(r2.1, some 43), (r19.1, none)] r19.2) none)
theorem ref17_Next_eq (call : Eng.Callee) (x0 : Value) (W : AW) : kFun Try.prog call 16 (cod 89) (rss 89) [x0] W = ref17_Next call x0 W := by kernel_rfl
theorem ref17_Next_om {x0 : Value} {W : AW} {r : Value × AW} (h : ref17_Next omS x0 W = some r) : omS (.func (.func 89) #[] #[]) [x0] W = some (gc W r) := om_of (nt := 16) (n := 1) (by kernel_rfl) (by kernel_rfl) rfl ((ref17_Next_eq omS x0 W).trans h)
noncomputable def ref17_Due_L1 (call : Eng.Callee) (R : Nat → Value) (W : AW) : Option LT :=
  bnd (faO 1 (R 2) W) fun r12 =>
  bnd (ldC r12.1 r12.2) fun r13 =>
  bnd (oBuiltin Try.prog .len #[39] 3 #[false] [r13.1] r13.2) fun r14 =>
  bnd (oBin Try.prog .gtr 3 false true r14.1 (.int .i64 0) r14.2) fun r15 =>
  vIf r15.1 (
    bnd (faO 1 (R 2) r15.2) fun r16 =>
    bnd (ldC r16.1 r16.2) fun r17 =>
    bnd (call (fnV 116) [r17.1] r17.2) fun r18 =>
    bnd (oMv r18.1 r18.2) fun r19 =>
    bnd (faO 1 (R 2) r19.2) fun r20 =>
    bnd (ldC r20.1 r20.2) fun r21 =>
    bnd (oMv r19.1 r21.2) fun r22 =>
    bnd (ixS 2 r21.1 r22.1 r22.2) fun r23 =>
    bnd (faO 1 r23.1 r23.2) fun r24 =>
    bnd (ldC r24.1 r24.2) fun r25 =>
    bnd (oMv (R 1) r25.2) fun r26 =>
    bnd (call (fnV 117) [r25.1, r26.1] r26.2) fun r27 =>
    bnd (oMv r27.1 r27.2) fun r28 =>
    bnd (oExtract r28.1 0 r28.2) fun r29 =>
    bnd (oExtract r28.1 1 r29.2) fun r30 =>
    bnd (oMv r29.1 r30.2) fun r31 =>
    bnd (oMv r30.1 r31.2) fun r32 =>
    bnd (oMv r31.1 r32.2) fun r33 =>
    bnd (oUn Try.prog .not r33.1 r33.2) fun r34 =>
    vIf r34.1 (
      some (X.exit 0, (rput (rput (rput (rput (rput (rput (rput (rput (rput (rput (rput (rput (rput (rput (rput (rput (rput (rput (rput (rput (rput (rput (rput R (some 14) r12.1) (some 15) r13.1) (some 16) r14.1) (some 17) r15.1) (some 18) r16.1) (some 19) r17.1) (some 20) r18.1) (some 8) r19.1) (some 22) r20.1) (some 23) r21.1) (some 24) r22.1) (some 25) r23.1) (some 26) r24.1) (some 27) r25.1) (some 28) r26.1) (some 29) r27.1) (some 21) r28.1) (some 30) r29.1) (some 31) r30.1) (some 9) r31.1) (some 10) r32.1) (some 32) r33.1) (some 33) r34.1), r34.2)) (
      bnd (oMv (R 7) r34.2) fun r35 =>
      bnd (faO 1 (R 2) r35.2) fun r36 =>
      bnd (ldC r36.1 r36.2) fun r37 =>
      bnd (oMv r19.1 r37.2) fun r38 =>
      bnd (ixS 2 r37.1 r38.1 r38.2) fun r39 =>
      bnd (ldA 2 r39.1 r39.2) fun r40 =>
      bnd (oBuildSlice Try.prog 39 1 [(0, r40.1)] r40.2) fun r41 =>
      bnd (aAppend Try.prog r41.2 #[39, 39] r35.1 r41.1) fun r42 =>
      bnd (oMv r42.1 r42.2) fun r43 =>
      bnd (ldA 2 (R 2) r43.2) fun r44 =>
      bnd (oMv r19.1 r44.2) fun r45 =>
      bnd (call (fnV 115) [r44.1, r45.1] r45.2) fun r46 =>
      bnd (stV 2 (R 2) r46.1 r46.2) fun r47 =>
      some (X.normal, (rput (rput (rput (rput (rput (rput (rput (rput (rput (rput (rput (rput (rput (rput (rput (rput (rput (rput (rput (rput (rput (rput (rput (rput (rput (rput (rput (rput (rput (rput (rput (rput (rput (rput (rput R (some 14) r12.1) (some 15) r13.1) (some 16) r14.1) (some 17) r15.1) (some 18) r16.1) (some 19) r17.1) (some 20) r18.1) (some 8) r19.1) (some 22) r20.1) (some 23) r21.1) (some 24) r22.1) (some 25) r23.1) (some 26) r24.1) (some 27) r25.1) (some 28) r26.1) (some 29) r27.1) (some 21) r28.1) (some 30) r29.1) (some 31) r30.1) (some 9) r31.1) (some 10) r32.1) (some 32) r33.1) (some 33) r34.1) (some 34) r35.1) (some 35) r36.1) (some 36) r37.1) (some 37) r38.1) (some 38) r39.1) (some 39) r40.1) (some 40) r41.1) (some 41) r42.1) (some 7) r43.1) (some 42) r44.1) (some 43) r45.1) (some 44) r46.1), r47.2))) (
    some (X.exit 0, (rput (rput (rput (rput R (some 14) r12.1) (some 15) r13.1) (some 16) r14.1) (some 17) r15.1), r15.2))
noncomputable def ref17_Due (call : Eng.Callee) (x0 x1 : Value) (W : AW) : Option (Value × AW) :=
  bnd (oBox x0 W) fun r1 =>
  bnd (oAlloc Try.prog 91 r1.2) fun r2 =>
  bnd (oMv (.slice none 0 0) r2.2) fun r3 =>
  bnd (oMv (.int .i64 0) r3.2) fun r4 =>
  bnd (oMv x1 r4.2) fun r5 =>
  bnd (oBin Try.prog .lss 2 false true r5.1 (.int .i64 0) r5.2) fun r6 =>
  vIf r6.1 (
    bnd (ldA 2 r1.1 r6.2) fun r7 =>
    bnd (stV 2 r2.1 r7.1 r7.2) fun r8 =>
    bnd (oMv (.slice none 0 0) r8.2) fun r9 =>
    bnd (oMv (.int .i64 7) r9.2) fun r10 =>
    oRes Try.prog [(r2.1, some 91), (r9.1, none), (r10.1, none)] r10.2) (
    bnd (oMv (.slice none 0 0) r6.2) fun r11 =>
    bnd (loopO (ref17_Due_L1 call) (rput (rput (rput (rput (rput (rput (rput (argGo 0 [x0, x1] PlanTab.blank) (some 2) r1.1) (some 4) r2.1) (some 5) r3.1) (some 6) r4.1) (some 11) r5.1) (some 12) r6.1) (some 7) r11.1) r11.2) fun r48 =>
    kExit 0 r48.1 (
      bnd (ldA 2 (r48.2.1 2) r48.2.2) fun r49 =>
      bnd (oMv (r48.2.1 7) r49.2) fun r50 =>
      bnd (stV 2 (r48.2.1 4) r49.1 r50.2) fun r51 =>
      bnd (oMv r50.1 r51.2) fun r52 =>
      bnd (oMv (.int .i64 0) r52.2) fun r53 =>
      oRes Try.prog [((r48.2.1 4), some 91), (r52.1, none), (r53.1, none)] r53.2) (none))
theorem ref17_Due_eq (call : Eng.Callee) (x0 x1 : Value) (W : AW) : kFun Try.prog call 47 (cod 90) (rss 90) [x0, x1] W = ref17_Due call x0 x1 W := by kernel_rfl
theorem ref17_Due_om {x0 x1 : Value} {W : AW} {r : Value × AW} (h : ref17_Due omS x0 x1 W = some r) : omS (.func (.func 90) #[] #[]) [x0, x1] W = some (gc W r) := om_of (nt := 47) (n := 2) (by kernel_rfl) (by kernel_rfl) rfl ((ref17_Due_eq omS x0 x1 W).trans h)
noncomputable def heaps_Queueapi_HoEntry_Remove (call : Eng.Callee) (x0 x1 : Value) (W : AW) : Option (Value × AW) :=
  bnd (oAlloc Try.prog 43 W) fun r1 =>
  bnd (oMv (.int .i64 0) r1.2) fun r2 =>
  bnd (oMv x0 r2.2) fun r3 =>
  bnd (oMv x1 r3.2) fun r4 =>
  bnd (call (fnV 118) [r3.1, r4.1] r4.2) fun r5 =>
  bnd (oMv r5.1 r5.2) fun r6 =>
  bnd (oExtract r6.1 0 r6.2) fun r7 =>
  bnd (oExtract r6.1 1 r7.2) fun r8 =>
  bnd (oMv r7.1 r8.2) fun r9 =>
  bnd (oMv r8.1 r9.2) fun r10 =>
  bnd (oMv r10.1 r10.2) fun r11 =>
  bnd (oBin Try.prog .neq 29 false true r11.1 (.int .i64 0) r11.2) fun r12 =>
  vIf r12.1 (
    bnd (ldA 2 r1.1 r12.2) fun r13 =>
    bnd (oMv r10.1 r13.2) fun r14 =>
    bnd (stV 2 r1.1 r13.1 r14.2) fun r15 =>
    bnd (oMv r14.1 r15.2) fun r16 =>
    oRes Try.prog [(r1.1, some 43), (r16.1, none)] r16.2) (
    bnd (oMv x0 r12.2) fun r17 =>
    bnd (oNilCheck r17.1 r17.2) fun r18 =>
    bnd (faO 0 r18.1 r18.2) fun r19 =>
    bnd (oMkIface Try.prog 190 r19.1 r19.2) fun r20 =>
    bnd (oMv r9.1 r20.2) fun r21 =>
    bnd (oNilCheck r21.1 r21.2) fun r22 =>
    bnd (faO 3 r22.1 r22.2) fun r23 =>
    bnd (ldC r23.1 r23.2) fun r24 =>
    bnd (call (fnV 69) [r20.1, r24.1] r24.2) fun r25 =>
    bnd (oMv x0 r25.2) fun r26 =>
    bnd (oNilCheck r26.1 r26.2) fun r27 =>
    bnd (faO 2 r27.1 r27.2) fun r28 =>
    bnd (ldC r28.1 r28.2) fun r29 =>
    bnd (oMv x1 r29.2) fun r30 =>
    bnd (oBuiltin Try.prog .delete #[182, 2] 0 #[false, false] [r29.1, r30.1] r30.2) fun r31 =>
    bnd (oMv r9.1 r31.2) fun r32 =>
    bnd (oNilCheck r32.1 r32.2) fun r33 =>
    bnd (faO 1 r33.1 r33.2) fun r34 =>
    bnd (ldA 2 r34.1 r34.2) fun r35 =>
    bnd (stV 2 r1.1 r35.1 r35.2) fun r36 =>
    bnd (oMv (.int .i64 0) r36.2) fun r37 =>
    oRes Try.prog [(r1.1, some 43), (r37.1, none)] r37.2)
theorem heaps_Queueapi_HoEntry_Remove_eq (call : Eng.Callee) (x0 x1 : Value) (W : AW) : kFun Try.prog call 35 (cod 91) (rss 91) [x0, x1] W = heaps_Queueapi_HoEntry_Remove call x0 x1 W := by kernel_rfl
theorem heaps_Queueapi_HoEntry_Remove_om {x0 x1 : Value} {W : AW} {r : Value × AW} (h : heaps_Queueapi_HoEntry_Remove omS x0 x1 W = some r) : omS (.func (.func 91) #[] #[]) [x0, x1] W = some (gc W r) := om_of (nt := 35) (n := 2) (by kernel_rfl) (by kernel_rfl) rfl ((heaps_Queueapi_HoEntry_Remove_eq omS x0 x1 W).trans h)
noncomputable def heaps_Queueapi_HoEntry_Get (call : Eng.Callee) (x0 x1 : Value) (W : AW) : Option (Value × AW) :=
  bnd (oAlloc Try.prog 43 W) fun r1 =>
  bnd (oMv (.int .i64 0) r1.2) fun r2 =>
  bnd (oMv x0 r2.2) fun r3 =>
  bnd (oMv x1 r3.2) fun r4 =>
  bnd (call (fnV 118) [r3.1, r4.1] r4.2) fun r5 =>
  bnd (oMv r5.1 r5.2) fun r6 =>
  bnd (oExtract r6.1 0 r6.2) fun r7 =>
  bnd (oExtract r6.1 1 r7.2) fun r8 =>
  bnd (oMv r7.1 r8.2) fun r9 =>
  bnd (oMv r8.1 r9.2) fun r10 =>
  bnd (oMv r10.1 r10.2) fun r11 =>
  bnd (oBin Try.prog .neq 29 false true r11.1 (.int .i64 0) r11.2) fun r12 =>
  vIf r12.1 (
    bnd (ldA 2 r1.1 r12.2) fun r13 =>
    bnd (oMv r10.1 r13.2) fun r14 =>
    bnd (stV 2 r1.1 r13.1 r14.2) fun r15 =>
    bnd (oMv r14.1 r15.2) fun r16 =>
    oRes Try.prog [(r1.1, some 43), (r16.1, none)] r16.2) (
    bnd (oMv r9.1 r12.2) fun r17 =>
    bnd (oNilCheck r17.1 r17.2) fun r18 =>
    bnd (faO 1 r18.1 r18.2) fun r19 =>
    bnd (ldA 2 r19.1 r19.2) fun r20 =>
    bnd (stV 2 r1.1 r20.1 r20.2) fun r21 =>
    bnd (oMv (.int .i64 0) r21.2) fun r22 =>
    oRes Try.prog [(r1.1, some 43), (r22.1, none)] r22.2)
theorem heaps_Queueapi_HoEntry_Get_eq (call : Eng.Callee) (x0 x1 : Value) (W : AW) : kFun Try.prog call 21 (cod 92) (rss 92) [x0, x1] W = heaps_Queueapi_HoEntry_Get call x0 x1 W := by kernel_rfl
theorem heaps_Queueapi_HoEntry_Get_om {x0 x1 : Value} {W : AW} {r : Value × AW} (h : heaps_Queueapi_HoEntry_Get omS x0 x1 W = some r) : omS (.func (.func 92) #[] #[]) [x0, x1] W = some (gc W r) := om_of (nt := 21) (n := 2) (by kernel_rfl) (by kernel_rfl) rfl ((heaps_Queueapi_HoEntry_Get_eq omS x0 x1 W).trans h)
noncomputable def heaps_Queueapi_HoEntry_Set (call : Eng.Callee) (x0 x1 x2 : Value) (W : AW) : Option (Value × AW) :=
  bnd (oBox x2 W) fun r1 =>
  bnd (oMv (.int .i64 0) r1.2) fun r2 =>
  bnd (oMv x0 r2.2) fun r3 =>
  bnd (oMv x1 r3.2) fun r4 =>
  bnd (call (fnV 118) [r3.1, r4.1] r4.2) fun r5 =>
  bnd (oMv r5.1 r5.2) fun r6 =>
  bnd (oExtract r6.1 0 r6.2) fun r7 =>
  bnd (oExtract r6.1 1 r7.2) fun r8 =>
  bnd (oMv r7.1 r8.2) fun r9 =>
  bnd (oMv r8.1 r9.2) fun r10 =>
  bnd (oMv r10.1 r10.2) fun r11 =>
  bnd (oBin Try.prog .neq 29 false true r11.1 (.int .i64 0) r11.2) fun r12 =>
  vIf r12.1 (
    bnd (oMv r10.1 r12.2) fun r13 =>
    bnd (oMv r13.1 r13.2) fun r14 =>
    oRes Try.prog [(r14.1, none)] r14.2) (
    bnd (oMv r9.1 r12.2) fun r15 =>
    bnd (ldA 2 r1.1 r15.2) fun r16 =>
    bnd (oNilCheck r15.1 r16.2) fun r17 =>
    bnd (faO 1 r17.1 r17.2) fun r18 =>
    bnd (stV 2 r18.1 r16.1 r18.2) fun r19 =>
    bnd (oMv x0 r19.2) fun r20 =>
    bnd (oNilCheck r20.1 r20.2) fun r21 =>
    bnd (faO 0 r21.1 r21.2) fun r22 =>
    bnd (oMkIface Try.prog 190 r22.1 r22.2) fun r23 =>
    bnd (oMv r9.1 r23.2) fun r24 =>
    bnd (oNilCheck r24.1 r24.2) fun r25 =>
    bnd (faO 3 r25.1 r25.2) fun r26 =>
    bnd (ldC r26.1 r26.2) fun r27 =>
    bnd (call (fnV 71) [r23.1, r27.1] r27.2) fun r28 =>
    bnd (oMv (.int .i64 0) r28.2) fun r29 =>
    oRes Try.prog [(r29.1, none)] r29.2)
theorem heaps_Queueapi_HoEntry_Set_eq (call : Eng.Callee) (x0 x1 x2 : Value) (W : AW) : kFun Try.prog call 31 (cod 93) (rss 93) [x0, x1, x2] W = heaps_Queueapi_HoEntry_Set call x0 x1 x2 W := by kernel_rfl
theorem heaps_Queueapi_HoEntry_Set_om {x0 x1 x2 : Value} {W : AW} {r : Value × AW} (h : heaps_Queueapi_HoEntry_Set omS x0 x1 x2 W = some r) : omS (.func (.func 93) #[] #[]) [x0, x1, x2] W = some (gc W r) := om_of (nt := 31) (n := 3) (by kernel_rfl) (by kernel_rfl) rfl ((heaps_Queueapi_HoEntry_Set_eq omS x0 x1 x2 W).trans h)
noncomputable def heaps_Queueapi_HoEntry_All_1_L1 (call : Eng.Callee) (R : Nat → Value) (W : AW) : Option LT :=
  bnd (oBin Try.prog .lss 3 false false (R 11) (R 10) W) fun r8 =>
  vIf r8.1 (
    bnd (ixS 3 (R 9) (R 11) r8.2) fun r9 =>
    bnd (ldA 3 r9.1 r9.2) fun r10 =>
    bnd (oAlloc Try.prog 205 r10.2) fun r11 =>
    bnd (stV 3 r11.1 r10.1 r11.2) fun r12 =>
    bnd (oMv (R 0) r12.2) fun r13 =>
    bnd (faO 0 r11.1 r13.2) fun r14 =>
    bnd (ldC r14.1 r14.2) fun r15 =>
    bnd (faO 1 r11.1 r15.2) fun r16 =>
    bnd (ldA 2 r16.1 r16.2) fun r17 =>
    bnd (call r13.1 [r15.1, r17.1] r17.2) fun r18 =>
    bnd (oUn Try.prog .not r18.1 r18.2) fun r19 =>
    vIf r19.1 (
      some (X.ret, (rput (rput (rput (rput (rput (rput (rput (rput (rput (rput (rput R (some 12) r8.1) (some 13) r9.1) (some 14) r10.1) (some 4) r11.1) (some 15) r13.1) (some 16) r14.1) (some 17) r15.1) (some 18) r16.1) (some 19) r17.1) (some 20) r18.1) (some 21) r19.1), r19.2)) (
      bnd (oBin Try.prog .add 3 false true (R 11) (.int .i64 1) r19.2) fun r20 =>
      bnd (oMv r20.1 r20.2) fun r21 =>
      some (X.normal, (rput (rput (rput (rput (rput (rput (rput (rput (rput (rput (rput (rput (rput R (some 12) r8.1) (some 13) r9.1) (some 14) r10.1) (some 4) r11.1) (some 15) r13.1) (some 16) r14.1) (some 17) r15.1) (some 18) r16.1) (some 19) r17.1) (some 20) r18.1) (some 21) r19.1) (some 22) r20.1) (some 11) r21.1), r21.2))) (
    some (X.exit 0, (rput R (some 12) r8.1), r8.2))
noncomputable def heaps_Queueapi_HoEntry_All_1 (call : Eng.Callee) (x0 x1 : Value) (W : AW) : Option (Value × AW) :=
  bnd (ldC x1 W) fun r1 =>
  bnd (call (fnV 98) [r1.1] r1.2) fun r2 =>
  bnd (oUn Try.prog .not r2.1 r2.2) fun r3 =>
  vIf r3.1 (
    oRes Try.prog [] r3.2) (
    bnd (ldC x1 r3.2) fun r4 =>
    bnd (call (fnV 110) [r4.1] r4.2) fun r5 =>
    bnd (oBuiltin Try.prog .len #[202] 3 #[false] [r5.1] r5.2) fun r6 =>
    bnd (oMv (.int .i64 0) r6.2) fun r7 =>
    bnd (loopO (heaps_Queueapi_HoEntry_All_1_L1 call) (rput (rput (rput (rput (rput (rput (rput (argGo 0 [x0, x1] PlanTab.blank) (some 5) r1.1) (some 6) r2.1) (some 7) r3.1) (some 8) r4.1) (some 9) r5.1) (some 10) r6.1) (some 11) r7.1) r7.2) fun r22 =>
    kExit 0 r22.1 (
      oRes Try.prog [] r22.2.2) (kRetX r22.1 (
      oRes Try.prog [] r22.2.2)))
theorem heaps_Queueapi_HoEntry_All_1_eq (call : Eng.Callee) (x0 x1 : Value) (W : AW) : kFun Try.prog call 23 (cod 109) (rss 109) [x0, x1] W = heaps_Queueapi_HoEntry_All_1 call x0 x1 W := by kernel_rfl
theorem heaps_Queueapi_HoEntry_All_1_om {x0 x1 : Value} {W : AW} {r : Value × AW} (h : heaps_Queueapi_HoEntry_All_1 omS x0 x1 W = some r) : omS (.func (.func 109) #[] #[x1]) [x0] W = some (gc W r) := om_of (nt := 23) (n := 2) (by kernel_rfl) (by kernel_rfl) rfl ((heaps_Queueapi_HoEntry_All_1_eq omS x0 x1 W).trans h)
noncomputable def heaps_Queueapi_HoEntry_sorted_L1 (call : Eng.Callee) (R : Nat → Value) (W : AW) : Option LT :=
  bnd (oBin Try.prog .lss 3 false false (R 18) (R 17) W) fun r17 =>
  vIf r17.1 (
    bnd (ixS 1 (R 16) (R 18) r17.2) fun r18 =>
    bnd (ldC r18.1 r18.2) fun r19 =>
    bnd (oMv r19.1 r19.2) fun r20 =>
    bnd (oMv (R 4) r20.2) fun r21 =>
    bnd (oMv r20.1 r21.2) fun r22 =>
    bnd (oNilCheck r22.1 r22.2) fun r23 =>
    bnd (faO 0 r23.1 r23.2) fun r24 =>
    bnd (ldC r24.1 r24.2) fun r25 =>
    bnd (oMv r20.1 r25.2) fun r26 =>
    bnd (oNilCheck r26.1 r26.2) fun r27 =>
    bnd (faO 1 r27.1 r27.2) fun r28 =>
    bnd (ldA 2 r28.1 r28.2) fun r29 =>
    bnd (oBuild Try.prog 205 [(0, r25.1), (1, r29.1)] r29.2) fun r30 =>
    bnd (oBuildSlice Try.prog 202 1 [(0, r30.1)] r30.2) fun r31 =>
    bnd (aAppend Try.prog r31.2 #[202, 202] r21.1 r31.1) fun r32 =>
    bnd (oMv r32.1 r32.2) fun r33 =>
    bnd (oBin Try.prog .add 3 false true (R 18) (.int .i64 1) r33.2) fun r34 =>
    bnd (oMv r34.1 r34.2) fun r35 =>
    some (X.normal, (rput (rput (rput (rput (rput (rput (rput (rput (rput (rput (rput (rput (rput (rput (rput (rput (rput (rput (rput R (some 19) r17.1) (some 20) r18.1) (some 21) r19.1) (some 6) r20.1) (some 22) r21.1) (some 23) r22.1) (some 24) r23.1) (some 25) r24.1) (some 26) r25.1) (some 27) r26.1) (some 28) r27.1) (some 29) r28.1) (some 30) r29.1) (some 31) r30.1) (some 32) r31.1) (some 33) r32.1) (some 4) r33.1) (some 34) r34.1) (some 18) r35.1), r35.2)) (
    some (X.exit 0, (rput R (some 19) r17.1), r17.2))
noncomputable def heaps_Queueapi_HoEntry_sorted (call : Eng.Callee) (x0 : Value) (W : AW) : Option (Value × AW) :=
  bnd (oBox x0 W) fun r1 =>
  bnd (oMv (.slice none 0 0) r1.2) fun r2 =>
  bnd (ldC r1.1 r2.2) fun r3 =>
  bnd (oNilCheck r3.1 r3.2) fun r4 =>
  bnd (faO 0 r4.1 r4.2) fun r5 =>
  bnd (faO 0 r5.1 r5.2) fun r6 =>
  bnd (ldC r6.1 r6.2) fun r7 =>
  bnd (call (fnV 121) [r7.1] r7.2) fun r8 =>
  bnd (oMv r8.1 r8.2) fun r9 =>
  bnd (oMv r9.1 r9.2) fun r10 =>
  bnd (oMkFunc (.func 123) #[] #[r1.1] r10.2) fun r11 =>
  bnd (call (fnV 122) [r10.1, r11.1] r11.2) fun r12 =>
  bnd (oMv (.slice none 0 0) r12.2) fun r13 =>
  bnd (oMv r9.1 r13.2) fun r14 =>
  bnd (oBuiltin Try.prog .len #[179] 3 #[false] [r14.1] r14.2) fun r15 =>
  bnd (oMv (.int .i64 0) r15.2) fun r16 =>
  bnd (loopO (heaps_Queueapi_HoEntry_sorted_L1 call) (rput (rput (rput (rput (rput (rput (rput (rput (rput (rput (rput (rput (rput (rput (rput (rput (argGo 0 [x0] PlanTab.blank) (some 1) r1.1) (some 2) r2.1) (some 7) r3.1) (some 8) r4.1) (some 9) r5.1) (some 10) r6.1) (some 11) r7.1) (some 12) r8.1) (some 3) r9.1) (some 13) r10.1) (some 14) r11.1) (some 15) r12.1) (some 4) r13.1) (some 16) r14.1) (some 17) r15.1) (some 18) r16.1) r16.2) fun r36 =>
  kExit 0 r36.1 (
    bnd (oMv (r36.2.1 4) r36.2.2) fun r37 =>
    bnd (oMv r37.1 r37.2) fun r38 =>
    oRes Try.prog [(r38.1, none)] r38.2) (none)
theorem heaps_Queueapi_HoEntry_sorted_eq (call : Eng.Callee) (x0 : Value) (W : AW) : kFun Try.prog call 36 (cod 110) (rss 110) [x0] W = heaps_Queueapi_HoEntry_sorted call x0 W := by kernel_rfl
theorem heaps_Queueapi_HoEntry_sorted_om {x0 : Value} {W : AW} {r : Value × AW} (h : heaps_Queueapi_HoEntry_sorted omS x0 W = some r) : omS (.func (.func 110) #[] #[]) [x0] W = some (gc W r) := om_of (nt := 36) (n := 1) (by kernel_rfl) (by kernel_rfl) rfl ((heaps_Queueapi_HoEntry_sorted_eq omS x0 W).trans h)
noncomputable def ref17_asked (call : Eng.Callee) (x0 x1 x2 : Value) (W : AW) : Option (Value × AW) :=
  bnd (oBox x0 W) fun r1 =>
  bnd (oMv (.int .i64 0) r1.2) fun r2 =>
  bnd (oMv x1 r2.2) fun r3 =>
  bnd (oBin Try.prog .lss 3 false true r3.1 (.int .i64 0) r3.2) fun r4 =>
  bnd (oMv r4.1 r4.2) fun r5 =>
  bnd (bIf (wnt r5.1 false) (oMv x1 r5.2) (some (undef, r5.2))) fun r6 =>
  bnd (bIf (wnt r5.1 false) (faO 0 r1.1 r6.2) (some (undef, r6.2))) fun r7 =>
  bnd (bIf (wnt r5.1 false) (ldC r7.1 r7.2) (some (undef, r7.2))) fun r8 =>
  bnd (bIf (wnt r5.1 false) (oBin Try.prog .geq 3 false false r6.1 r8.1 r8.2) (some (undef, r8.2))) fun r9 =>
  bnd (oPick r5.1 (.bool true) r9.1 r9.2) fun r10 =>
  bnd (oMv r10.1 r10.2) fun r11 =>
  bnd (bIf (wnt r11.1 false) (oMv x2 r11.2) (some (undef, r11.2))) fun r12 =>
  bnd (bIf (wnt r11.1 false) (oBin Try.prog .lss 2 false true r12.1 (.int .i64 0) r12.2) (some (undef, r12.2))) fun r13 =>
  bnd (oPick r11.1 (.bool true) r13.1 r13.2) fun r14 =>
  vIf r14.1 (
    bnd (oMv (.int .i64 7) r14.2) fun r15 =>
    oRes Try.prog [(r15.1, none)] r15.2) (
    bnd (oMv (.int .i64 0) r14.2) fun r16 =>
    oRes Try.prog [(r16.1, none)] r16.2)
theorem ref17_asked_eq (call : Eng.Callee) (x0 x1 x2 : Value) (W : AW) : kFun Try.prog call 19 (cod 113) (rss 113) [x0, x1, x2] W = ref17_asked call x0 x1 x2 W := by kernel_rfl
theorem ref17_asked_om {x0 x1 x2 : Value} {W : AW} {r : Value × AW} (h : ref17_asked omS x0 x1 x2 W = some r) : omS (.func (.func 113) #[] #[]) [x0, x1, x2] W = some (gc W r) := om_of (nt := 19) (n := 3) (by kernel_rfl) (by kernel_rfl) rfl ((ref17_asked_eq omS x0 x1 x2 W).trans h)
noncomputable def ref17_at_L1 (call : Eng.Callee) (R : Nat → Value) (W : AW) : Option LT :=
  bnd (oMv (R 5) W) fun r4 =>
  bnd (faO 1 (R 2) r4.2) fun r5 =>
  bnd (ldC r5.1 r5.2) fun r6 =>
  bnd (oBuiltin Try.prog .len #[39] 3 #[false] [r6.1] r6.2) fun r7 =>
  bnd (oBin Try.prog .lss 3 false false r4.1 r7.1 r7.2) fun r8 =>
  vIf r8.1 (
    bnd (faO 1 (R 2) r8.2) fun r9 =>
    bnd (ldC r9.1 r9.2) fun r10 =>
    bnd (oMv (R 5) r10.2) fun r11 =>
    bnd (ixS 2 r10.1 r11.1 r11.2) fun r12 =>
    bnd (faO 0 r12.1 r12.2) fun r13 =>
    bnd (ldC r13.1 r13.2) fun r14 =>
    bnd (oMv (R 1) r14.2) fun r15 =>
    bnd (oBin Try.prog .eql 3 false false r14.1 r15.1 r15.2) fun r16 =>
    vIf r16.1 (
      bnd (oMv (R 5) r16.2) fun r17 =>
      bnd (oMv r17.1 r17.2) fun r18 =>
      some (X.ret, (rput (rput (rput (rput (rput (rput (rput (rput (rput (rput (rput (rput (rput (rput (rput R (some 6) r4.1) (some 7) r5.1) (some 8) r6.1) (some 9) r7.1) (some 10) r8.1) (some 13) r9.1) (some 14) r10.1) (some 15) r11.1) (some 16) r12.1) (some 17) r13.1) (some 18) r14.1) (some 19) r15.1) (some 20) r16.1) (some 21) r17.1) (some 4) r18.1), r18.2)) (
      bnd (oMv (R 5) r16.2) fun r19 =>
      bnd (oBin Try.prog .add 3 false true r19.1 (.int .i64 1) r19.2) fun r20 =>
      bnd (oMv r20.1 r20.2) fun r21 =>
      some (X.normal, (rput (rput (rput (rput (rput (rput (rput (rput (rput (rput (rput (rput (rput (rput (rput (rput R (some 6) r4.1) (some 7) r5.1) (some 8) r6.1) (some 9) r7.1) (some 10) r8.1) (some 13) r9.1) (some 14) r10.1) (some 15) r11.1) (some 16) r12.1) (some 17) r13.1) (some 18) r14.1) (some 19) r15.1) (some 20) r16.1) (some 11) r19.1) (some 12) r20.1) (some 5) r21.1), r21.2))) (
    some (X.exit 0, (rput (rput (rput (rput (rput R (some 6) r4.1) (some 7) r5.1) (some 8) r6.1) (some 9) r7.1) (some 10) r8.1), r8.2))
noncomputable def ref17_at (call : Eng.Callee) (x0 x1 : Value) (W : AW) : Option (Value × AW) :=
  bnd (oBox x0 W) fun r1 =>
  bnd (oMv (.int .i64 0) r1.2) fun r2 =>
  bnd (oMv (.int .i64 0) r2.2) fun r3 =>
  bnd (loopO (ref17_at_L1 call) (rput (rput (rput (argGo 0 [x0, x1] PlanTab.blank) (some 2) r1.1) (some 4) r2.1) (some 5) r3.1) r3.2) fun r22 =>
  kExit 0 r22.1 (
    bnd (oMv (.int .i64 (-1)) r22.2.2) fun r23 =>
    oRes Try.prog [(r23.1, none)] r23.2) (kRetX r22.1 (
    oRes Try.prog [((r22.2.1 4), none)] r22.2.2))
theorem ref17_at_eq (call : Eng.Callee) (x0 x1 : Value) (W : AW) : kFun Try.prog call 22 (cod 114) (rss 114) [x0, x1] W = ref17_at call x0 x1 W := by kernel_rfl
theorem ref17_at_om {x0 x1 : Value} {W : AW} {r : Value × AW} (h : ref17_at omS x0 x1 W = some r) : omS (.func (.func 114) #[] #[]) [x0, x1] W = some (gc W r) := om_of (nt := 22) (n := 2) (by kernel_rfl) (by kernel_rfl) rfl ((ref17_at_eq omS x0 x1 W).trans h)
noncomputable def ref17_without (call : Eng.Callee) (x0 x1 : Value) (W : AW) : Option (Value × AW) :=
  bnd (oBox x0 W) fun r1 =>
  bnd (oAlloc Try.prog 91 r1.2) fun r2 =>
  bnd (oBuildSlice Try.prog 39 0 [] r2.2) fun r3 =>
  bnd (faO 1 r1.1 r3.2) fun r4 =>
  bnd (ldC r4.1 r4.2) fun r5 =>
  bnd (oMv x1 r5.2) fun r6 =>
  bnd (oSlice Try.prog 39 r5.1 none (some r6.1) none r6.2) fun r7 =>
  bnd (faO 1 r1.1 r7.2) fun r8 =>
  bnd (ldC r8.1 r8.2) fun r9 =>
  bnd (oMv x1 r9.2) fun r10 =>
  bnd (oBin Try.prog .add 3 false true r10.1 (.int .i64 1) r10.2) fun r11 =>
  bnd (oSlice Try.prog 39 r9.1 (some r11.1) none none r11.2) fun r12 =>
  bnd (aAppend Try.prog r12.2 #[39, 39] r3.1 r7.1) fun r13 =>
  bIf (agV true (ldC r8.1 r13.2) r9.1 && true) (bnd (aAppend Try.prog r13.2 #[39, 39] r13.1 r12.1) fun r14 =>
  bnd (faO 1 r1.1 r14.2) fun r15 =>
  bnd (stV 1 r15.1 r14.1 r15.2) fun r16 =>
  bnd (ldA 2 r1.1 r16.2) fun r17 =>
  bnd (stV 2 r2.1 r17.1 r17.2) fun r18 =>
  oRes Try.prog [(r2.1, some 91)] r18.2) none
theorem ref17_without_eq (call : Eng.Callee) (x0 x1 : Value) (W : AW) : kFun Try.prog call 19 (cod 115) (rss 115) [x0, x1] W = ref17_without call x0 x1 W := by kernel_rfl
theorem ref17_without_om {x0 x1 : Value} {W : AW} {r : Value × AW} (h : ref17_without omS x0 x1 W = some r) : omS (.func (.func 115) #[] #[]) [x0, x1] W = some (gc W r) := om_of (nt := 19) (n := 2) (by kernel_rfl) (by kernel_rfl) rfl ((ref17_without_eq omS x0 x1 W).trans h)
noncomputable def ref17_first_L1 (call : Eng.Callee) (R : Nat → Value) (W : AW) : Option LT :=
  bnd (oMv (R 4) W) fun r4 =>
  bnd (oMv (R 0) r4.2) fun r5 =>
  bnd (oBuiltin Try.prog .len #[39] 3 #[false] [r5.1] r5.2) fun r6 =>
  bnd (oBin Try.prog .lss 3 false false r4.1 r6.1 r6.2) fun r7 =>
  vIf r7.1 (
    bnd (oMv (R 0) r7.2) fun r8 =>
    bnd (oMv (R 4) r8.2) fun r9 =>
    bnd (ixS 2 r8.1 r9.1 r9.2) fun r10 =>
    bnd (faO 1 r10.1 r10.2) fun r11 =>
    bnd (ldC r11.1 r11.2) fun r12 =>
    bnd (oMv (R 0) r12.2) fun r13 =>
    bnd (oMv (R 3) r13.2) fun r14 =>
    bnd (ixS 2 r13.1 r14.1 r14.2) fun r15 =>
    bnd (faO 1 r15.1 r15.2) fun r16 =>
    bnd (ldC r16.1 r16.2) fun r17 =>
    bnd (oBin Try.prog .lss 2 false false r12.1 r17.1 r17.2) fun r18 =>
    bnd (oMv r18.1 r18.2) fun r19 =>
    bnd (bIf (wnt r19.1 false) (oMv (R 0) r19.2) (some (undef, r19.2))) fun r20 =>
    bnd (bIf (wnt r19.1 false) (oMv (R 4) r20.2) (some (undef, r20.2))) fun r21 =>
    bnd (bIf (wnt r19.1 false) (ixS 2 r20.1 r21.1 r21.2) (some (undef, r21.2))) fun r22 =>
    bnd (bIf (wnt r19.1 false) (faO 1 r22.1 r22.2) (some (undef, r22.2))) fun r23 =>
    bnd (bIf (wnt r19.1 false) (ldC r23.1 r23.2) (some (undef, r23.2))) fun r24 =>
    bnd (bIf (wnt r19.1 false) (oMv (R 0) r24.2) (some (undef, r24.2))) fun r25 =>
    bnd (bIf (wnt r19.1 false) (oMv (R 3) r25.2) (some (undef, r25.2))) fun r26 =>
    bnd (bIf (wnt r19.1 false) (ixS 2 r25.1 r26.1 r26.2) (some (undef, r26.2))) fun r27 =>
    bnd (bIf (wnt r19.1 false) (faO 1 r27.1 r27.2) (some (undef, r27.2))) fun r28 =>
    bnd (bIf (wnt r19.1 false) (ldC r28.1 r28.2) (some (undef, r28.2))) fun r29 =>
    bnd (bIf (wnt r19.1 false) (oBin Try.prog .eql 2 false false r24.1 r29.1 r29.2) (some (undef, r29.2))) fun r30 =>
    bnd (bIf (wnt r19.1 false) (oMv r30.1 r30.2) (some (undef, r30.2))) fun r31 =>
    bnd (bIf (wnt r31.1 true) (oMv (R 0) r31.2) (some (undef, r31.2))) fun r32 =>
    bnd (bIf (wnt r31.1 true) (oMv (R 4) r32.2) (some (undef, r32.2))) fun r33 =>
    bnd (bIf (wnt r31.1 true) (ixS 2 r32.1 r33.1 r33.2) (some (undef, r33.2))) fun r34 =>
    bnd (bIf (wnt r31.1 true) (faO 0 r34.1 r34.2) (some (undef, r34.2))) fun r35 =>
    bnd (bIf (wnt r31.1 true) (ldC r35.1 r35.2) (some (undef, r35.2))) fun r36 =>
    bnd (bIf (wnt r31.1 true) (oMv (R 0) r36.2) (some (undef, r36.2))) fun r37 =>
    bnd (bIf (wnt r31.1 true) (oMv (R 3) r37.2) (some (undef, r37.2))) fun r38 =>
    bnd (bIf (wnt r31.1 true) (ixS 2 r37.1 r38.1 r38.2) (some (undef, r38.2))) fun r39 =>
    bnd (bIf (wnt r31.1 true) (faO 0 r39.1 r39.2) (some (undef, r39.2))) fun r40 =>
    bnd (bIf (wnt r31.1 true) (ldC r40.1 r40.2) (some (undef, r40.2))) fun r41 =>
    bnd (bIf (wnt r31.1 true) (oBin Try.prog .lss 3 false false r36.1 r41.1 r41.2) (some (undef, r41.2))) fun r42 =>
    bnd (bIf (wnt r19.1 false) (oPick r31.1 r42.1 (.bool false) r42.2) (some (undef, r42.2))) fun r43 =>
    bnd (oPick r19.1 (.bool true) r43.1 r43.2) fun r44 =>
    vIf r44.1 (
      bnd (oMv (R 4) r44.2) fun r45 =>
      bnd (oMv r45.1 r45.2) fun r46 =>
      bnd (oMv (R 4) r46.2) fun r47 =>
      bnd (oBin Try.prog .add 3 false true r47.1 (.int .i64 1) r47.2) fun r48 =>
      bnd (oMv r48.1 r48.2) fun r49 =>
      some (X.normal, (rput (rput (rput (rput (rput (rput (rput (rput (rput (rput (rput (rput (rput (rput (rput (rput (rput (rput (rput (rput (rput (rput (rput (rput (rput (rput (rput (rput (rput (rput (rput (rput (rput (rput (rput (rput (rput (rput (rput (rput (rput (rput (rput (rput (rput (rput R (some 5) r4.1) (some 6) r5.1) (some 7) r6.1) (some 8) r7.1) (some 11) r8.1) (some 12) r9.1) (some 13) r10.1) (some 14) r11.1) (some 15) r12.1) (some 16) r13.1) (some 17) r14.1) (some 18) r15.1) (some 19) r16.1) (some 20) r17.1) (some 21) r18.1) (some 22) r19.1) (some 23) r20.1) (some 24) r21.1) (some 25) r22.1) (some 26) r23.1) (some 27) r24.1) (some 28) r25.1) (some 29) r26.1) (some 30) r27.1) (some 31) r28.1) (some 32) r29.1) (some 33) r30.1) (some 34) r31.1) (some 35) r32.1) (some 36) r33.1) (some 37) r34.1) (some 38) r35.1) (some 39) r36.1) (some 40) r37.1) (some 41) r38.1) (some 42) r39.1) (some 43) r40.1) (some 44) r41.1) (some 45) r42.1) (some 46) r43.1) (some 47) r44.1) (some 48) r45.1) (some 3) r46.1) (some 9) r47.1) (some 10) r48.1) (some 4) r49.1), r49.2)) (
      bnd (oMv (R 4) r44.2) fun r50 =>
      bnd (oBin Try.prog .add 3 false true r50.1 (.int .i64 1) r50.2) fun r51 =>
      bnd (oMv r51.1 r51.2) fun r52 =>
      some (X.normal, (rput (rput (rput (rput (rput (rput (rput (rput (rput (rput (rput (rput (rput (rput (rput (rput (rput (rput (rput (rput (rput (rput (rput (rput (rput (rput (rput (rput (rput (rput (rput (rput (rput (rput (rput (rput (rput (rput (rput (rput (rput (rput (rput (rput R (some 5) r4.1) (some 6) r5.1) (some 7) r6.1) (some 8) r7.1) (some 11) r8.1) (some 12) r9.1) (some 13) r10.1) (some 14) r11.1) (some 15) r12.1) (some 16) r13.1) (some 17) r14.1) (some 18) r15.1) (some 19) r16.1) (some 20) r17.1) (some 21) r18.1) (some 22) r19.1) (some 23) r20.1) (some 24) r21.1) (some 25) r22.1) (some 26) r23.1) (some 27) r24.1) (some 28) r25.1) (some 29) r26.1) (some 30) r27.1) (some 31) r28.1) (some 32) r29.1) (some 33) r30.1) (some 34) r31.1) (some 35) r32.1) (some 36) r33.1) (some 37) r34.1) (some 38) r35.1) (some 39) r36.1) (some 40) r37.1) (some 41) r38.1) (some 42) r39.1) (some 43) r40.1) (some 44) r41.1) (some 45) r42.1) (some 46) r43.1) (some 47) r44.1) (some 9) r50.1) (some 10) r51.1) (some 4) r52.1), r52.2))) (
    some (X.exit 0, (rput (rput (rput (rput R (some 5) r4.1) (some 6) r5.1) (some 7) r6.1) (some 8) r7.1), r7.2))
noncomputable def ref17_first (call : Eng.Callee) (x0 : Value) (W : AW) : Option (Value × AW) :=
  bnd (oMv (.int .i64 0) W) fun r1 =>
  bnd (oMv (.int .i64 0) r1.2) fun r2 =>
  bnd (oMv (.int .i64 1) r2.2) fun r3 =>
  bnd (loopO (ref17_first_L1 call) (rput (rput (rput (argGo 0 [x0] PlanTab.blank) (some 2) r1.1) (some 3) r2.1) (some 4) r3.1) r3.2) fun r53 =>
  kExit 0 r53.1 (
    bnd (oMv (r53.2.1 3) r53.2.2) fun r54 =>
    bnd (oMv r54.1 r54.2) fun r55 =>
    oRes Try.prog [(r55.1, none)] r55.2) (none)
theorem ref17_first_eq (call : Eng.Callee) (x0 : Value) (W : AW) : kFun Try.prog call 50 (cod 116) (rss 116) [x0] W = ref17_first call x0 W := by kernel_rfl
theorem ref17_first_om {x0 : Value} {W : AW} {r : Value × AW} (h : ref17_first omS x0 W = some r) : omS (.func (.func 116) #[] #[]) [x0] W = some (gc W r) := om_of (nt := 50) (n := 1) (by kernel_rfl) (by kernel_rfl) rfl ((ref17_first_eq omS x0 W).trans h)
noncomputable def ref05_Passed (call : Eng.Callee) (x0 x1 : Value) (W : AW) : Option (Value × AW) :=
  bnd (oMv (.bool false) W) fun r1 =>
  bnd (oMv (.int .i64 0) r1.2) fun r2 =>
  bnd (oMv x0 r2.2) fun r3 =>
  bnd (oMv x1 r3.2) fun r4 =>
  bnd (call (fnV 135) [r3.1, r4.1] r4.2) fun r5 =>
  bnd (oMv r5.1 r5.2) fun r6 =>
  bnd (oMv r6.1 r6.2) fun r7 =>
  bnd (oBin Try.prog .eql 29 false true r7.1 (.int .i64 0) r7.2) fun r8 =>
  bnd (oMv r8.1 r8.2) fun r9 =>
  bnd (bIf (wnt r9.1 true) (oMv x0 r9.2) (some (undef, r9.2))) fun r10 =>
  bnd (bIf (wnt r9.1 true) (oMv x1 r10.2) (some (undef, r10.2))) fun r11 =>
  bnd (bIf (wnt r9.1 true) (oBin Try.prog .leq 2 false false r10.1 r11.1 r11.2) (some (undef, r11.2))) fun r12 =>
  bnd (oPick r9.1 r12.1 (.bool false) r12.2) fun r13 =>
  bnd (oMv r6.1 r13.2) fun r14 =>
  bnd (oMv r13.1 r14.2) fun r15 =>
  bnd (oMv r14.1 r15.2) fun r16 =>
  oRes Try.prog [(r15.1, none), (r16.1, none)] r16.2
theorem ref05_Passed_eq (call : Eng.Callee) (x0 x1 : Value) (W : AW) : kFun Try.prog call 18 (cod 117) (rss 117) [x0, x1] W = ref05_Passed call x0 x1 W := by kernel_rfl
theorem ref05_Passed_om {x0 x1 : Value} {W : AW} {r : Value × AW} (h : ref05_Passed omS x0 x1 W = some r) : omS (.func (.func 117) #[] #[]) [x0, x1] W = some (gc W r) := om_of (nt := 18) (n := 2) (by kernel_rfl) (by kernel_rfl) rfl ((ref05_Passed_eq omS x0 x1 W).trans h)
noncomputable def heaps_Queueapi_HoEntry_find (call : Eng.Callee) (x0 x1 : Value) (W : AW) : Option (Value × AW) :=
  bnd (oMv (.pointer none) W) fun r1 =>
  bnd (oMv (.int .i64 0) r1.2) fun r2 =>
  bnd (oMv x0 r2.2) fun r3 =>
  bnd (call (fnV 98) [r3.1] r3.2) fun r4 =>
  bnd (oUn Try.prog .not r4.1 r4.2) fun r5 =>
  vIf r5.1 (
    bnd (oMv (.pointer none) r5.2) fun r6 =>
    bnd (oMv (.int .i64 1) r6.2) fun r7 =>
    oRes Try.prog [(r6.1, none), (r7.1, none)] r7.2) (
    bnd (oMv x0 r5.2) fun r8 =>
    bnd (oNilCheck r8.1 r8.2) fun r9 =>
    bnd (faO 2 r9.1 r9.2) fun r10 =>
    bnd (ldC r10.1 r10.2) fun r11 =>
    bnd (oMv x1 r11.2) fun r12 =>
    bnd (oLookup Try.prog 182 r11.1 r12.1 true r12.2) fun r13 =>
    bnd (oMv r13.1 r13.2) fun r14 =>
    bnd (oExtract r14.1 0 r14.2) fun r15 =>
    bnd (oExtract r14.1 1 r15.2) fun r16 =>
    bnd (oMv r15.1 r16.2) fun r17 =>
    bnd (oMv r16.1 r17.2) fun r18 =>
    bnd (oMv r18.1 r18.2) fun r19 =>
    bnd (oUn Try.prog .not r19.1 r19.2) fun r20 =>
    vIf r20.1 (
      bnd (oMv (.pointer none) r20.2) fun r21 =>
      bnd (oMv (.int .i64 4) r21.2) fun r22 =>
      oRes Try.prog [(r21.1, none), (r22.1, none)] r22.2) (
      bnd (oMv r17.1 r20.2) fun r23 =>
      bnd (oMv r23.1 r23.2) fun r24 =>
      bnd (oMv (.int .i64 0) r24.2) fun r25 =>
      oRes Try.prog [(r24.1, none), (r25.1, none)] r25.2))
theorem heaps_Queueapi_HoEntry_find_eq (call : Eng.Callee) (x0 x1 : Value) (W : AW) : kFun Try.prog call 23 (cod 118) (rss 118) [x0, x1] W = heaps_Queueapi_HoEntry_find call x0 x1 W := by kernel_rfl
theorem heaps_Queueapi_HoEntry_find_om {x0 x1 : Value} {W : AW} {r : Value × AW} (h : heaps_Queueapi_HoEntry_find omS x0 x1 W = some r) : omS (.func (.func 118) #[] #[]) [x0, x1] W = some (gc W r) := om_of (nt := 23) (n := 2) (by kernel_rfl) (by kernel_rfl) rfl ((heaps_Queueapi_HoEntry_find_eq omS x0 x1 W).trans h)
noncomputable def slices_Cloneheaps_entryapi_HoEntryheaps_entryapi_HoEntry (call : Eng.Callee) (x0 : Value) (W : AW) : Option (Value × AW) :=
  bnd (oMv (.slice none 0 0) W) fun r1 =>
  bnd (oMv x0 r1.2) fun r2 =>
  bnd (oBin Try.prog .eql 179 false true r2.1 (.slice none 0 0) r2.2) fun r3 =>
  vIf r3.1 (
    bnd (oMv (.slice none 0 0) r3.2) fun r4 =>
    oRes Try.prog [(r4.1, none)] r4.2) (
    bnd (oBuildSlice Try.prog 179 0 [] r3.2) fun r5 =>
    bnd (oMv x0 r5.2) fun r6 =>
    bnd (aAppend Try.prog r6.2 #[179, 179] r5.1 r6.1) fun r7 =>
    bnd (oMv r7.1 r7.2) fun r8 =>
    oRes Try.prog [(r8.1, none)] r8.2)
theorem slices_Cloneheaps_entryapi_HoEntryheaps_entryapi_HoEntry_eq (call : Eng.Callee) (x0 : Value) (W : AW) : kFun Try.prog call 8 (cod 121) (rss 121) [x0] W = slices_Cloneheaps_entryapi_HoEntryheaps_entryapi_HoEntry call x0 W := by kernel_rfl
theorem slices_Cloneheaps_entryapi_HoEntryheaps_entryapi_HoEntry_om {x0 : Value} {W : AW} {r : Value × AW} (h : slices_Cloneheaps_entryapi_HoEntryheaps_entryapi_HoEntry omS x0 W = some r) : omS (.func (.func 121) #[] #[]) [x0] W = some (gc W r) := om_of (nt := 8) (n := 1) (by kernel_rfl) (by kernel_rfl) rfl ((slices_Cloneheaps_entryapi_HoEntryheaps_entryapi_HoEntry_eq omS x0 W).trans h)
noncomputable def ref05_both (call : Eng.Callee) (x0 x1 : Value) (W : AW) : Option (Value × AW) :=
  bnd (oMv (.int .i64 0) W) fun r1 =>
  bnd (oMv x0 r1.2) fun r2 =>
  bnd (oBin Try.prog .lss 2 false true r2.1 (.int .i64 0) r2.2) fun r3 =>
  bnd (oMv r3.1 r3.2) fun r4 =>
  bnd (bIf (wnt r4.1 false) (oMv x1 r4.2) (some (undef, r4.2))) fun r5 =>
  bnd (bIf (wnt r4.1 false) (oBin Try.prog .lss 2 false true r5.1 (.int .i64 0) r5.2) (some (undef, r5.2))) fun r6 =>
  bnd (oPick r4.1 (.bool true) r6.1 r6.2) fun r7 =>
  vIf r7.1 (
    bnd (oMv (.int .i64 7) r7.2) fun r8 =>
    oRes Try.prog [(r8.1, none)] r8.2) (
    bnd (oMv (.int .i64 0) r7.2) fun r9 =>
    oRes Try.prog [(r9.1, none)] r9.2)
theorem ref05_both_eq (call : Eng.Callee) (x0 x1 : Value) (W : AW) : kFun Try.prog call 11 (cod 135) (rss 135) [x0, x1] W = ref05_both call x0 x1 W := by kernel_rfl
theorem ref05_both_om {x0 x1 : Value} {W : AW} {r : Value × AW} (h : ref05_both omS x0 x1 W = some r) : omS (.func (.func 135) #[] #[]) [x0, x1] W = some (gc W r) := om_of (nt := 11) (n := 2) (by kernel_rfl) (by kernel_rfl) rfl ((ref05_both_eq omS x0 x1 W).trans h)
end Go.Proofs.Ytkpgmabebjmahaa
