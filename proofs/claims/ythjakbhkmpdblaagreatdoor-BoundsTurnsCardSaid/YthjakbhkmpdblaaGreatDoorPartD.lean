/- A part: contracts and laws. -/
import Derived.Test.YthjakbhkmpdblaaGreatDoorPartC
import Derived.Test.YthjakbhkmpdblaaGreatDoorChecked
set_option linter.unusedVariables false
set_option maxRecDepth 100000
namespace Go.Proofs.YthjakbhkmpdblaaGreatDoor
open Go Go.Eng
noncomputable instance opens : PlanTab := funTab (fun id ops => T.get (path (planKey id ops)) tab) [0]
noncomputable def cod (i : Nat) : Code := bodyAt Tryz.prog i
def nameC (c : UInt8) : Bool := decide (97 ≤ c.toNat) && decide (c.toNat ≤ 122) || decide (48 ≤ c.toNat) && decide (c.toNat ≤ 57) || c.toNat == 45
def nameL (l : List UInt8) : Bool := match l with
  | [] => false
  | c :: _ => decide (97 ≤ c.toNat) && decide (c.toNat ≤ 122) && decide (l.length ≤ 16) && l.all nameC
def shownV : List Value → Option Value
  | [] => some (.bool true)
  | _ => none
def bads : List Nat := [2, 6, 21, 102, 155, 156, 158, 274, 373]
noncomputable def specs : Eng.Callee := specL [(6, memoV 6 globW shownV), (21, chk 21), (102, sortC 102)]
noncomputable def omS : Eng.Callee := om Tryz.prog bads specs
abbrev GW (W : AW) : Prop := GlobW globW W
theorem GW.cells {W : AW} (h : GW W) : cellsAt W 0 = some usesV := cellsAt_ro (h (0, usesV) (by simp [globW])).1
theorem GW.pos {W : AW} (h : GW W) : 0 < W.next := (h (0, usesV) (by simp [globW])).2
theorem shown_ok {W : AW} (h : GW W) : omS (.func (.func 6) #[] #[]) [] W = some (.bool true, W) := by
  have h0 : memoV 6 globW shownV (.func (.func 6) #[] #[]) [] W = some (.bool true, W) := memoV_at h rfl rfl rfl
  have h1 : specs (.func (.func 6) #[] #[]) [] W = some (.bool true, W) := h0
  have h2 := om_spec (P := Tryz.prog) (bad := bads) (spec := specs) (i := 6) (by decide) h1
  rw [gc_bool (.refl _)] at h2
  exact h2
theorem sort_ok {W W' : AW} {args : List Value} (h : SortArgs W args W') : omS (.func (.func 102) #[] #[]) args W = some (.tuple #[], W') := by
  have h0 : sortC 102 (.func (.func 102) #[] #[]) args W = some (.tuple #[], W') := sortC_at h
  have h1 : specs (.func (.func 102) #[] #[]) args W = some (.tuple #[], W') := h0
  have h2 := om_spec (P := Tryz.prog) (bad := bads) (spec := specs) (i := 102) (by decide) h1
  rw [gc_not rfl] at h2
  exact h2
def chkE (k ow un se sc n to t1 t2 t3 t4 nw : Int) : Int := if k < 1 ∨ 12 < k then 2 else errOp ow un se sc n to t1 t2 t3 t4 nw (useL.getD k.toNat 0)
theorem planCheck_ok (k ow un se sc n to t1 t2 t3 t4 nw : Int) {W : AW} (h : GW W) : omS (.func (.func 21) #[] #[]) [.agg (opArr k ow un se sc n to t1 t2 t3 t4 nw)] W = some (.int .i64 (chkE k ow un se sc n to t1 t2 t3 t4 nw), W) := by
  have h1 : specs (.func (.func 21) #[] #[]) [.agg (opArr k ow un se sc n to t1 t2 t3 t4 nw)] W = some (.int .i64 (chkE k ow un se sc n to t1 t2 t3 t4 nw), W) := by
    show chk 21 (.func (.func 21) #[] #[]) [.agg (opArr k ow un se sc n to t1 t2 t3 t4 nw)] W = _
    unfold chk opArr
    simp only [Nat.beq_refl, Array.isEmpty_empty, Bool.and_self, chkArgs]
    unfold chkE
    by_cases hk : k < 1 ∨ 12 < k
    · have hd : (decide (k < 1) || decide (12 < k)) = true := by simpa using hk
      rw [if_pos hk]
      simp only [hd]
    · have hd : (decide (k < 1) || decide (12 < k)) = false := by simp; omega
      rw [if_neg hk]
      simp only [hd, (h (0, usesV) (by simp [globW])).1]
      have hk2 : k.toNat < 13 := by omega
      have : usesV[k.toNat]? = some (.int .i64 (useL.getD k.toNat 0)) := by
        unfold usesV
        rw [List.getElem?_map]
        have h13 : useL.length = 13 := rfl
        rw [List.getElem?_eq_getElem (by omega), List.getD_eq_getElem?_getD, List.getElem?_eq_getElem (by omega)]
        rfl
      simp only [this]
  have h2 := om_spec (P := Tryz.prog) (bad := bads) (spec := specs) (i := 21) (by decide) h1
  rw [gc_int (.refl _)] at h2
  exact h2
theorem oBinAddT (W : AW) (a b : Int) (h1 : -9223372036854775808 ≤ a + b := by omega) (h2 : a + b < 9223372036854775808 := by omega) : oBin Tryz.prog .add 3 false true (.int .i64 a) (.int .i64 b) W = some (.int .i64 (a + b), W) := oBin_add h1 h2
theorem oBinAddF (W : AW) (a b : Int) (h1 : -9223372036854775808 ≤ a + b := by omega) (h2 : a + b < 9223372036854775808 := by omega) : oBin Tryz.prog .add 3 false false (.int .i64 a) (.int .i64 b) W = some (.int .i64 (a + b), W) := oBin_add h1 h2
theorem oBinSubT (W : AW) (a b : Int) (h1 : -9223372036854775808 ≤ a - b := by omega) (h2 : a - b < 9223372036854775808 := by omega) : oBin Tryz.prog .sub 3 false true (.int .i64 a) (.int .i64 b) W = some (.int .i64 (a - b), W) := oBin_sub h1 h2
theorem oBinSubF (W : AW) (a b : Int) (h1 : -9223372036854775808 ≤ a - b := by omega) (h2 : a - b < 9223372036854775808 := by omega) : oBin Tryz.prog .sub 3 false false (.int .i64 a) (.int .i64 b) W = some (.int .i64 (a - b), W) := oBin_sub h1 h2
noncomputable def ref22_Check_J1 (call : Eng.Callee) (J1 J3 : Value) (W : AW) : Option (Value × AW) := bnd (ldA 12 J3 W) fun r9=>bnd (ldA 12 J1 r9.2) fun r10=>bnd (oBin Tryz.prog .neq 56 false false r9.1 r10.1 r10.2) fun r11=>vIf r11.1 (oRes Tryz.prog [((.int .i64 2), none)] r11.2) (oRes Tryz.prog [((.int .i64 0), none)] r11.2)
noncomputable def ref22_Check_J2 (call : Eng.Callee) (J1 J3 J8 J72 : Value) (W : AW) : Option (Value × AW) := vIf J72 (bnd (faO 1 J1 W) fun r81=>bnd (ldC r81.1 r81.2) fun r82=>bnd (faO 2 J1 r82.2) fun r83=>bnd (ldC r83.1 r83.2) fun r84=>bnd (faO 4 J1 r84.2) fun r85=>bnd (ldC r85.1 r85.2) fun r86=>bnd (faO 1 J3 r86.2) fun r87=>bnd (stV 1 r87.1 r82.1 r87.2) fun r88=>bIf (agV true (ldC r85.1 r88.2) r86.1 && (agV true (ldC r83.1 r88.2) r84.1 && true)) (bnd (faO 2 J3 r88.2) fun r89=>bnd (stV 1 r89.1 r84.1 r89.2) fun r90=>bIf (agV true (ldC r85.1 r90.2) r86.1 && true) (bnd (faO 4 J3 r90.2) fun r91=>bnd (stV 1 r91.1 r86.1 r91.2) fun r92=>ref22_Check_J1 call J1 J3 r92.2) none) none) (bnd (oBin Tryz.prog .eql 3 false true J8 (.int .i64 12) W) fun r93=>vIf r93.1 (bnd (faO 11 J1 r93.2) fun r94=>bnd (ldC r94.1 r94.2) fun r95=>bnd (faO 11 J3 r95.2) fun r96=>bnd (stV 1 r96.1 r95.1 r96.2) fun r97=>ref22_Check_J1 call J1 J3 r97.2) (oRes Tryz.prog [((.int .i64 2), none)] r93.2))
noncomputable def ref22_Check_J3 (call : Eng.Callee) (J1 J3 J8 J14 : Value) (W : AW) : Option (Value × AW) := vIf J14 (bnd (faO 1 J1 W) fun r17=>bnd (ldC r17.1 r17.2) fun r18=>bnd (faO 2 J1 r18.2) fun r19=>bnd (ldC r19.1 r19.2) fun r20=>bnd (faO 3 J1 r20.2) fun r21=>bnd (ldC r21.1 r21.2) fun r22=>bnd (faO 1 J3 r22.2) fun r23=>bnd (stV 1 r23.1 r18.1 r23.2) fun r24=>bIf (agV true (ldC r21.1 r24.2) r22.1 && (agV true (ldC r19.1 r24.2) r20.1 && true)) (bnd (faO 2 J3 r24.2) fun r25=>bnd (stV 1 r25.1 r20.1 r25.2) fun r26=>bIf (agV true (ldC r21.1 r26.2) r22.1 && true) (bnd (faO 3 J3 r26.2) fun r27=>bnd (stV 1 r27.1 r22.1 r27.2) fun r28=>ref22_Check_J1 call J1 J3 r28.2) none) none) (bnd (oBin Tryz.prog .eql 3 false true J8 (.int .i64 3) W) fun r29=>vIf r29.1 (bnd (faO 1 J1 r29.2) fun r30=>bnd (ldC r30.1 r30.2) fun r31=>bnd (faO 2 J1 r31.2) fun r32=>bnd (ldC r32.1 r32.2) fun r33=>bnd (faO 4 J1 r33.2) fun r34=>bnd (ldC r34.1 r34.2) fun r35=>bnd (faO 5 J1 r35.2) fun r36=>bnd (ldC r36.1 r36.2) fun r37=>bnd (faO 1 J3 r37.2) fun r38=>bnd (stV 1 r38.1 r31.1 r38.2) fun r39=>bIf (agV true (ldC r36.1 r39.2) r37.1 && (agV true (ldC r34.1 r39.2) r35.1 && (agV true (ldC r32.1 r39.2) r33.1 && true))) (bnd (faO 2 J3 r39.2) fun r40=>bnd (stV 1 r40.1 r33.1 r40.2) fun r41=>bIf (agV true (ldC r36.1 r41.2) r37.1 && (agV true (ldC r34.1 r41.2) r35.1 && true)) (bnd (faO 4 J3 r41.2) fun r42=>bnd (stV 1 r42.1 r35.1 r42.2) fun r43=>bIf (agV true (ldC r36.1 r43.2) r37.1 && true) (bnd (faO 5 J3 r43.2) fun r44=>bnd (stV 1 r44.1 r37.1 r44.2) fun r45=>ref22_Check_J1 call J1 J3 r45.2) none) none) none) (bnd (oBin Tryz.prog .eql 3 false true J8 (.int .i64 6) r29.2) fun r46=>vIf r46.1 (bnd (faO 1 J1 r46.2) fun r47=>bnd (ldC r47.1 r47.2) fun r48=>bnd (faO 2 J1 r48.2) fun r49=>bnd (ldC r49.1 r49.2) fun r50=>bnd (faO 6 J1 r50.2) fun r51=>bnd (ldC r51.1 r51.2) fun r52=>bnd (faO 7 J1 r52.2) fun r53=>bnd (ldA 4 r53.1 r53.2) fun r54=>bnd (faO 1 J3 r54.2) fun r55=>bnd (stV 1 r55.1 r48.1 r55.2) fun r56=>bIf (agV true (ldA 4 r53.1 r56.2) r54.1 && (agV true (ldC r51.1 r56.2) r52.1 && (agV true (ldC r49.1 r56.2) r50.1 && true))) (bnd (faO 2 J3 r56.2) fun r57=>bnd (stV 1 r57.1 r50.1 r57.2) fun r58=>bIf (agV true (ldA 4 r53.1 r58.2) r54.1 && (agV true (ldC r51.1 r58.2) r52.1 && true)) (bnd (faO 6 J3 r58.2) fun r59=>bnd (stV 1 r59.1 r52.1 r59.2) fun r60=>bIf (agV true (ldA 4 r53.1 r60.2) r54.1 && true) (bnd (faO 7 J3 r60.2) fun r61=>bnd (stV 4 r61.1 r54.1 r61.2) fun r62=>ref22_Check_J1 call J1 J3 r62.2) none) none) none) (bnd (oBin Tryz.prog .eql 3 false true J8 (.int .i64 7) r46.2) fun r63=>vIf r63.1 (bnd (faO 1 J1 r63.2) fun r64=>bnd (ldC r64.1 r64.2) fun r65=>bnd (faO 2 J1 r65.2) fun r66=>bnd (ldC r66.1 r66.2) fun r67=>bnd (faO 7 J1 r67.2) fun r68=>bnd (ldA 4 r68.1 r68.2) fun r69=>bnd (faO 1 J3 r69.2) fun r70=>bnd (stV 1 r70.1 r65.1 r70.2) fun r71=>bIf (agV true (ldA 4 r68.1 r71.2) r69.1 && (agV true (ldC r66.1 r71.2) r67.1 && true)) (bnd (faO 2 J3 r71.2) fun r72=>bnd (stV 1 r72.1 r67.1 r72.2) fun r73=>bIf (agV true (ldA 4 r68.1 r73.2) r69.1 && true) (bnd (faO 7 J3 r73.2) fun r74=>bnd (stV 4 r74.1 r69.1 r74.2) fun r75=>ref22_Check_J1 call J1 J3 r75.2) none) none) (bnd (oBin Tryz.prog .eql 3 false true J8 (.int .i64 9) r63.2) fun r76=>vIf r76.1 (bnd (faO 7 J1 r76.2) fun r77=>bnd (ldA 4 r77.1 r77.2) fun r78=>bnd (faO 7 J3 r78.2) fun r79=>bnd (stV 4 r79.1 r78.1 r79.2) fun r80=>ref22_Check_J1 call J1 J3 r80.2) (bnd (oBin Tryz.prog .eql 3 false true J8 (.int .i64 10) r76.2) fun r98=>vIf r98.1 (ref22_Check_J2 call J1 J3 J8 r98.1 r98.2) (bnd (oBin Tryz.prog .eql 3 false true J8 (.int .i64 11) r98.2) fun r99=>ref22_Check_J2 call J1 J3 J8 r99.1 r99.2))))))
noncomputable def ref22_Check (call : Eng.Callee) (x0 : Value) (W : AW) : Option (Value × AW) := bnd (oBox x0 W) fun r1=>bnd (faO 0 r1.1 r1.2) fun r2=>bnd (ldC r2.1 r2.2) fun r3=>bnd (oBuild Tryz.prog 56 [(0, r3.1)] r3.2) fun r4=>bnd (oAlloc Tryz.prog 56 r4.2) fun r5=>bnd (stV 12 r5.1 r4.1 r5.2) fun r6=>bnd (faO 0 r1.1 r6.2) fun r7=>bnd (ldC r7.1 r7.2) fun r8=>bnd (oBin Tryz.prog .eql 3 false true r8.1 (.int .i64 1) r8.2) fun r12=>vIf r12.1 (bnd (faO 1 r1.1 r12.2) fun r13=>bnd (ldC r13.1 r13.2) fun r14=>bnd (faO 1 r5.1 r14.2) fun r15=>bnd (stV 1 r15.1 r14.1 r15.2) fun r16=>ref22_Check_J1 call r1.1 r5.1 r16.2) (bnd (oBin Tryz.prog .eql 3 false true r8.1 (.int .i64 2) r12.2) fun r100=>vIf r100.1 (ref22_Check_J3 call r1.1 r5.1 r8.1 r100.1 r100.2) (bnd (oBin Tryz.prog .eql 3 false true r8.1 (.int .i64 5) r100.2) fun r101=>vIf r101.1 (ref22_Check_J3 call r1.1 r5.1 r8.1 r101.1 r101.2) (bnd (oBin Tryz.prog .eql 3 false true r8.1 (.int .i64 4) r101.2) fun r102=>vIf r102.1 (ref22_Check_J3 call r1.1 r5.1 r8.1 r102.1 r102.2) (bnd (oBin Tryz.prog .eql 3 false true r8.1 (.int .i64 8) r102.2) fun r103=>ref22_Check_J3 call r1.1 r5.1 r8.1 r103.1 r103.2))))
theorem ref22_Check_om {x0 : Value} {W : AW} {r : Value × AW} (h : ref22_Check omS x0 W = some r) : omS (.func (.func 24) #[] #[]) [x0] W = some (gc W r) := om_of (nt := 92) (n := 1) (by kernel_rfl) (by kernel_rfl) rfl (Eq.trans (by kernel_rfl) h)
noncomputable def ref22_Target_J1 (call : Eng.Callee) (J1 J28 : Value) (W : AW) : Option (Value × AW) := vIf J28 (bnd (faO 4 J1 W) fun r13=>bnd (ldC r13.1 r13.2) fun r14=>oRes Tryz.prog [((.int .i64 (-1)), none), (r14.1, none), ((.int .i64 0), none)] r14.2) (oRes Tryz.prog [((.int .i64 (-1)), none), ((.int .i64 (-1)), none), ((.int .i64 0), none)] W)
noncomputable def ref22_Target_J2 (call : Eng.Callee) (J1 J12 J20 : Value) (W : AW) : Option (Value × AW) := vIf J20 (bnd (faO 7 J1 W) fun r9=>bnd (faO 0 r9.1 r9.2) fun r10=>bnd (ldC r10.1 r10.2) fun r11=>bnd (oConv Tryz.prog 51 3 r11.1 r11.2) fun r12=>oRes Tryz.prog [(r12.1, none), ((.int .i64 (-1)), none), ((.int .i64 0), none)] r12.2) (bnd (oBin Tryz.prog .eql 3 false true J12 (.int .i64 3) W) fun r15=>vIf r15.1 (ref22_Target_J1 call J1 r15.1 r15.2) (bnd (oBin Tryz.prog .eql 3 false true J12 (.int .i64 10) r15.2) fun r16=>vIf r16.1 (ref22_Target_J1 call J1 r16.1 r16.2) (bnd (oBin Tryz.prog .eql 3 false true J12 (.int .i64 11) r16.2) fun r17=>ref22_Target_J1 call J1 r17.1 r17.2)))
noncomputable def ref22_Target_J3 (call : Eng.Callee) (J1 J12 J13 : Value) (W : AW) : Option (Value × AW) := vIf J13 (bnd (faO 3 J1 W) fun r7=>bnd (ldC r7.1 r7.2) fun r8=>oRes Tryz.prog [(r8.1, none), ((.int .i64 (-1)), none), ((.int .i64 0), none)] r8.2) (bnd (oBin Tryz.prog .eql 3 false true J12 (.int .i64 6) W) fun r18=>vIf r18.1 (ref22_Target_J2 call J1 J12 r18.1 r18.2) (bnd (oBin Tryz.prog .eql 3 false true J12 (.int .i64 7) r18.2) fun r19=>vIf r19.1 (ref22_Target_J2 call J1 J12 r19.1 r19.2) (bnd (oBin Tryz.prog .eql 3 false true J12 (.int .i64 9) r19.2) fun r20=>ref22_Target_J2 call J1 J12 r20.1 r20.2)))
noncomputable def ref22_Target (call : Eng.Callee) (x0 : Value) (W : AW) : Option (Value × AW) := bnd (oBox x0 W) fun r1=>bnd (ldA 12 r1.1 r1.2) fun r2=>bnd (call (fnV 24) [r2.1] r2.2) fun r3=>bnd (oBin Tryz.prog .neq 34 false true r3.1 (.int .i64 0) r3.2) fun r4=>vIf r4.1 (oRes Tryz.prog [((.int .i64 0), none), ((.int .i64 0), none), (r3.1, none)] r4.2) (bnd (faO 0 r1.1 r4.2) fun r5=>bnd (ldC r5.1 r5.2) fun r6=>bnd (oBin Tryz.prog .eql 3 false true r6.1 (.int .i64 2) r6.2) fun r21=>vIf r21.1 (ref22_Target_J3 call r1.1 r6.1 r21.1 r21.2) (bnd (oBin Tryz.prog .eql 3 false true r6.1 (.int .i64 5) r21.2) fun r22=>vIf r22.1 (ref22_Target_J3 call r1.1 r6.1 r22.1 r22.2) (bnd (oBin Tryz.prog .eql 3 false true r6.1 (.int .i64 4) r22.2) fun r23=>vIf r23.1 (ref22_Target_J3 call r1.1 r6.1 r23.1 r23.2) (bnd (oBin Tryz.prog .eql 3 false true r6.1 (.int .i64 8) r23.2) fun r24=>ref22_Target_J3 call r1.1 r6.1 r24.1 r24.2))))
theorem ref22_Target_om {x0 : Value} {W : AW} {r : Value × AW} (h : ref22_Target omS x0 W = some r) : omS (.func (.func 120) #[] #[]) [x0] W = some (gc W r) := om_of (nt := 34) (n := 1) (by kernel_rfl) (by kernel_rfl) rfl (Eq.trans (by kernel_rfl) h)
noncomputable def venue_Check_L1_L2 (call : Eng.Callee) (R : Nat → Value) (W : AW) : Option LT := bnd (oBin Tryz.prog .lss 3 false false (R 55) (R 54) W) fun r38=>vIf r38.1 (bnd (ixS 1 (R 53) (R 55) r38.2) fun r39=>bnd (ldC r39.1 r39.2) fun r40=>bnd (oBin Tryz.prog .add 3 false false (R 4) r40.1 r40.2) fun r41=>bnd (oBin Tryz.prog .add 3 false true (R 55) (.int .i64 1) r41.2) fun r42=>some (X.normal, (puts R [(56,r38.1),(57,r39.1),(58,r40.1),(9,r40.1),(59,(R 4)),(60,r40.1),(61,r41.1),(4,r41.1),(62,r42.1),(55,r42.1)]), r42.2)) (some (X.exit 3, (rput R (some 56) r38.1), r38.2))
noncomputable def venue_Check_L1 (call : Eng.Callee) (R : Nat → Value) (W : AW) : Option LT := bnd (oBin Tryz.prog .lss 3 false false (R 37) (R 36) W) fun r24=>vIf r24.1 (bnd (ixS 3 (R 35) (R 37) r24.2) fun r25=>bnd (ldA 3 r25.1 r25.2) fun r26=>bnd (oAlloc Tryz.prog 63 r26.2) fun r27=>bnd (stV 3 r27.1 r26.1 r27.2) fun r28=>bnd (ldA 3 r27.1 r28.2) fun r29=>bnd (faO 3 (R 1) r29.2) fun r30=>bnd (ldC r30.1 r30.2) fun r31=>bnd (oSlice Tryz.prog 22 r31.1 none (some (R 37)) none r31.2) fun r32=>bnd (call (fnV 57) [r29.1, r32.1] r32.2) fun r33=>bnd (oBin Tryz.prog .neq 34 false true r33.1 (.int .i64 0) r33.2) fun r34=>vIf r34.1 (some (X.ret, (puts R [(38,r24.1),(39,(R 37)),(40,r25.1),(41,r26.1),(6,r27.1),(5,(R 37)),(42,r29.1),(43,r30.1),(44,r31.1),(45,(R 37)),(46,r32.1),(47,r33.1),(7,r33.1),(48,r33.1),(49,r34.1),(50,(R 37)),(51,r33.1),(2,(R 37)),(3,r33.1)]), r34.2)) (bnd (faO 1 r27.1 r34.2) fun r35=>bnd (ldC r35.1 r35.2) fun r36=>bnd (oBuiltin Tryz.prog .len #[40] 3 #[false] [r36.1] r36.2) fun r37=>bnd (loopO (venue_Check_L1_L2 call) (puts R [(38,r24.1),(39,(R 37)),(40,r25.1),(41,r26.1),(6,r27.1),(5,(R 37)),(42,r29.1),(43,r30.1),(44,r31.1),(45,(R 37)),(46,r32.1),(47,r33.1),(7,r33.1),(48,r33.1),(49,r34.1),(52,r35.1),(53,r36.1),(54,r37.1),(55,(.int .i64 0))]) r37.2) fun r43=>kExit 3 r43.1 (bnd (oBin Tryz.prog .add 3 false true (r43.2.1 37) (.int .i64 1) r43.2.2) fun r44=>some (X.normal, (puts r43.2.1 [(63,r44.1),(37,r44.1)]), r44.2)) (none))) (some (X.exit 1, (rput R (some 38) r24.1), r24.2))
noncomputable def venue_Check (call : Eng.Callee) (x0 : Value) (W : AW) : Option (Value × AW) := bnd (oBox x0 W) fun r1=>bnd (faO 0 r1.1 r1.2) fun r2=>bnd (ldC r2.1 r2.2) fun r3=>bnd (call (fnV 55) [r3.1, (.int .i64 1), (.int .i64 16)] r3.2) fun r4=>bnd (bIf (wnt r4.1 false) (faO 1 r1.1 r4.2) (some (undef, r4.2))) fun r5=>bnd (bIf (wnt r4.1 false) (ldC r5.1 r5.2) (some (undef, r5.2))) fun r6=>bnd (bIf (wnt r4.1 false) (call (fnV 56) [r6.1, (.int .i64 1), (.int .i64 1000000000)] r6.2) (some (undef, r6.2))) fun r7=>bnd (oPick r4.1 (.bool true) r7.1 r7.2) fun r8=>bnd (bIf (wnt r8.1 false) (faO 2 r1.1 r8.2) (some (undef, r8.2))) fun r9=>bnd (bIf (wnt r8.1 false) (ldC r9.1 r9.2) (some (undef, r9.2))) fun r10=>bnd (bIf (wnt r8.1 false) (call (fnV 56) [r10.1, (.int .i64 1), (.int .i64 1000000000)] r10.2) (some (undef, r10.2))) fun r11=>bnd (oPick r8.1 (.bool true) r11.1 r11.2) fun r12=>vIf r12.1 (oRes Tryz.prog [((.int .i64 (-1)), none), ((.int .i64 7), none)] r12.2) (bnd (faO 3 r1.1 r12.2) fun r13=>bnd (ldC r13.1 r13.2) fun r14=>bnd (oBuiltin Tryz.prog .len #[22] 3 #[false] [r14.1] r14.2) fun r15=>bnd (oBin Tryz.prog .eql 3 false true r15.1 (.int .i64 0) r15.2) fun r16=>vIf r16.1 (oRes Tryz.prog [((.int .i64 (-1)), none), ((.int .i64 6), none)] r16.2) (bnd (faO 3 r1.1 r16.2) fun r17=>bnd (ldC r17.1 r17.2) fun r18=>bnd (oBuiltin Tryz.prog .len #[22] 3 #[false] [r18.1] r18.2) fun r19=>bnd (oBin Tryz.prog .gtr 3 false true r19.1 (.int .i64 8) r19.2) fun r20=>vIf r20.1 (oRes Tryz.prog [((.int .i64 (-1)), none), ((.int .i64 3), none)] r20.2) (bnd (faO 3 r1.1 r20.2) fun r21=>bnd (ldC r21.1 r21.2) fun r22=>bnd (oBuiltin Tryz.prog .len #[22] 3 #[false] [r22.1] r22.2) fun r23=>bnd (loopO (venue_Check_L1 call) (puts (argGo 0 [x0] PlanTab.blank) [(1,r1.1),(2,(.int .i64 0)),(3,(.int .i64 0)),(11,r2.1),(12,r3.1),(13,r4.1),(14,r4.1),(15,r5.1),(16,r6.1),(17,r7.1),(18,r8.1),(19,r8.1),(20,r9.1),(21,r10.1),(22,r11.1),(23,r12.1),(10,r12.1),(25,r13.1),(26,r14.1),(27,r15.1),(28,r16.1),(24,r16.1),(30,r17.1),(31,r18.1),(32,r19.1),(33,r20.1),(29,r20.1),(4,(.int .i64 0)),(34,r21.1),(35,r22.1),(36,r23.1),(37,(.int .i64 0))]) r23.2) fun r45=>kExit 1 r45.1 (bnd (oBin Tryz.prog .gtr 3 false true (r45.2.1 4) (.int .i64 4096) r45.2.2) fun r46=>vIf r46.1 (oRes Tryz.prog [((.int .i64 (-1)), none), ((.int .i64 3), none)] r46.2) (oRes Tryz.prog [((.int .i64 0), none), ((.int .i64 0), none)] r46.2)) (kRetX r45.1 (oRes Tryz.prog [((r45.2.1 2), none), ((r45.2.1 3), none)] r45.2.2)))))
theorem venue_Check_om {x0 : Value} {W : AW} {r : Value × AW} (h : venue_Check omS x0 W = some r) : omS (.func (.func 27) #[] #[]) [x0] W = some (gc W r) := om_of (nt := 66) (n := 1) (by kernel_rfl) (by kernel_rfl) rfl (Eq.trans (by kernel_rfl) h)
noncomputable def ref15_Check_L1 (call : Eng.Callee) (R : Nat → Value) (W : AW) : Option LT := bnd (faO 3 (R 1) W) fun r24=>bnd (ldC r24.1 r24.2) fun r25=>bnd (oBuiltin Tryz.prog .len #[22] 3 #[false] [r25.1] r25.2) fun r26=>bnd (oBin Tryz.prog .lss 3 false false (R 4) r26.1 r26.2) fun r27=>vIf r27.1 (bnd (ldA 4 (R 1) r27.2) fun r28=>bnd (call (fnV 59) [r28.1, (R 4)] r28.2) fun r29=>bnd (oBin Tryz.prog .neq 34 false true r29.1 (.int .i64 0) r29.2) fun r30=>vIf r30.1 (some (X.ret, (puts R [(30,(R 4)),(31,r24.1),(32,r25.1),(33,r26.1),(34,r27.1),(37,r28.1),(38,(R 4)),(39,r29.1),(5,r29.1),(40,r29.1),(41,r30.1),(42,(R 4)),(43,r29.1),(2,(R 4)),(3,r29.1)]), r30.2)) (bnd (oBin Tryz.prog .add 3 false true (R 4) (.int .i64 1) r30.2) fun r31=>some (X.normal, (puts R [(30,(R 4)),(31,r24.1),(32,r25.1),(33,r26.1),(34,r27.1),(37,r28.1),(38,(R 4)),(39,r29.1),(5,r29.1),(40,r29.1),(41,r30.1),(35,(R 4)),(36,r31.1),(4,r31.1)]), r31.2))) (some (X.exit 0, (puts R [(30,(R 4)),(31,r24.1),(32,r25.1),(33,r26.1),(34,r27.1)]), r27.2))
noncomputable def ref15_Check (call : Eng.Callee) (x0 : Value) (W : AW) : Option (Value × AW) := bnd (oBox x0 W) fun r1=>bnd (faO 0 r1.1 r1.2) fun r2=>bnd (ldC r2.1 r2.2) fun r3=>bnd (call (fnV 58) [r3.1, (.int .i64 1), (.int .i64 16)] r3.2) fun r4=>bnd (oUn Tryz.prog .not r4.1 r4.2) fun r5=>bnd (bIf (wnt r5.1 false) (faO 1 r1.1 r5.2) (some (undef, r5.2))) fun r6=>bnd (bIf (wnt r5.1 false) (ldC r6.1 r6.2) (some (undef, r6.2))) fun r7=>bnd (bIf (wnt r5.1 false) (call (fnV 58) [r7.1, (.int .i64 1), (.int .i64 1000000000)] r7.2) (some (undef, r7.2))) fun r8=>bnd (bIf (wnt r5.1 false) (oUn Tryz.prog .not r8.1 r8.2) (some (undef, r8.2))) fun r9=>bnd (oPick r5.1 (.bool true) r9.1 r9.2) fun r10=>bnd (bIf (wnt r10.1 false) (faO 2 r1.1 r10.2) (some (undef, r10.2))) fun r11=>bnd (bIf (wnt r10.1 false) (ldC r11.1 r11.2) (some (undef, r11.2))) fun r12=>bnd (bIf (wnt r10.1 false) (call (fnV 58) [r12.1, (.int .i64 1), (.int .i64 1000000000)] r12.2) (some (undef, r12.2))) fun r13=>bnd (bIf (wnt r10.1 false) (oUn Tryz.prog .not r13.1 r13.2) (some (undef, r13.2))) fun r14=>bnd (oPick r10.1 (.bool true) r14.1 r14.2) fun r15=>vIf r15.1 (oRes Tryz.prog [((.int .i64 (-1)), none), ((.int .i64 7), none)] r15.2) (bnd (faO 3 r1.1 r15.2) fun r16=>bnd (ldC r16.1 r16.2) fun r17=>bnd (oBuiltin Tryz.prog .len #[22] 3 #[false] [r17.1] r17.2) fun r18=>bnd (oBin Tryz.prog .eql 3 false true r18.1 (.int .i64 0) r18.2) fun r19=>vIf r19.1 (oRes Tryz.prog [((.int .i64 (-1)), none), ((.int .i64 6), none)] r19.2) (bnd (faO 3 r1.1 r19.2) fun r20=>bnd (ldC r20.1 r20.2) fun r21=>bnd (oBuiltin Tryz.prog .len #[22] 3 #[false] [r21.1] r21.2) fun r22=>bnd (oBin Tryz.prog .gtr 3 false true r22.1 (.int .i64 8) r22.2) fun r23=>vIf r23.1 (oRes Tryz.prog [((.int .i64 (-1)), none), ((.int .i64 3), none)] r23.2) (bnd (loopO (ref15_Check_L1 call) (puts (argGo 0 [x0] PlanTab.blank) [(1,r1.1),(2,(.int .i64 0)),(3,(.int .i64 0)),(6,r2.1),(7,r3.1),(8,r4.1),(9,r5.1),(10,r5.1),(11,r6.1),(12,r7.1),(13,r8.1),(14,r9.1),(15,r10.1),(16,r10.1),(17,r11.1),(18,r12.1),(19,r13.1),(20,r14.1),(21,r15.1),(22,r16.1),(23,r17.1),(24,r18.1),(25,r19.1),(26,r20.1),(27,r21.1),(28,r22.1),(29,r23.1),(4,(.int .i64 0))]) r23.2) fun r32=>kExit 0 r32.1 (bnd (ldA 4 (r32.2.1 1) r32.2.2) fun r33=>bnd (call (fnV 60) [r33.1] r33.2) fun r34=>bnd (oBuiltin Tryz.prog .len #[117] 3 #[false] [r34.1] r34.2) fun r35=>bnd (oBin Tryz.prog .gtr 3 false true r35.1 (.int .i64 4096) r35.2) fun r36=>vIf r36.1 (oRes Tryz.prog [((.int .i64 (-1)), none), ((.int .i64 3), none)] r36.2) (oRes Tryz.prog [((.int .i64 0), none), ((.int .i64 0), none)] r36.2)) (kRetX r32.1 (oRes Tryz.prog [((r32.2.1 2), none), ((r32.2.1 3), none)] r32.2.2)))))
theorem ref15_Check_om {x0 : Value} {W : AW} {r : Value × AW} (h : ref15_Check omS x0 W = some r) : omS (.func (.func 28) #[] #[]) [x0] W = some (gc W r) := om_of (nt := 48) (n := 1) (by kernel_rfl) (by kernel_rfl) rfl (Eq.trans (by kernel_rfl) h)
noncomputable def slices_ContainsFuncintint (call : Eng.Callee) (x0 x1 : Value) (W : AW) : Option (Value × AW) := bnd (call (fnV 61) [x0, x1] W) fun r1=>bnd (oBin Tryz.prog .geq 3 false true r1.1 (.int .i64 0) r1.2) fun r2=>oRes Tryz.prog [(r2.1, none)] r2.2
theorem slices_ContainsFuncintint_om {x0 x1 : Value} {W : AW} {r : Value × AW} (h : slices_ContainsFuncintint omS x0 x1 W = some r) : omS (.func (.func 31) #[] #[]) [x0, x1] W = some (gc W r) := om_of (nt := 9) (n := 2) (by kernel_rfl) (by kernel_rfl) rfl (Eq.trans (by kernel_rfl) h)
noncomputable def venue_Seats_Y1a (call : Eng.Callee) (R : Nat → Value) (W : AW) : Option LT := bnd (oAlloc Tryz.prog 152 W) fun r11=>bnd (stV 4 r11.1 (R 17) r11.2) fun r12=>some (X.normal, (rput R (some 6) r11.1), r12.2)
theorem venue_Seats_Y1a_eq (call : Eng.Callee) (R : Nat → Value) (W : AW) : kCode Tryz.prog call false 23 (cAt [1, 1, 0, 1, 0, 0] (cod 46)) LT R W ret3 = venue_Seats_Y1a call R W := by kernel_rfl
noncomputable def venue_Seats_Y1b (call : Eng.Callee) (R : Nat → Value) (W : AW) : Option LT := bnd (ldC (R 2) W) fun r13=>bnd (faO 3 (R 6) r13.2) fun r14=>bnd (ldC r14.1 r14.2) fun r15=>bnd (oBin Tryz.prog .add 3 false false r13.1 r15.1 r15.2) fun r16=>bnd (stV 1 (R 2) r16.1 r16.2) fun r17=>some (X.normal, (puts R [(18,r13.1),(19,r14.1),(20,r15.1),(21,r16.1)]), r17.2)
theorem venue_Seats_Y1b_eq (call : Eng.Callee) (R : Nat → Value) (W : AW) : kCode Tryz.prog call false 23 (cAt [1, 1, 0, 1, 0, 1] (cod 46)) LT R W ret3 = venue_Seats_Y1b call R W := by kernel_rfl
noncomputable def venue_Seats (call : Eng.Callee) (x0 : Value) (W : AW) : Option (Value × AW) := bnd (oBox x0 W) fun r1=>bnd (oAlloc Tryz.prog 3 r1.2) fun r2=>bnd (ldA 4 r1.1 r2.2) fun r3=>bnd (call (fnV 27) [r3.1] r3.2) fun r4=>bnd (oExtract r4.1 0 r4.2) fun r5=>bnd (oExtract r4.1 1 r5.2) fun r6=>bnd (oBin Tryz.prog .neq 34 false true r6.1 (.int .i64 0) r6.2) fun r7=>vIf r7.1 (bnd (stV 1 r2.1 (.int .i64 0) r7.2) fun r8=>oRes Tryz.prog [(r2.1, some 3), (r6.1, none)] r8.2) (bnd (ldA 4 r1.1 r7.2) fun r9=>bnd (call (fnV 78) [r9.1] r9.2) fun r10=>bnd (oRange call r10.1 (.loop .ready none (puts (argGo 0 [x0] PlanTab.blank) [(1,r1.1),(2,r2.1),(3,(.int .i64 0)),(8,r3.1),(9,r4.1),(7,r4.1),(10,r5.1),(11,r6.1),(4,r5.1),(5,r6.1),(12,r6.1),(13,r7.1),(15,r9.1),(16,r10.1)]) 23 #[17] (cAt [1, 1, 0, 1, 0, 0] (cod 46)) (cAt [1, 1, 0, 1, 0, 1] (cod 46))) r10.2) fun r18=>kNorm r18.1 (bnd (ldC r2.1 r18.2) fun r19=>bnd (stV 1 r2.1 r19.1 r19.2) fun r20=>oRes Tryz.prog [(r2.1, some 3), ((.int .i64 0), none)] r20.2) (none))
theorem venue_Seats_om {x0 : Value} {W : AW} {r : Value × AW} (h : venue_Seats omS x0 W = some r) : omS (.func (.func 46) #[] #[]) [x0] W = some (gc W r) := om_of (nt := 23) (n := 1) (by kernel_rfl) (by kernel_rfl) rfl (Eq.trans (by kernel_rfl) h)
noncomputable def ref15_Seats (call : Eng.Callee) (x0 : Value) (W : AW) : Option (Value × AW) := bnd (oBox x0 W) fun r1=>bnd (ldA 4 r1.1 r1.2) fun r2=>bnd (call (fnV 28) [r2.1] r2.2) fun r3=>bnd (oExtract r3.1 0 r3.2) fun r4=>bnd (oExtract r3.1 1 r4.2) fun r5=>bnd (oBin Tryz.prog .neq 34 false true r5.1 (.int .i64 0) r5.2) fun r6=>vIf r6.1 (oRes Tryz.prog [((.int .i64 0), none), (r5.1, none)] r6.2) (bnd (ldA 4 r1.1 r6.2) fun r7=>bnd (call (fnV 60) [r7.1] r7.2) fun r8=>bnd (oBuiltin Tryz.prog .len #[117] 3 #[false] [r8.1] r8.2) fun r9=>oRes Tryz.prog [(r9.1, none), ((.int .i64 0), none)] r9.2)
theorem ref15_Seats_om {x0 : Value} {W : AW} {r : Value × AW} (h : ref15_Seats omS x0 W = some r) : omS (.func (.func 50) #[] #[]) [x0] W = some (gc W r) := om_of (nt := 17) (n := 1) (by kernel_rfl) (by kernel_rfl) rfl (Eq.trans (by kernel_rfl) h)
noncomputable def plans_Steps (call : Eng.Callee) (x0 x1 : Value) (W : AW) : Option (Value × AW) := bnd (oBox x0 W) fun r1=>bnd (oBox x1 r1.2) fun r2=>bnd (ldA 4 r1.1 r2.2) fun r3=>bnd (ldA 12 r2.1 r3.2) fun r4=>bnd (call (fnV 80) [r3.1, r4.1] r4.2) fun r5=>bnd (oExtract r5.1 0 r5.2) fun r6=>bnd (oExtract r5.1 1 r6.2) fun r7=>bnd (oBin Tryz.prog .neq 34 false true r7.1 (.int .i64 0) r7.2) fun r8=>vIf r8.1 (oRes Tryz.prog [((.int .i64 0), none), (r7.1, none)] r8.2) (bnd (oBuiltin Tryz.prog .len #[40] 3 #[false] [r6.1] r8.2) fun r9=>bnd (oBin Tryz.prog .mul 3 true false (.int .i64 2) r9.1 r9.2) fun r10=>bnd (oBin Tryz.prog .add 3 false true r10.1 (.int .i64 1) r10.2) fun r11=>oRes Tryz.prog [(r11.1, none), ((.int .i64 0), none)] r11.2)
theorem plans_Steps_om {x0 x1 : Value} {W : AW} {r : Value × AW} (h : plans_Steps omS x0 x1 W = some r) : omS (.func (.func 53) #[] #[]) [x0, x1] W = some (gc W r) := om_of (nt := 21) (n := 2) (by kernel_rfl) (by kernel_rfl) rfl (Eq.trans (by kernel_rfl) h)
noncomputable def ref22_All_L1 (call : Eng.Callee) (R : Nat → Value) (W : AW) : Option LT := bnd (oBuiltin Tryz.prog .len #[40] 3 #[false] [(R 6)] W) fun r9=>bnd (oBin Tryz.prog .lss 3 false false (R 9) r9.1 r9.2) fun r10=>vIf r10.1 (bnd (ixS 1 (R 6) (R 9) r10.2) fun r11=>bnd (ldC r11.1 r11.2) fun r12=>bnd (oBuild Tryz.prog 126 [(0, (.int .i64 1)), (1, r12.1)] r12.2) fun r13=>bnd (oBuildSlice Tryz.prog 110 1 [(0, r13.1)] r13.2) fun r14=>bnd (aAppend Tryz.prog r14.2 #[110, 110] (R 8) r14.1) fun r15=>bnd (oBin Tryz.prog .add 3 false true (R 9) (.int .i64 1) r15.2) fun r16=>some (X.normal, (puts R [(20,(R 9)),(21,(R 6)),(22,r9.1),(23,r10.1),(26,(R 8)),(27,(R 6)),(28,(R 9)),(29,r11.1),(30,r12.1),(31,r13.1),(32,r14.1),(33,r15.1),(8,r15.1),(24,(R 9)),(25,r16.1),(9,r16.1)]), r16.2)) (some (X.exit 0, (puts R [(20,(R 9)),(21,(R 6)),(22,r9.1),(23,r10.1)]), r10.2))
noncomputable def ref22_All_L2 (call : Eng.Callee) (R : Nat → Value) (W : AW) : Option LT := bnd (oBin Tryz.prog .geq 3 false true (R 10) (.int .i64 0) W) fun r23=>vIf r23.1 (bnd (ixS 1 (R 6) (R 10) r23.2) fun r24=>bnd (ldC r24.1 r24.2) fun r25=>bnd (oBuild Tryz.prog 126 [(0, (.int .i64 3)), (1, r25.1)] r25.2) fun r26=>bnd (oBuildSlice Tryz.prog 110 1 [(0, r26.1)] r26.2) fun r27=>bnd (aAppend Tryz.prog r27.2 #[110, 110] (R 8) r27.1) fun r28=>bnd (oBin Tryz.prog .sub 3 false true (R 10) (.int .i64 1) r28.2) fun r29=>some (X.normal, (puts R [(41,(R 10)),(42,r23.1),(45,(R 8)),(46,(R 6)),(47,(R 10)),(48,r24.1),(49,r25.1),(50,r26.1),(51,r27.1),(52,r28.1),(8,r28.1),(43,(R 10)),(44,r29.1),(10,r29.1)]), r29.2)) (some (X.exit 2, (puts R [(41,(R 10)),(42,r23.1)]), r23.2))
noncomputable def ref22_All (call : Eng.Callee) (x0 x1 : Value) (W : AW) : Option (Value × AW) := bnd (oBox x0 W) fun r1=>bnd (oBox x1 r1.2) fun r2=>bnd (ldA 4 r1.1 r2.2) fun r3=>bnd (ldA 12 r2.1 r3.2) fun r4=>bnd (call (fnV 81) [r3.1, r4.1] r4.2) fun r5=>bnd (oExtract r5.1 0 r5.2) fun r6=>bnd (oExtract r5.1 1 r6.2) fun r7=>bnd (oBin Tryz.prog .neq 34 false true r7.1 (.int .i64 0) r7.2) fun r8=>vIf r8.1 (oRes Tryz.prog [((.slice none 0 0), none), (r7.1, none)] r8.2) (bnd (loopO (ref22_All_L1 call) (puts (argGo 0 [x0, x1] PlanTab.blank) [(2,r1.1),(3,r2.1),(4,(.slice none 0 0)),(5,(.int .i64 0)),(12,r3.1),(13,r4.1),(14,r5.1),(11,r5.1),(15,r6.1),(16,r7.1),(6,r6.1),(7,r7.1),(17,r7.1),(18,r8.1),(8,(.slice none 0 0)),(9,(.int .i64 0))]) r8.2) fun r17=>kExit 0 r17.1 (bnd (oBuild Tryz.prog 126 [(0, (.int .i64 2))] r17.2.2) fun r18=>bnd (oBuildSlice Tryz.prog 110 1 [(0, r18.1)] r18.2) fun r19=>bnd (aAppend Tryz.prog r19.2 #[110, 110] (r17.2.1 8) r19.1) fun r20=>bnd (oBuiltin Tryz.prog .len #[40] 3 #[false] [(r17.2.1 6)] r20.2) fun r21=>bnd (oBin Tryz.prog .sub 3 false true r21.1 (.int .i64 1) r21.2) fun r22=>bnd (loopO (ref22_All_L2 call) (puts r17.2.1 [(34,(r17.2.1 8)),(35,r18.1),(36,r19.1),(37,r20.1),(8,r20.1),(38,(r17.2.1 6)),(39,r21.1),(40,r22.1),(10,r22.1)]) r22.2) fun r30=>kExit 2 r30.1 (oRes Tryz.prog [((r30.2.1 8), none), ((.int .i64 0), none)] r30.2.2) (none)) (none))
theorem ref22_All_om {x0 x1 : Value} {W : AW} {r : Value × AW} (h : ref22_All omS x0 x1 W = some r) : omS (.func (.func 54) #[] #[]) [x0, x1] W = some (gc W r) := om_of (nt := 54) (n := 2) (by kernel_rfl) (by kernel_rfl) rfl (Eq.trans (by kernel_rfl) h)
noncomputable def ref22_Steps (call : Eng.Callee) (x0 x1 : Value) (W : AW) : Option (Value × AW) := bnd (oBox x0 W) fun r1=>bnd (oBox x1 r1.2) fun r2=>bnd (ldA 4 r1.1 r2.2) fun r3=>bnd (ldA 12 r2.1 r3.2) fun r4=>bnd (call (fnV 54) [r3.1, r4.1] r4.2) fun r5=>bnd (oExtract r5.1 0 r5.2) fun r6=>bnd (oExtract r5.1 1 r6.2) fun r7=>bnd (oBuiltin Tryz.prog .len #[110] 3 #[false] [r6.1] r7.2) fun r8=>oRes Tryz.prog [(r8.1, none), (r7.1, none)] r8.2
theorem ref22_Steps_om {x0 x1 : Value} {W : AW} {r : Value × AW} (h : ref22_Steps omS x0 x1 W = some r) : omS (.func (.func 26) #[] #[]) [x0, x1] W = some (gc W r) := om_of (nt := 17) (n := 2) (by kernel_rfl) (by kernel_rfl) rfl (Eq.trans (by kernel_rfl) h)
noncomputable def venue_outsideint (call : Eng.Callee) (x0 x1 x2 : Value) (W : AW) : Option (Value × AW) := bnd (oBin Tryz.prog .lss 3 false false x0 x1 W) fun r1=>bnd (bIf (wnt r1.1 false) (oMv x0 r1.2) (some (undef, r1.2))) fun r2=>bnd (bIf (wnt r1.1 false) (oMv x2 r2.2) (some (undef, r2.2))) fun r3=>bnd (bIf (wnt r1.1 false) (oBin Tryz.prog .gtr 3 false false r2.1 r3.1 r3.2) (some (undef, r3.2))) fun r4=>bnd (oPick r1.1 (.bool true) r4.1 r4.2) fun r5=>oRes Tryz.prog [(r5.1, none)] r5.2
theorem venue_outsideint_om {x0 x1 x2 : Value} {W : AW} {r : Value × AW} (h : venue_outsideint omS x0 x1 x2 W = some r) : omS (.func (.func 55) #[] #[]) [x0, x1, x2] W = some (gc W r) := om_of (nt := 15) (n := 3) (by kernel_rfl) (by kernel_rfl) rfl (Eq.trans (by kernel_rfl) h)
noncomputable def venue_outsideint64 (call : Eng.Callee) (x0 x1 x2 : Value) (W : AW) : Option (Value × AW) := bnd (oBin Tryz.prog .lss 2 false false x0 x1 W) fun r1=>bnd (bIf (wnt r1.1 false) (oMv x0 r1.2) (some (undef, r1.2))) fun r2=>bnd (bIf (wnt r1.1 false) (oMv x2 r2.2) (some (undef, r2.2))) fun r3=>bnd (bIf (wnt r1.1 false) (oBin Tryz.prog .gtr 2 false false r2.1 r3.1 r3.2) (some (undef, r3.2))) fun r4=>bnd (oPick r1.1 (.bool true) r4.1 r4.2) fun r5=>oRes Tryz.prog [(r5.1, none)] r5.2
theorem venue_outsideint64_om {x0 x1 x2 : Value} {W : AW} {r : Value × AW} (h : venue_outsideint64 omS x0 x1 x2 W = some r) : omS (.func (.func 56) #[] #[]) [x0, x1, x2] W = some (gc W r) := om_of (nt := 15) (n := 3) (by kernel_rfl) (by kernel_rfl) rfl (Eq.trans (by kernel_rfl) h)
noncomputable def venue_check (call : Eng.Callee) (x0 x1 : Value) (W : AW) : Option (Value × AW) := bnd (oBox x0 W) fun r1=>bnd (faO 0 r1.1 r1.2) fun r2=>bnd (ldC r2.1 r2.2) fun r3=>bnd (call (fnV 82) [r3.1] r3.2) fun r4=>bnd (oUn Tryz.prog .not r4.1 r4.2) fun r5=>vIf r5.1 (oRes Tryz.prog [((.int .i64 6), none)] r5.2) (bnd (oMkFunc (.func 84) #[] #[r1.1] r5.2) fun r6=>bnd (call (fnV 83) [x1, r6.1] r6.2) fun r7=>vIf r7.1 (oRes Tryz.prog [((.int .i64 8), none)] r7.2) (bnd (faO 1 r1.1 r7.2) fun r8=>bnd (ldC r8.1 r8.2) fun r9=>bnd (oBuiltin Tryz.prog .len #[40] 3 #[false] [r9.1] r9.2) fun r10=>bnd (oBin Tryz.prog .eql 3 false true r10.1 (.int .i64 0) r10.2) fun r11=>vIf r11.1 (oRes Tryz.prog [((.int .i64 6), none)] r11.2) (bnd (faO 1 r1.1 r11.2) fun r12=>bnd (ldC r12.1 r12.2) fun r13=>bnd (oBuiltin Tryz.prog .len #[40] 3 #[false] [r13.1] r13.2) fun r14=>bnd (oBin Tryz.prog .gtr 3 false true r14.1 (.int .i64 16) r14.2) fun r15=>vIf r15.1 (oRes Tryz.prog [((.int .i64 3), none)] r15.2) (bnd (faO 1 r1.1 r15.2) fun r16=>bnd (ldC r16.1 r16.2) fun r17=>bnd (call (fnV 31) [r17.1, (fnV 85)] r17.2) fun r18=>vIf r18.1 (oRes Tryz.prog [((.int .i64 7), none)] r18.2) (bnd (faO 2 r1.1 r18.2) fun r19=>bnd (ldC r19.1 r19.2) fun r20=>bnd (call (fnV 55) [r20.1, (.int .i64 0), (.int .i64 64)] r20.2) fun r21=>vIf r21.1 (oRes Tryz.prog [((.int .i64 7), none)] r21.2) (oRes Tryz.prog [((.int .i64 0), none)] r21.2))))))
theorem venue_check_om {x0 x1 : Value} {W : AW} {r : Value × AW} (h : venue_check omS x0 x1 W = some r) : omS (.func (.func 57) #[] #[]) [x0, x1] W = some (gc W r) := om_of (nt := 32) (n := 2) (by kernel_rfl) (by kernel_rfl) rfl (Eq.trans (by kernel_rfl) h)
noncomputable def ref15_within (call : Eng.Callee) (x0 x1 x2 : Value) (W : AW) : Option (Value × AW) := bnd (oBin Tryz.prog .geq 2 false false x0 x1 W) fun r1=>bnd (bIf (wnt r1.1 true) (oMv x0 r1.2) (some (undef, r1.2))) fun r2=>bnd (bIf (wnt r1.1 true) (oMv x2 r2.2) (some (undef, r2.2))) fun r3=>bnd (bIf (wnt r1.1 true) (oBin Tryz.prog .leq 2 false false r2.1 r3.1 r3.2) (some (undef, r3.2))) fun r4=>bnd (oPick r1.1 r4.1 (.bool false) r4.2) fun r5=>oRes Tryz.prog [(r5.1, none)] r5.2
theorem ref15_within_om {x0 x1 x2 : Value} {W : AW} {r : Value × AW} (h : ref15_within omS x0 x1 x2 W = some r) : omS (.func (.func 58) #[] #[]) [x0, x1, x2] W = some (gc W r) := om_of (nt := 15) (n := 3) (by kernel_rfl) (by kernel_rfl) rfl (Eq.trans (by kernel_rfl) h)
noncomputable def ref15_section_L1 (call : Eng.Callee) (R : Nat → Value) (W : AW) : Option LT := bnd (oBin Tryz.prog .lss 3 false false (R 6) (R 1) W) fun r12=>vIf r12.1 (bnd (faO 3 (R 2) r12.2) fun r13=>bnd (ldC r13.1 r13.2) fun r14=>bnd (ixS 3 r14.1 (R 6) r14.2) fun r15=>bnd (faO 0 r15.1 r15.2) fun r16=>bnd (ldC r16.1 r16.2) fun r17=>bnd (faO 0 (R 5) r17.2) fun r18=>bnd (ldC r18.1 r18.2) fun r19=>bnd (oBin Tryz.prog .eql 9 false false r17.1 r19.1 r19.2) fun r20=>vIf r20.1 (some (X.ret, (puts R [(17,(R 6)),(18,(R 1)),(19,r12.1),(22,r13.1),(23,r14.1),(24,(R 6)),(25,r15.1),(26,r16.1),(27,r17.1),(28,r18.1),(29,r19.1),(30,r20.1),(4,(.int .i64 8))]), r20.2)) (bnd (oBin Tryz.prog .add 3 false true (R 6) (.int .i64 1) r20.2) fun r21=>some (X.normal, (puts R [(17,(R 6)),(18,(R 1)),(19,r12.1),(22,r13.1),(23,r14.1),(24,(R 6)),(25,r15.1),(26,r16.1),(27,r17.1),(28,r18.1),(29,r19.1),(30,r20.1),(20,(R 6)),(21,r21.1),(6,r21.1)]), r21.2))) (some (X.exit 0, (puts R [(17,(R 6)),(18,(R 1)),(19,r12.1)]), r12.2))
noncomputable def ref15_section_L2 (call : Eng.Callee) (R : Nat → Value) (W : AW) : Option LT := bnd (faO 1 (R 5) W) fun r31=>bnd (ldC r31.1 r31.2) fun r32=>bnd (oBuiltin Tryz.prog .len #[40] 3 #[false] [r32.1] r32.2) fun r33=>bnd (oBin Tryz.prog .lss 3 false false (R 7) r33.1 r33.2) fun r34=>vIf r34.1 (bnd (faO 1 (R 5) r34.2) fun r35=>bnd (ldC r35.1 r35.2) fun r36=>bnd (ixS 1 r36.1 (R 7) r36.2) fun r37=>bnd (ldC r37.1 r37.2) fun r38=>bnd (call (fnV 58) [r38.1, (.int .i64 1), (.int .i64 64)] r38.2) fun r39=>bnd (oUn Tryz.prog .not r39.1 r39.2) fun r40=>vIf r40.1 (some (X.ret, (puts R [(39,(R 7)),(40,r31.1),(41,r32.1),(42,r33.1),(43,r34.1),(46,r35.1),(47,r36.1),(48,(R 7)),(49,r37.1),(50,r38.1),(51,r39.1),(52,r40.1),(4,(.int .i64 7))]), r40.2)) (bnd (oBin Tryz.prog .add 3 false true (R 7) (.int .i64 1) r40.2) fun r41=>some (X.normal, (puts R [(39,(R 7)),(40,r31.1),(41,r32.1),(42,r33.1),(43,r34.1),(46,r35.1),(47,r36.1),(48,(R 7)),(49,r37.1),(50,r38.1),(51,r39.1),(52,r40.1),(44,(R 7)),(45,r41.1),(7,r41.1)]), r41.2))) (some (X.exit 2, (puts R [(39,(R 7)),(40,r31.1),(41,r32.1),(42,r33.1),(43,r34.1)]), r34.2))
noncomputable def ref15_section (call : Eng.Callee) (x0 x1 : Value) (W : AW) : Option (Value × AW) := bnd (oBox x0 W) fun r1=>bnd (faO 3 r1.1 r1.2) fun r2=>bnd (ldC r2.1 r2.2) fun r3=>bnd (ixS 3 r3.1 x1 r3.2) fun r4=>bnd (ldA 3 r4.1 r4.2) fun r5=>bnd (oAlloc Tryz.prog 63 r5.2) fun r6=>bnd (stV 3 r6.1 r5.1 r6.2) fun r7=>bnd (faO 0 r6.1 r7.2) fun r8=>bnd (ldC r8.1 r8.2) fun r9=>bnd (call (fnV 86) [r9.1] r9.2) fun r10=>bnd (oUn Tryz.prog .not r10.1 r10.2) fun r11=>vIf r11.1 (oRes Tryz.prog [((.int .i64 6), none)] r11.2) (bnd (loopO (ref15_section_L1 call) (puts (argGo 0 [x0, x1] PlanTab.blank) [(2,r1.1),(4,(.int .i64 0)),(8,r2.1),(9,r3.1),(10,x1),(11,r4.1),(12,r5.1),(5,r6.1),(13,r8.1),(14,r9.1),(15,r10.1),(16,r11.1),(6,(.int .i64 0))]) r11.2) fun r22=>kExit 0 r22.1 (bnd (faO 1 (r22.2.1 5) r22.2.2) fun r23=>bnd (ldC r23.1 r23.2) fun r24=>bnd (oBuiltin Tryz.prog .len #[40] 3 #[false] [r24.1] r24.2) fun r25=>bnd (oBin Tryz.prog .eql 3 false true r25.1 (.int .i64 0) r25.2) fun r26=>vIf r26.1 (oRes Tryz.prog [((.int .i64 6), none)] r26.2) (bnd (faO 1 (r22.2.1 5) r26.2) fun r27=>bnd (ldC r27.1 r27.2) fun r28=>bnd (oBuiltin Tryz.prog .len #[40] 3 #[false] [r28.1] r28.2) fun r29=>bnd (oBin Tryz.prog .gtr 3 false true r29.1 (.int .i64 16) r29.2) fun r30=>vIf r30.1 (oRes Tryz.prog [((.int .i64 3), none)] r30.2) (bnd (loopO (ref15_section_L2 call) (puts r22.2.1 [(31,r23.1),(32,r24.1),(33,r25.1),(34,r26.1),(35,r27.1),(36,r28.1),(37,r29.1),(38,r30.1),(7,(.int .i64 0))]) r30.2) fun r42=>kExit 2 r42.1 (bnd (faO 2 (r42.2.1 5) r42.2.2) fun r43=>bnd (ldC r43.1 r43.2) fun r44=>bnd (call (fnV 58) [r44.1, (.int .i64 0), (.int .i64 64)] r44.2) fun r45=>bnd (oUn Tryz.prog .not r45.1 r45.2) fun r46=>vIf r46.1 (oRes Tryz.prog [((.int .i64 7), none)] r46.2) (oRes Tryz.prog [((.int .i64 0), none)] r46.2)) (kRetX r42.1 (oRes Tryz.prog [((r42.2.1 4), none)] r42.2.2))))) (kRetX r22.1 (oRes Tryz.prog [((r22.2.1 4), none)] r22.2.2)))
theorem ref15_section_om {x0 x1 : Value} {W : AW} {r : Value × AW} (h : ref15_section omS x0 x1 W = some r) : omS (.func (.func 59) #[] #[]) [x0, x1] W = some (gc W r) := om_of (nt := 57) (n := 2) (by kernel_rfl) (by kernel_rfl) rfl (Eq.trans (by kernel_rfl) h)
noncomputable def ref15_Places_L1_L2_L3 (call : Eng.Callee) (R : Nat → Value) (W : AW) : Option LT := bnd (faO 3 (R 1) W) fun r13=>bnd (ldC r13.1 r13.2) fun r14=>bnd (ixS 3 r14.1 (R 4) r14.2) fun r15=>bnd (faO 1 r15.1 r15.2) fun r16=>bnd (ldC r16.1 r16.2) fun r17=>bnd (ixS 1 r17.1 (R 5) r17.2) fun r18=>bnd (ldC r18.1 r18.2) fun r19=>bnd (oBin Tryz.prog .lss 3 false false (R 6) r19.1 r19.2) fun r20=>vIf r20.1 (bnd (oBuild Tryz.prog 160 [(0, (R 4)), (1, (R 5)), (2, (R 6))] r20.2) fun r21=>bnd (oBuildSlice Tryz.prog 117 1 [(0, r21.1)] r21.2) fun r22=>bnd (aAppend Tryz.prog r22.2 #[117, 117] (R 3) r22.1) fun r23=>bnd (oBin Tryz.prog .add 3 false true (R 6) (.int .i64 1) r23.2) fun r24=>some (X.normal, (puts R [(25,(R 6)),(26,r13.1),(27,r14.1),(28,(R 4)),(29,r15.1),(30,r16.1),(31,r17.1),(32,(R 5)),(33,r18.1),(34,r19.1),(35,r20.1),(38,(R 3)),(39,(R 4)),(40,(R 5)),(41,(R 6)),(42,r21.1),(43,r22.1),(44,r23.1),(3,r23.1),(36,(R 6)),(37,r24.1),(6,r24.1)]), r24.2)) (some (X.exit 4, (puts R [(25,(R 6)),(26,r13.1),(27,r14.1),(28,(R 4)),(29,r15.1),(30,r16.1),(31,r17.1),(32,(R 5)),(33,r18.1),(34,r19.1),(35,r20.1)]), r20.2))
noncomputable def ref15_Places_L1_L2 (call : Eng.Callee) (R : Nat → Value) (W : AW) : Option LT := bnd (faO 3 (R 1) W) fun r6=>bnd (ldC r6.1 r6.2) fun r7=>bnd (ixS 3 r7.1 (R 4) r7.2) fun r8=>bnd (faO 1 r8.1 r8.2) fun r9=>bnd (ldC r9.1 r9.2) fun r10=>bnd (oBuiltin Tryz.prog .len #[40] 3 #[false] [r10.1] r10.2) fun r11=>bnd (oBin Tryz.prog .lss 3 false false (R 5) r11.1 r11.2) fun r12=>vIf r12.1 (bnd (loopO (ref15_Places_L1_L2_L3 call) (puts R [(14,(R 5)),(15,r6.1),(16,r7.1),(17,(R 4)),(18,r8.1),(19,r9.1),(20,r10.1),(21,r11.1),(22,r12.1),(6,(.int .i64 0))]) r12.2) fun r25=>kExit 4 r25.1 (bnd (oBin Tryz.prog .add 3 false true (r25.2.1 5) (.int .i64 1) r25.2.2) fun r26=>some (X.normal, (puts r25.2.1 [(23,(r25.2.1 5)),(24,r26.1),(5,r26.1)]), r26.2)) (none)) (some (X.exit 2, (puts R [(14,(R 5)),(15,r6.1),(16,r7.1),(17,(R 4)),(18,r8.1),(19,r9.1),(20,r10.1),(21,r11.1),(22,r12.1)]), r12.2))
noncomputable def ref15_Places_L1 (call : Eng.Callee) (R : Nat → Value) (W : AW) : Option LT := bnd (faO 3 (R 1) W) fun r2=>bnd (ldC r2.1 r2.2) fun r3=>bnd (oBuiltin Tryz.prog .len #[22] 3 #[false] [r3.1] r3.2) fun r4=>bnd (oBin Tryz.prog .lss 3 false false (R 4) r4.1 r4.2) fun r5=>vIf r5.1 (bnd (loopO (ref15_Places_L1_L2 call) (puts R [(7,(R 4)),(8,r2.1),(9,r3.1),(10,r4.1),(11,r5.1),(5,(.int .i64 0))]) r5.2) fun r27=>kExit 2 r27.1 (bnd (oBin Tryz.prog .add 3 false true (r27.2.1 4) (.int .i64 1) r27.2.2) fun r28=>some (X.normal, (puts r27.2.1 [(12,(r27.2.1 4)),(13,r28.1),(4,r28.1)]), r28.2)) (none)) (some (X.exit 0, (puts R [(7,(R 4)),(8,r2.1),(9,r3.1),(10,r4.1),(11,r5.1)]), r5.2))
noncomputable def ref15_Places (call : Eng.Callee) (x0 : Value) (W : AW) : Option (Value × AW) := bnd (oBox x0 W) fun r1=>bnd (loopO (ref15_Places_L1 call) (puts (argGo 0 [x0] PlanTab.blank) [(1,r1.1),(2,(.slice none 0 0)),(3,(.slice none 0 0)),(4,(.int .i64 0))]) r1.2) fun r29=>kExit 0 r29.1 (oRes Tryz.prog [((r29.2.1 3), none)] r29.2.2) (none)
theorem ref15_Places_om {x0 : Value} {W : AW} {r : Value × AW} (h : ref15_Places omS x0 W = some r) : omS (.func (.func 60) #[] #[]) [x0] W = some (gc W r) := om_of (nt := 46) (n := 1) (by kernel_rfl) (by kernel_rfl) rfl (Eq.trans (by kernel_rfl) h)
noncomputable def slices_IndexFuncintint_L1 (call : Eng.Callee) (R : Nat → Value) (W : AW) : Option LT := bnd (oBin Tryz.prog .lss 3 false false (R 8) (R 7) W) fun r2=>vIf r2.1 (bnd (ixS 1 (R 0) (R 8) r2.2) fun r3=>bnd (ldC r3.1 r3.2) fun r4=>bnd (call (R 1) [r4.1] r4.2) fun r5=>vIf r5.1 (some (X.ret, (puts R [(9,r2.1),(10,(R 8)),(5,(R 8)),(11,(R 1)),(12,(R 0)),(13,(R 8)),(14,r3.1),(15,r4.1),(16,r5.1),(17,(R 8)),(4,(R 8))]), r5.2)) (bnd (oBin Tryz.prog .add 3 false true (R 8) (.int .i64 1) r5.2) fun r6=>some (X.normal, (puts R [(9,r2.1),(10,(R 8)),(5,(R 8)),(11,(R 1)),(12,(R 0)),(13,(R 8)),(14,r3.1),(15,r4.1),(16,r5.1),(18,r6.1),(8,r6.1)]), r6.2))) (some (X.exit 0, (rput R (some 9) r2.1), r2.2))
noncomputable def slices_IndexFuncintint (call : Eng.Callee) (x0 x1 : Value) (W : AW) : Option (Value × AW) := bnd (oBuiltin Tryz.prog .len #[40] 3 #[false] [x0] W) fun r1=>bnd (loopO (slices_IndexFuncintint_L1 call) (puts (argGo 0 [x0, x1] PlanTab.blank) [(4,(.int .i64 0)),(6,x0),(7,r1.1),(8,(.int .i64 0))]) r1.2) fun r7=>kExit 0 r7.1 (oRes Tryz.prog [((.int .i64 (-1)), none)] r7.2.2) (kRetX r7.1 (oRes Tryz.prog [((r7.2.1 4), none)] r7.2.2))
theorem slices_IndexFuncintint_om {x0 x1 : Value} {W : AW} {r : Value × AW} (h : slices_IndexFuncintint omS x0 x1 W = some r) : omS (.func (.func 61) #[] #[]) [x0, x1] W = some (gc W r) := om_of (nt := 19) (n := 2) (by kernel_rfl) (by kernel_rfl) rfl (Eq.trans (by kernel_rfl) h)
noncomputable def venue_rows (call : Eng.Callee) (x0 : Value) (W : AW) : Option (Value × AW) := bnd (oBox x0 W) fun r1=>bnd (oMkFunc (.func 115) #[] #[r1.1] r1.2) fun r2=>oRes Tryz.prog [(r2.1, none)] r2.2
theorem venue_rows_om {x0 : Value} {W : AW} {r : Value × AW} (h : venue_rows omS x0 W = some r) : omS (.func (.func 78) #[] #[]) [x0] W = some (gc W r) := om_of (nt := 4) (n := 1) (by kernel_rfl) (by kernel_rfl) rfl (Eq.trans (by kernel_rfl) h)
noncomputable def plans_Locks_L1 (call : Eng.Callee) (R : Nat → Value) (W : AW) : Option LT := bnd (oBin Tryz.prog .lss 3 false false (R 64) (R 63) W) fun r23=>vIf r23.1 (bnd (oBuildSlice Tryz.prog 40 1 [(0, (R 64))] r23.2) fun r24=>bnd (aAppend Tryz.prog r24.2 #[40, 40] (R 11) r24.1) fun r25=>bnd (oBin Tryz.prog .add 3 false true (R 64) (.int .i64 1) r25.2) fun r26=>some (X.normal, (puts R [(65,r23.1),(66,(R 64)),(12,(R 64)),(67,(R 11)),(68,(R 64)),(69,r24.1),(70,r25.1),(11,r25.1),(71,r26.1),(64,r26.1)]), r26.2)) (some (X.exit 6, (rput R (some 65) r23.1), r23.2))
noncomputable def plans_Locks (call : Eng.Callee) (x0 x1 : Value) (W : AW) : Option (Value × AW) := bnd (oBox x0 W) fun r1=>bnd (oBox x1 r1.2) fun r2=>bnd (ldA 4 r1.1 r2.2) fun r3=>bnd (call (fnV 27) [r3.1] r3.2) fun r4=>bnd (oExtract r4.1 0 r4.2) fun r5=>bnd (oExtract r4.1 1 r5.2) fun r6=>bnd (oBin Tryz.prog .neq 34 false true r6.1 (.int .i64 0) r6.2) fun r7=>vIf r7.1 (oRes Tryz.prog [((.slice none 0 0), none), (r6.1, none)] r7.2) (bnd (ldA 12 r2.1 r7.2) fun r8=>bnd (call (fnV 98) [r8.1] r8.2) fun r9=>bnd (oExtract r9.1 0 r9.2) fun r10=>bnd (oExtract r9.1 1 r10.2) fun r11=>bnd (oExtract r9.1 2 r11.2) fun r12=>bnd (oBin Tryz.prog .neq 34 false true r12.1 (.int .i64 0) r12.2) fun r13=>vIf r13.1 (oRes Tryz.prog [((.slice none 0 0), none), (r12.1, none)] r13.2) (bnd (faO 0 r2.1 r13.2) fun r14=>bnd (ldC r14.1 r14.2) fun r15=>bnd (oBin Tryz.prog .eql 3 false true r15.1 (.int .i64 12) r15.2) fun r16=>vIf r16.1 (bnd (faO 0 r1.1 r16.2) fun r17=>bnd (ldC r17.1 r17.2) fun r18=>bnd (faO 3 r1.1 r18.2) fun r19=>bnd (ldC r19.1 r19.2) fun r20=>bnd (oBuiltin Tryz.prog .len #[22] 3 #[false] [r20.1] r20.2) fun r21=>bnd (oBin Tryz.prog .add 3 false false r18.1 r21.1 r21.2) fun r22=>bnd (loopO (plans_Locks_L1 call) (puts (argGo 0 [x0, x1] PlanTab.blank) [(2,r1.1),(3,r2.1),(4,(.slice none 0 0)),(5,(.int .i64 0)),(24,r3.1),(25,r4.1),(23,r4.1),(26,r5.1),(27,r6.1),(6,r5.1),(7,r6.1),(28,r6.1),(29,r7.1),(32,r8.1),(33,r9.1),(31,r9.1),(34,r10.1),(35,r11.1),(36,r12.1),(8,r10.1),(9,r11.1),(10,r12.1),(37,r12.1),(38,r13.1),(11,(.slice none 0 0)),(40,r14.1),(41,r15.1),(43,r16.1),(42,r16.1),(58,r17.1),(59,r18.1),(60,r19.1),(61,r20.1),(62,r21.1),(63,r22.1),(64,(.int .i64 0))]) r22.2) fun r27=>kExit 6 r27.1 (oRes Tryz.prog [((r27.2.1 11), none), ((.int .i64 0), none)] r27.2.2) (none)) (bnd (oBin Tryz.prog .eql 3 false true r15.1 (.int .i64 3) r16.2) fun r28=>vIf r28.1 (bnd (ldA 4 r1.1 r28.2) fun r29=>bnd (call (fnV 116) [r29.1, r11.1] r29.2) fun r30=>bnd (oExtract r30.1 0 r30.2) fun r31=>bnd (oExtract r30.1 1 r31.2) fun r32=>bnd (oBin Tryz.prog .eql 34 false true r32.1 (.int .i64 0) r32.2) fun r33=>vIf r33.1 (oRes Tryz.prog [(r31.1, none), ((.int .i64 0), none)] r33.2) (oRes Tryz.prog [((.slice none 0 0), none), ((.int .i64 0), none)] r33.2)) (bnd (oBin Tryz.prog .eql 3 false true r15.1 (.int .i64 4) r28.2) fun r34=>vIf r34.1 (vIf r34.1 (bnd (ldA 4 r1.1 r34.2) fun r35=>bnd (call (fnV 117) [r35.1, r10.1] r35.2) fun r36=>bnd (oExtract r36.1 0 r36.2) fun r37=>bnd (oExtract r36.1 1 r37.2) fun r38=>bnd (oAlloc Tryz.prog 160 r38.2) fun r39=>bnd (stV 3 r39.1 r37.1 r39.2) fun r40=>bnd (oBin Tryz.prog .eql 34 false true r38.1 (.int .i64 0) r40.2) fun r41=>vIf r41.1 (bnd (ldA 4 r1.1 r41.2) fun r42=>bnd (faO 0 r39.1 r42.2) fun r43=>bnd (ldC r43.1 r43.2) fun r44=>bnd (call (fnV 118) [r42.1, r44.1] r44.2) fun r45=>bnd (oExtract r45.1 0 r45.2) fun r46=>bnd (oExtract r45.1 1 r46.2) fun r47=>bnd (oBuildSlice Tryz.prog 40 1 [(0, r46.1)] r47.2) fun r48=>bnd (aAppend Tryz.prog r48.2 #[40, 40] (.slice none 0 0) r48.1) fun r49=>bnd (ldA 4 r1.1 r49.2) fun r50=>bnd (call (fnV 119) [r50.1, r10.1] r50.2) fun r51=>bnd (oExtract r51.1 0 r51.2) fun r52=>bnd (oExtract r51.1 1 r52.2) fun r53=>bnd (oBin Tryz.prog .eql 34 false true r53.1 (.int .i64 0) r53.2) fun r54=>vIf r54.1 (bnd (oBuildSlice Tryz.prog 40 1 [(0, r52.1)] r54.2) fun r55=>bnd (aAppend Tryz.prog r55.2 #[40, 40] r55.1 r49.1) fun r56=>oRes Tryz.prog [(r56.1, none), ((.int .i64 0), none)] r56.2) (oRes Tryz.prog [(r49.1, none), ((.int .i64 0), none)] r54.2)) (bnd (ldA 4 r1.1 r41.2) fun r57=>bnd (call (fnV 119) [r57.1, r10.1] r57.2) fun r58=>bnd (oExtract r58.1 0 r58.2) fun r59=>bnd (oExtract r58.1 1 r59.2) fun r60=>bnd (oBin Tryz.prog .eql 34 false true r60.1 (.int .i64 0) r60.2) fun r61=>vIf r61.1 (bnd (oBuildSlice Tryz.prog 40 1 [(0, r59.1)] r61.2) fun r62=>bnd (aAppend Tryz.prog r62.2 #[40, 40] r62.1 (.slice none 0 0)) fun r63=>oRes Tryz.prog [(r63.1, none), ((.int .i64 0), none)] r63.2) (oRes Tryz.prog [((.slice none 0 0), none), ((.int .i64 0), none)] r61.2))) (bnd (oBin Tryz.prog .eql 3 false true r15.1 (.int .i64 2) r34.2) fun r64=>vIf r64.1 (vIf r64.1 (bnd (ldA 4 r1.1 r64.2) fun r65=>bnd (call (fnV 119) [r65.1, r10.1] r65.2) fun r66=>bnd (oExtract r66.1 0 r66.2) fun r67=>bnd (oExtract r66.1 1 r67.2) fun r68=>bnd (oBin Tryz.prog .eql 34 false true r68.1 (.int .i64 0) r68.2) fun r69=>vIf r69.1 (bnd (oBuildSlice Tryz.prog 40 1 [(0, r67.1)] r69.2) fun r70=>bnd (aAppend Tryz.prog r70.2 #[40, 40] r70.1 (.slice none 0 0)) fun r71=>oRes Tryz.prog [(r71.1, none), ((.int .i64 0), none)] r71.2) (oRes Tryz.prog [((.slice none 0 0), none), ((.int .i64 0), none)] r69.2)) (bnd (oBin Tryz.prog .eql 3 false true r15.1 (.int .i64 10) r64.2) fun r72=>vIf r72.1 (vIf r72.1 (bnd (ldA 4 r1.1 r72.2) fun r73=>bnd (call (fnV 118) [r73.1, r11.1] r73.2) fun r74=>bnd (oExtract r74.1 0 r74.2) fun r75=>bnd (oExtract r74.1 1 r75.2) fun r76=>bnd (oBin Tryz.prog .eql 34 false true r76.1 (.int .i64 0) r76.2) fun r77=>vIf r77.1 (bnd (oBuildSlice Tryz.prog 40 1 [(0, r75.1)] r77.2) fun r78=>bnd (aAppend Tryz.prog r78.2 #[40, 40] (.slice none 0 0) r78.1) fun r79=>oRes Tryz.prog [(r79.1, none), ((.int .i64 0), none)] r79.2) (oRes Tryz.prog [((.slice none 0 0), none), ((.int .i64 0), none)] r77.2)) (oRes Tryz.prog [((.slice none 0 0), none), ((.int .i64 0), none)] r72.2)) (bnd (oBin Tryz.prog .eql 3 false true r15.1 (.int .i64 11) r72.2) fun r80=>vIf r80.1 (bnd (ldA 4 r1.1 r80.2) fun r81=>bnd (call (fnV 118) [r81.1, r11.1] r81.2) fun r82=>bnd (oExtract r82.1 0 r82.2) fun r83=>bnd (oExtract r82.1 1 r83.2) fun r84=>bnd (oBin Tryz.prog .eql 34 false true r84.1 (.int .i64 0) r84.2) fun r85=>vIf r85.1 (bnd (oBuildSlice Tryz.prog 40 1 [(0, r83.1)] r85.2) fun r86=>bnd (aAppend Tryz.prog r86.2 #[40, 40] (.slice none 0 0) r86.1) fun r87=>oRes Tryz.prog [(r87.1, none), ((.int .i64 0), none)] r87.2) (oRes Tryz.prog [((.slice none 0 0), none), ((.int .i64 0), none)] r85.2)) (oRes Tryz.prog [((.slice none 0 0), none), ((.int .i64 0), none)] r80.2)))) (bnd (oBin Tryz.prog .eql 3 false true r15.1 (.int .i64 5) r64.2) fun r88=>vIf r88.1 (vIf r88.1 (bnd (ldA 4 r1.1 r88.2) fun r89=>bnd (call (fnV 119) [r89.1, r10.1] r89.2) fun r90=>bnd (oExtract r90.1 0 r90.2) fun r91=>bnd (oExtract r90.1 1 r91.2) fun r92=>bnd (oBin Tryz.prog .eql 34 false true r92.1 (.int .i64 0) r92.2) fun r93=>vIf r93.1 (bnd (oBuildSlice Tryz.prog 40 1 [(0, r91.1)] r93.2) fun r94=>bnd (aAppend Tryz.prog r94.2 #[40, 40] r94.1 (.slice none 0 0)) fun r95=>oRes Tryz.prog [(r95.1, none), ((.int .i64 0), none)] r95.2) (oRes Tryz.prog [((.slice none 0 0), none), ((.int .i64 0), none)] r93.2)) (bnd (oBin Tryz.prog .eql 3 false true r15.1 (.int .i64 10) r88.2) fun r96=>vIf r96.1 (vIf r96.1 (bnd (ldA 4 r1.1 r96.2) fun r97=>bnd (call (fnV 118) [r97.1, r11.1] r97.2) fun r98=>bnd (oExtract r98.1 0 r98.2) fun r99=>bnd (oExtract r98.1 1 r99.2) fun r100=>bnd (oBin Tryz.prog .eql 34 false true r100.1 (.int .i64 0) r100.2) fun r101=>vIf r101.1 (bnd (oBuildSlice Tryz.prog 40 1 [(0, r99.1)] r101.2) fun r102=>bnd (aAppend Tryz.prog r102.2 #[40, 40] (.slice none 0 0) r102.1) fun r103=>oRes Tryz.prog [(r103.1, none), ((.int .i64 0), none)] r103.2) (oRes Tryz.prog [((.slice none 0 0), none), ((.int .i64 0), none)] r101.2)) (oRes Tryz.prog [((.slice none 0 0), none), ((.int .i64 0), none)] r96.2)) (bnd (oBin Tryz.prog .eql 3 false true r15.1 (.int .i64 11) r96.2) fun r104=>vIf r104.1 (bnd (ldA 4 r1.1 r104.2) fun r105=>bnd (call (fnV 118) [r105.1, r11.1] r105.2) fun r106=>bnd (oExtract r106.1 0 r106.2) fun r107=>bnd (oExtract r106.1 1 r107.2) fun r108=>bnd (oBin Tryz.prog .eql 34 false true r108.1 (.int .i64 0) r108.2) fun r109=>vIf r109.1 (bnd (oBuildSlice Tryz.prog 40 1 [(0, r107.1)] r109.2) fun r110=>bnd (aAppend Tryz.prog r110.2 #[40, 40] (.slice none 0 0) r110.1) fun r111=>oRes Tryz.prog [(r111.1, none), ((.int .i64 0), none)] r111.2) (oRes Tryz.prog [((.slice none 0 0), none), ((.int .i64 0), none)] r109.2)) (oRes Tryz.prog [((.slice none 0 0), none), ((.int .i64 0), none)] r104.2)))) (bnd (oBin Tryz.prog .eql 3 false true r15.1 (.int .i64 6) r88.2) fun r112=>vIf r112.1 (vIf r112.1 (bnd (ldA 4 r1.1 r112.2) fun r113=>bnd (call (fnV 119) [r113.1, r10.1] r113.2) fun r114=>bnd (oExtract r114.1 0 r114.2) fun r115=>bnd (oExtract r114.1 1 r115.2) fun r116=>bnd (oBin Tryz.prog .eql 34 false true r116.1 (.int .i64 0) r116.2) fun r117=>vIf r117.1 (bnd (oBuildSlice Tryz.prog 40 1 [(0, r115.1)] r117.2) fun r118=>bnd (aAppend Tryz.prog r118.2 #[40, 40] r118.1 (.slice none 0 0)) fun r119=>oRes Tryz.prog [(r119.1, none), ((.int .i64 0), none)] r119.2) (oRes Tryz.prog [((.slice none 0 0), none), ((.int .i64 0), none)] r117.2)) (bnd (oBin Tryz.prog .eql 3 false true r15.1 (.int .i64 10) r112.2) fun r120=>vIf r120.1 (vIf r120.1 (bnd (ldA 4 r1.1 r120.2) fun r121=>bnd (call (fnV 118) [r121.1, r11.1] r121.2) fun r122=>bnd (oExtract r122.1 0 r122.2) fun r123=>bnd (oExtract r122.1 1 r123.2) fun r124=>bnd (oBin Tryz.prog .eql 34 false true r124.1 (.int .i64 0) r124.2) fun r125=>vIf r125.1 (bnd (oBuildSlice Tryz.prog 40 1 [(0, r123.1)] r125.2) fun r126=>bnd (aAppend Tryz.prog r126.2 #[40, 40] (.slice none 0 0) r126.1) fun r127=>oRes Tryz.prog [(r127.1, none), ((.int .i64 0), none)] r127.2) (oRes Tryz.prog [((.slice none 0 0), none), ((.int .i64 0), none)] r125.2)) (oRes Tryz.prog [((.slice none 0 0), none), ((.int .i64 0), none)] r120.2)) (bnd (oBin Tryz.prog .eql 3 false true r15.1 (.int .i64 11) r120.2) fun r128=>vIf r128.1 (bnd (ldA 4 r1.1 r128.2) fun r129=>bnd (call (fnV 118) [r129.1, r11.1] r129.2) fun r130=>bnd (oExtract r130.1 0 r130.2) fun r131=>bnd (oExtract r130.1 1 r131.2) fun r132=>bnd (oBin Tryz.prog .eql 34 false true r132.1 (.int .i64 0) r132.2) fun r133=>vIf r133.1 (bnd (oBuildSlice Tryz.prog 40 1 [(0, r131.1)] r133.2) fun r134=>bnd (aAppend Tryz.prog r134.2 #[40, 40] (.slice none 0 0) r134.1) fun r135=>oRes Tryz.prog [(r135.1, none), ((.int .i64 0), none)] r135.2) (oRes Tryz.prog [((.slice none 0 0), none), ((.int .i64 0), none)] r133.2)) (oRes Tryz.prog [((.slice none 0 0), none), ((.int .i64 0), none)] r128.2)))) (bnd (oBin Tryz.prog .eql 3 false true r15.1 (.int .i64 9) r112.2) fun r136=>vIf r136.1 (bnd (ldA 4 r1.1 r136.2) fun r137=>bnd (call (fnV 119) [r137.1, r10.1] r137.2) fun r138=>bnd (oExtract r138.1 0 r138.2) fun r139=>bnd (oExtract r138.1 1 r139.2) fun r140=>bnd (oBin Tryz.prog .eql 34 false true r140.1 (.int .i64 0) r140.2) fun r141=>vIf r141.1 (bnd (oBuildSlice Tryz.prog 40 1 [(0, r139.1)] r141.2) fun r142=>bnd (aAppend Tryz.prog r142.2 #[40, 40] r142.1 (.slice none 0 0)) fun r143=>oRes Tryz.prog [(r143.1, none), ((.int .i64 0), none)] r143.2) (oRes Tryz.prog [((.slice none 0 0), none), ((.int .i64 0), none)] r141.2)) (bnd (oBin Tryz.prog .eql 3 false true r15.1 (.int .i64 10) r136.2) fun r144=>vIf r144.1 (vIf r144.1 (bnd (ldA 4 r1.1 r144.2) fun r145=>bnd (call (fnV 118) [r145.1, r11.1] r145.2) fun r146=>bnd (oExtract r146.1 0 r146.2) fun r147=>bnd (oExtract r146.1 1 r147.2) fun r148=>bnd (oBin Tryz.prog .eql 34 false true r148.1 (.int .i64 0) r148.2) fun r149=>vIf r149.1 (bnd (oBuildSlice Tryz.prog 40 1 [(0, r147.1)] r149.2) fun r150=>bnd (aAppend Tryz.prog r150.2 #[40, 40] (.slice none 0 0) r150.1) fun r151=>oRes Tryz.prog [(r151.1, none), ((.int .i64 0), none)] r151.2) (oRes Tryz.prog [((.slice none 0 0), none), ((.int .i64 0), none)] r149.2)) (oRes Tryz.prog [((.slice none 0 0), none), ((.int .i64 0), none)] r144.2)) (bnd (oBin Tryz.prog .eql 3 false true r15.1 (.int .i64 11) r144.2) fun r152=>vIf r152.1 (bnd (ldA 4 r1.1 r152.2) fun r153=>bnd (call (fnV 118) [r153.1, r11.1] r153.2) fun r154=>bnd (oExtract r154.1 0 r154.2) fun r155=>bnd (oExtract r154.1 1 r155.2) fun r156=>bnd (oBin Tryz.prog .eql 34 false true r156.1 (.int .i64 0) r156.2) fun r157=>vIf r157.1 (bnd (oBuildSlice Tryz.prog 40 1 [(0, r155.1)] r157.2) fun r158=>bnd (aAppend Tryz.prog r158.2 #[40, 40] (.slice none 0 0) r158.1) fun r159=>oRes Tryz.prog [(r159.1, none), ((.int .i64 0), none)] r159.2) (oRes Tryz.prog [((.slice none 0 0), none), ((.int .i64 0), none)] r157.2)) (oRes Tryz.prog [((.slice none 0 0), none), ((.int .i64 0), none)] r152.2)))))))) (bnd (oBin Tryz.prog .eql 3 false true r15.1 (.int .i64 8) r34.2) fun r160=>vIf r160.1 (vIf r160.1 (bnd (ldA 4 r1.1 r160.2) fun r161=>bnd (call (fnV 117) [r161.1, r10.1] r161.2) fun r162=>bnd (oExtract r162.1 0 r162.2) fun r163=>bnd (oExtract r162.1 1 r163.2) fun r164=>bnd (oAlloc Tryz.prog 160 r164.2) fun r165=>bnd (stV 3 r165.1 r163.1 r165.2) fun r166=>bnd (oBin Tryz.prog .eql 34 false true r164.1 (.int .i64 0) r166.2) fun r167=>vIf r167.1 (bnd (ldA 4 r1.1 r167.2) fun r168=>bnd (faO 0 r165.1 r168.2) fun r169=>bnd (ldC r169.1 r169.2) fun r170=>bnd (call (fnV 118) [r168.1, r170.1] r170.2) fun r171=>bnd (oExtract r171.1 0 r171.2) fun r172=>bnd (oExtract r171.1 1 r172.2) fun r173=>bnd (oBuildSlice Tryz.prog 40 1 [(0, r172.1)] r173.2) fun r174=>bnd (aAppend Tryz.prog r174.2 #[40, 40] (.slice none 0 0) r174.1) fun r175=>bnd (ldA 4 r1.1 r175.2) fun r176=>bnd (call (fnV 119) [r176.1, r10.1] r176.2) fun r177=>bnd (oExtract r177.1 0 r177.2) fun r178=>bnd (oExtract r177.1 1 r178.2) fun r179=>bnd (oBin Tryz.prog .eql 34 false true r179.1 (.int .i64 0) r179.2) fun r180=>vIf r180.1 (bnd (oBuildSlice Tryz.prog 40 1 [(0, r178.1)] r180.2) fun r181=>bnd (aAppend Tryz.prog r181.2 #[40, 40] r181.1 r175.1) fun r182=>oRes Tryz.prog [(r182.1, none), ((.int .i64 0), none)] r182.2) (oRes Tryz.prog [(r175.1, none), ((.int .i64 0), none)] r180.2)) (bnd (ldA 4 r1.1 r167.2) fun r183=>bnd (call (fnV 119) [r183.1, r10.1] r183.2) fun r184=>bnd (oExtract r184.1 0 r184.2) fun r185=>bnd (oExtract r184.1 1 r185.2) fun r186=>bnd (oBin Tryz.prog .eql 34 false true r186.1 (.int .i64 0) r186.2) fun r187=>vIf r187.1 (bnd (oBuildSlice Tryz.prog 40 1 [(0, r185.1)] r187.2) fun r188=>bnd (aAppend Tryz.prog r188.2 #[40, 40] r188.1 (.slice none 0 0)) fun r189=>oRes Tryz.prog [(r189.1, none), ((.int .i64 0), none)] r189.2) (oRes Tryz.prog [((.slice none 0 0), none), ((.int .i64 0), none)] r187.2))) (bnd (oBin Tryz.prog .eql 3 false true r15.1 (.int .i64 2) r160.2) fun r190=>vIf r190.1 (vIf r190.1 (bnd (ldA 4 r1.1 r190.2) fun r191=>bnd (call (fnV 119) [r191.1, r10.1] r191.2) fun r192=>bnd (oExtract r192.1 0 r192.2) fun r193=>bnd (oExtract r192.1 1 r193.2) fun r194=>bnd (oBin Tryz.prog .eql 34 false true r194.1 (.int .i64 0) r194.2) fun r195=>vIf r195.1 (bnd (oBuildSlice Tryz.prog 40 1 [(0, r193.1)] r195.2) fun r196=>bnd (aAppend Tryz.prog r196.2 #[40, 40] r196.1 (.slice none 0 0)) fun r197=>oRes Tryz.prog [(r197.1, none), ((.int .i64 0), none)] r197.2) (oRes Tryz.prog [((.slice none 0 0), none), ((.int .i64 0), none)] r195.2)) (bnd (oBin Tryz.prog .eql 3 false true r15.1 (.int .i64 10) r190.2) fun r198=>vIf r198.1 (vIf r198.1 (bnd (ldA 4 r1.1 r198.2) fun r199=>bnd (call (fnV 118) [r199.1, r11.1] r199.2) fun r200=>bnd (oExtract r200.1 0 r200.2) fun r201=>bnd (oExtract r200.1 1 r201.2) fun r202=>bnd (oBin Tryz.prog .eql 34 false true r202.1 (.int .i64 0) r202.2) fun r203=>vIf r203.1 (bnd (oBuildSlice Tryz.prog 40 1 [(0, r201.1)] r203.2) fun r204=>bnd (aAppend Tryz.prog r204.2 #[40, 40] (.slice none 0 0) r204.1) fun r205=>oRes Tryz.prog [(r205.1, none), ((.int .i64 0), none)] r205.2) (oRes Tryz.prog [((.slice none 0 0), none), ((.int .i64 0), none)] r203.2)) (oRes Tryz.prog [((.slice none 0 0), none), ((.int .i64 0), none)] r198.2)) (bnd (oBin Tryz.prog .eql 3 false true r15.1 (.int .i64 11) r198.2) fun r206=>vIf r206.1 (bnd (ldA 4 r1.1 r206.2) fun r207=>bnd (call (fnV 118) [r207.1, r11.1] r207.2) fun r208=>bnd (oExtract r208.1 0 r208.2) fun r209=>bnd (oExtract r208.1 1 r209.2) fun r210=>bnd (oBin Tryz.prog .eql 34 false true r210.1 (.int .i64 0) r210.2) fun r211=>vIf r211.1 (bnd (oBuildSlice Tryz.prog 40 1 [(0, r209.1)] r211.2) fun r212=>bnd (aAppend Tryz.prog r212.2 #[40, 40] (.slice none 0 0) r212.1) fun r213=>oRes Tryz.prog [(r213.1, none), ((.int .i64 0), none)] r213.2) (oRes Tryz.prog [((.slice none 0 0), none), ((.int .i64 0), none)] r211.2)) (oRes Tryz.prog [((.slice none 0 0), none), ((.int .i64 0), none)] r206.2)))) (bnd (oBin Tryz.prog .eql 3 false true r15.1 (.int .i64 5) r190.2) fun r214=>vIf r214.1 (vIf r214.1 (bnd (ldA 4 r1.1 r214.2) fun r215=>bnd (call (fnV 119) [r215.1, r10.1] r215.2) fun r216=>bnd (oExtract r216.1 0 r216.2) fun r217=>bnd (oExtract r216.1 1 r217.2) fun r218=>bnd (oBin Tryz.prog .eql 34 false true r218.1 (.int .i64 0) r218.2) fun r219=>vIf r219.1 (bnd (oBuildSlice Tryz.prog 40 1 [(0, r217.1)] r219.2) fun r220=>bnd (aAppend Tryz.prog r220.2 #[40, 40] r220.1 (.slice none 0 0)) fun r221=>oRes Tryz.prog [(r221.1, none), ((.int .i64 0), none)] r221.2) (oRes Tryz.prog [((.slice none 0 0), none), ((.int .i64 0), none)] r219.2)) (bnd (oBin Tryz.prog .eql 3 false true r15.1 (.int .i64 10) r214.2) fun r222=>vIf r222.1 (vIf r222.1 (bnd (ldA 4 r1.1 r222.2) fun r223=>bnd (call (fnV 118) [r223.1, r11.1] r223.2) fun r224=>bnd (oExtract r224.1 0 r224.2) fun r225=>bnd (oExtract r224.1 1 r225.2) fun r226=>bnd (oBin Tryz.prog .eql 34 false true r226.1 (.int .i64 0) r226.2) fun r227=>vIf r227.1 (bnd (oBuildSlice Tryz.prog 40 1 [(0, r225.1)] r227.2) fun r228=>bnd (aAppend Tryz.prog r228.2 #[40, 40] (.slice none 0 0) r228.1) fun r229=>oRes Tryz.prog [(r229.1, none), ((.int .i64 0), none)] r229.2) (oRes Tryz.prog [((.slice none 0 0), none), ((.int .i64 0), none)] r227.2)) (oRes Tryz.prog [((.slice none 0 0), none), ((.int .i64 0), none)] r222.2)) (bnd (oBin Tryz.prog .eql 3 false true r15.1 (.int .i64 11) r222.2) fun r230=>vIf r230.1 (bnd (ldA 4 r1.1 r230.2) fun r231=>bnd (call (fnV 118) [r231.1, r11.1] r231.2) fun r232=>bnd (oExtract r232.1 0 r232.2) fun r233=>bnd (oExtract r232.1 1 r233.2) fun r234=>bnd (oBin Tryz.prog .eql 34 false true r234.1 (.int .i64 0) r234.2) fun r235=>vIf r235.1 (bnd (oBuildSlice Tryz.prog 40 1 [(0, r233.1)] r235.2) fun r236=>bnd (aAppend Tryz.prog r236.2 #[40, 40] (.slice none 0 0) r236.1) fun r237=>oRes Tryz.prog [(r237.1, none), ((.int .i64 0), none)] r237.2) (oRes Tryz.prog [((.slice none 0 0), none), ((.int .i64 0), none)] r235.2)) (oRes Tryz.prog [((.slice none 0 0), none), ((.int .i64 0), none)] r230.2)))) (bnd (oBin Tryz.prog .eql 3 false true r15.1 (.int .i64 6) r214.2) fun r238=>vIf r238.1 (vIf r238.1 (bnd (ldA 4 r1.1 r238.2) fun r239=>bnd (call (fnV 119) [r239.1, r10.1] r239.2) fun r240=>bnd (oExtract r240.1 0 r240.2) fun r241=>bnd (oExtract r240.1 1 r241.2) fun r242=>bnd (oBin Tryz.prog .eql 34 false true r242.1 (.int .i64 0) r242.2) fun r243=>vIf r243.1 (bnd (oBuildSlice Tryz.prog 40 1 [(0, r241.1)] r243.2) fun r244=>bnd (aAppend Tryz.prog r244.2 #[40, 40] r244.1 (.slice none 0 0)) fun r245=>oRes Tryz.prog [(r245.1, none), ((.int .i64 0), none)] r245.2) (oRes Tryz.prog [((.slice none 0 0), none), ((.int .i64 0), none)] r243.2)) (bnd (oBin Tryz.prog .eql 3 false true r15.1 (.int .i64 10) r238.2) fun r246=>vIf r246.1 (vIf r246.1 (bnd (ldA 4 r1.1 r246.2) fun r247=>bnd (call (fnV 118) [r247.1, r11.1] r247.2) fun r248=>bnd (oExtract r248.1 0 r248.2) fun r249=>bnd (oExtract r248.1 1 r249.2) fun r250=>bnd (oBin Tryz.prog .eql 34 false true r250.1 (.int .i64 0) r250.2) fun r251=>vIf r251.1 (bnd (oBuildSlice Tryz.prog 40 1 [(0, r249.1)] r251.2) fun r252=>bnd (aAppend Tryz.prog r252.2 #[40, 40] (.slice none 0 0) r252.1) fun r253=>oRes Tryz.prog [(r253.1, none), ((.int .i64 0), none)] r253.2) (oRes Tryz.prog [((.slice none 0 0), none), ((.int .i64 0), none)] r251.2)) (oRes Tryz.prog [((.slice none 0 0), none), ((.int .i64 0), none)] r246.2)) (bnd (oBin Tryz.prog .eql 3 false true r15.1 (.int .i64 11) r246.2) fun r254=>vIf r254.1 (bnd (ldA 4 r1.1 r254.2) fun r255=>bnd (call (fnV 118) [r255.1, r11.1] r255.2) fun r256=>bnd (oExtract r256.1 0 r256.2) fun r257=>bnd (oExtract r256.1 1 r257.2) fun r258=>bnd (oBin Tryz.prog .eql 34 false true r258.1 (.int .i64 0) r258.2) fun r259=>vIf r259.1 (bnd (oBuildSlice Tryz.prog 40 1 [(0, r257.1)] r259.2) fun r260=>bnd (aAppend Tryz.prog r260.2 #[40, 40] (.slice none 0 0) r260.1) fun r261=>oRes Tryz.prog [(r261.1, none), ((.int .i64 0), none)] r261.2) (oRes Tryz.prog [((.slice none 0 0), none), ((.int .i64 0), none)] r259.2)) (oRes Tryz.prog [((.slice none 0 0), none), ((.int .i64 0), none)] r254.2)))) (bnd (oBin Tryz.prog .eql 3 false true r15.1 (.int .i64 9) r238.2) fun r262=>vIf r262.1 (bnd (ldA 4 r1.1 r262.2) fun r263=>bnd (call (fnV 119) [r263.1, r10.1] r263.2) fun r264=>bnd (oExtract r264.1 0 r264.2) fun r265=>bnd (oExtract r264.1 1 r265.2) fun r266=>bnd (oBin Tryz.prog .eql 34 false true r266.1 (.int .i64 0) r266.2) fun r267=>vIf r267.1 (bnd (oBuildSlice Tryz.prog 40 1 [(0, r265.1)] r267.2) fun r268=>bnd (aAppend Tryz.prog r268.2 #[40, 40] r268.1 (.slice none 0 0)) fun r269=>oRes Tryz.prog [(r269.1, none), ((.int .i64 0), none)] r269.2) (oRes Tryz.prog [((.slice none 0 0), none), ((.int .i64 0), none)] r267.2)) (bnd (oBin Tryz.prog .eql 3 false true r15.1 (.int .i64 10) r262.2) fun r270=>vIf r270.1 (vIf r270.1 (bnd (ldA 4 r1.1 r270.2) fun r271=>bnd (call (fnV 118) [r271.1, r11.1] r271.2) fun r272=>bnd (oExtract r272.1 0 r272.2) fun r273=>bnd (oExtract r272.1 1 r273.2) fun r274=>bnd (oBin Tryz.prog .eql 34 false true r274.1 (.int .i64 0) r274.2) fun r275=>vIf r275.1 (bnd (oBuildSlice Tryz.prog 40 1 [(0, r273.1)] r275.2) fun r276=>bnd (aAppend Tryz.prog r276.2 #[40, 40] (.slice none 0 0) r276.1) fun r277=>oRes Tryz.prog [(r277.1, none), ((.int .i64 0), none)] r277.2) (oRes Tryz.prog [((.slice none 0 0), none), ((.int .i64 0), none)] r275.2)) (oRes Tryz.prog [((.slice none 0 0), none), ((.int .i64 0), none)] r270.2)) (bnd (oBin Tryz.prog .eql 3 false true r15.1 (.int .i64 11) r270.2) fun r278=>vIf r278.1 (bnd (ldA 4 r1.1 r278.2) fun r279=>bnd (call (fnV 118) [r279.1, r11.1] r279.2) fun r280=>bnd (oExtract r280.1 0 r280.2) fun r281=>bnd (oExtract r280.1 1 r281.2) fun r282=>bnd (oBin Tryz.prog .eql 34 false true r282.1 (.int .i64 0) r282.2) fun r283=>vIf r283.1 (bnd (oBuildSlice Tryz.prog 40 1 [(0, r281.1)] r283.2) fun r284=>bnd (aAppend Tryz.prog r284.2 #[40, 40] (.slice none 0 0) r284.1) fun r285=>oRes Tryz.prog [(r285.1, none), ((.int .i64 0), none)] r285.2) (oRes Tryz.prog [((.slice none 0 0), none), ((.int .i64 0), none)] r283.2)) (oRes Tryz.prog [((.slice none 0 0), none), ((.int .i64 0), none)] r278.2)))))))) (bnd (oBin Tryz.prog .eql 3 false true r15.1 (.int .i64 7) r160.2) fun r286=>vIf r286.1 (bnd (ldA 4 r1.1 r286.2) fun r287=>bnd (call (fnV 117) [r287.1, r10.1] r287.2) fun r288=>bnd (oExtract r288.1 0 r288.2) fun r289=>bnd (oExtract r288.1 1 r289.2) fun r290=>bnd (oAlloc Tryz.prog 160 r290.2) fun r291=>bnd (stV 3 r291.1 r289.1 r291.2) fun r292=>bnd (oBin Tryz.prog .eql 34 false true r290.1 (.int .i64 0) r292.2) fun r293=>vIf r293.1 (bnd (ldA 4 r1.1 r293.2) fun r294=>bnd (faO 0 r291.1 r294.2) fun r295=>bnd (ldC r295.1 r295.2) fun r296=>bnd (call (fnV 118) [r294.1, r296.1] r296.2) fun r297=>bnd (oExtract r297.1 0 r297.2) fun r298=>bnd (oExtract r297.1 1 r298.2) fun r299=>bnd (oBuildSlice Tryz.prog 40 1 [(0, r298.1)] r299.2) fun r300=>bnd (aAppend Tryz.prog r300.2 #[40, 40] (.slice none 0 0) r300.1) fun r301=>bnd (ldA 4 r1.1 r301.2) fun r302=>bnd (call (fnV 119) [r302.1, r10.1] r302.2) fun r303=>bnd (oExtract r303.1 0 r303.2) fun r304=>bnd (oExtract r303.1 1 r304.2) fun r305=>bnd (oBin Tryz.prog .eql 34 false true r305.1 (.int .i64 0) r305.2) fun r306=>vIf r306.1 (bnd (oBuildSlice Tryz.prog 40 1 [(0, r304.1)] r306.2) fun r307=>bnd (aAppend Tryz.prog r307.2 #[40, 40] r307.1 r301.1) fun r308=>oRes Tryz.prog [(r308.1, none), ((.int .i64 0), none)] r308.2) (oRes Tryz.prog [(r301.1, none), ((.int .i64 0), none)] r306.2)) (bnd (ldA 4 r1.1 r293.2) fun r309=>bnd (call (fnV 119) [r309.1, r10.1] r309.2) fun r310=>bnd (oExtract r310.1 0 r310.2) fun r311=>bnd (oExtract r310.1 1 r311.2) fun r312=>bnd (oBin Tryz.prog .eql 34 false true r312.1 (.int .i64 0) r312.2) fun r313=>vIf r313.1 (bnd (oBuildSlice Tryz.prog 40 1 [(0, r311.1)] r313.2) fun r314=>bnd (aAppend Tryz.prog r314.2 #[40, 40] r314.1 (.slice none 0 0)) fun r315=>oRes Tryz.prog [(r315.1, none), ((.int .i64 0), none)] r315.2) (oRes Tryz.prog [((.slice none 0 0), none), ((.int .i64 0), none)] r313.2))) (bnd (oBin Tryz.prog .eql 3 false true r15.1 (.int .i64 2) r286.2) fun r316=>vIf r316.1 (vIf r316.1 (bnd (ldA 4 r1.1 r316.2) fun r317=>bnd (call (fnV 119) [r317.1, r10.1] r317.2) fun r318=>bnd (oExtract r318.1 0 r318.2) fun r319=>bnd (oExtract r318.1 1 r319.2) fun r320=>bnd (oBin Tryz.prog .eql 34 false true r320.1 (.int .i64 0) r320.2) fun r321=>vIf r321.1 (bnd (oBuildSlice Tryz.prog 40 1 [(0, r319.1)] r321.2) fun r322=>bnd (aAppend Tryz.prog r322.2 #[40, 40] r322.1 (.slice none 0 0)) fun r323=>oRes Tryz.prog [(r323.1, none), ((.int .i64 0), none)] r323.2) (oRes Tryz.prog [((.slice none 0 0), none), ((.int .i64 0), none)] r321.2)) (bnd (oBin Tryz.prog .eql 3 false true r15.1 (.int .i64 10) r316.2) fun r324=>vIf r324.1 (vIf r324.1 (bnd (ldA 4 r1.1 r324.2) fun r325=>bnd (call (fnV 118) [r325.1, r11.1] r325.2) fun r326=>bnd (oExtract r326.1 0 r326.2) fun r327=>bnd (oExtract r326.1 1 r327.2) fun r328=>bnd (oBin Tryz.prog .eql 34 false true r328.1 (.int .i64 0) r328.2) fun r329=>vIf r329.1 (bnd (oBuildSlice Tryz.prog 40 1 [(0, r327.1)] r329.2) fun r330=>bnd (aAppend Tryz.prog r330.2 #[40, 40] (.slice none 0 0) r330.1) fun r331=>oRes Tryz.prog [(r331.1, none), ((.int .i64 0), none)] r331.2) (oRes Tryz.prog [((.slice none 0 0), none), ((.int .i64 0), none)] r329.2)) (oRes Tryz.prog [((.slice none 0 0), none), ((.int .i64 0), none)] r324.2)) (bnd (oBin Tryz.prog .eql 3 false true r15.1 (.int .i64 11) r324.2) fun r332=>vIf r332.1 (bnd (ldA 4 r1.1 r332.2) fun r333=>bnd (call (fnV 118) [r333.1, r11.1] r333.2) fun r334=>bnd (oExtract r334.1 0 r334.2) fun r335=>bnd (oExtract r334.1 1 r335.2) fun r336=>bnd (oBin Tryz.prog .eql 34 false true r336.1 (.int .i64 0) r336.2) fun r337=>vIf r337.1 (bnd (oBuildSlice Tryz.prog 40 1 [(0, r335.1)] r337.2) fun r338=>bnd (aAppend Tryz.prog r338.2 #[40, 40] (.slice none 0 0) r338.1) fun r339=>oRes Tryz.prog [(r339.1, none), ((.int .i64 0), none)] r339.2) (oRes Tryz.prog [((.slice none 0 0), none), ((.int .i64 0), none)] r337.2)) (oRes Tryz.prog [((.slice none 0 0), none), ((.int .i64 0), none)] r332.2)))) (bnd (oBin Tryz.prog .eql 3 false true r15.1 (.int .i64 5) r316.2) fun r340=>vIf r340.1 (vIf r340.1 (bnd (ldA 4 r1.1 r340.2) fun r341=>bnd (call (fnV 119) [r341.1, r10.1] r341.2) fun r342=>bnd (oExtract r342.1 0 r342.2) fun r343=>bnd (oExtract r342.1 1 r343.2) fun r344=>bnd (oBin Tryz.prog .eql 34 false true r344.1 (.int .i64 0) r344.2) fun r345=>vIf r345.1 (bnd (oBuildSlice Tryz.prog 40 1 [(0, r343.1)] r345.2) fun r346=>bnd (aAppend Tryz.prog r346.2 #[40, 40] r346.1 (.slice none 0 0)) fun r347=>oRes Tryz.prog [(r347.1, none), ((.int .i64 0), none)] r347.2) (oRes Tryz.prog [((.slice none 0 0), none), ((.int .i64 0), none)] r345.2)) (bnd (oBin Tryz.prog .eql 3 false true r15.1 (.int .i64 10) r340.2) fun r348=>vIf r348.1 (vIf r348.1 (bnd (ldA 4 r1.1 r348.2) fun r349=>bnd (call (fnV 118) [r349.1, r11.1] r349.2) fun r350=>bnd (oExtract r350.1 0 r350.2) fun r351=>bnd (oExtract r350.1 1 r351.2) fun r352=>bnd (oBin Tryz.prog .eql 34 false true r352.1 (.int .i64 0) r352.2) fun r353=>vIf r353.1 (bnd (oBuildSlice Tryz.prog 40 1 [(0, r351.1)] r353.2) fun r354=>bnd (aAppend Tryz.prog r354.2 #[40, 40] (.slice none 0 0) r354.1) fun r355=>oRes Tryz.prog [(r355.1, none), ((.int .i64 0), none)] r355.2) (oRes Tryz.prog [((.slice none 0 0), none), ((.int .i64 0), none)] r353.2)) (oRes Tryz.prog [((.slice none 0 0), none), ((.int .i64 0), none)] r348.2)) (bnd (oBin Tryz.prog .eql 3 false true r15.1 (.int .i64 11) r348.2) fun r356=>vIf r356.1 (bnd (ldA 4 r1.1 r356.2) fun r357=>bnd (call (fnV 118) [r357.1, r11.1] r357.2) fun r358=>bnd (oExtract r358.1 0 r358.2) fun r359=>bnd (oExtract r358.1 1 r359.2) fun r360=>bnd (oBin Tryz.prog .eql 34 false true r360.1 (.int .i64 0) r360.2) fun r361=>vIf r361.1 (bnd (oBuildSlice Tryz.prog 40 1 [(0, r359.1)] r361.2) fun r362=>bnd (aAppend Tryz.prog r362.2 #[40, 40] (.slice none 0 0) r362.1) fun r363=>oRes Tryz.prog [(r363.1, none), ((.int .i64 0), none)] r363.2) (oRes Tryz.prog [((.slice none 0 0), none), ((.int .i64 0), none)] r361.2)) (oRes Tryz.prog [((.slice none 0 0), none), ((.int .i64 0), none)] r356.2)))) (bnd (oBin Tryz.prog .eql 3 false true r15.1 (.int .i64 6) r340.2) fun r364=>vIf r364.1 (vIf r364.1 (bnd (ldA 4 r1.1 r364.2) fun r365=>bnd (call (fnV 119) [r365.1, r10.1] r365.2) fun r366=>bnd (oExtract r366.1 0 r366.2) fun r367=>bnd (oExtract r366.1 1 r367.2) fun r368=>bnd (oBin Tryz.prog .eql 34 false true r368.1 (.int .i64 0) r368.2) fun r369=>vIf r369.1 (bnd (oBuildSlice Tryz.prog 40 1 [(0, r367.1)] r369.2) fun r370=>bnd (aAppend Tryz.prog r370.2 #[40, 40] r370.1 (.slice none 0 0)) fun r371=>oRes Tryz.prog [(r371.1, none), ((.int .i64 0), none)] r371.2) (oRes Tryz.prog [((.slice none 0 0), none), ((.int .i64 0), none)] r369.2)) (bnd (oBin Tryz.prog .eql 3 false true r15.1 (.int .i64 10) r364.2) fun r372=>vIf r372.1 (vIf r372.1 (bnd (ldA 4 r1.1 r372.2) fun r373=>bnd (call (fnV 118) [r373.1, r11.1] r373.2) fun r374=>bnd (oExtract r374.1 0 r374.2) fun r375=>bnd (oExtract r374.1 1 r375.2) fun r376=>bnd (oBin Tryz.prog .eql 34 false true r376.1 (.int .i64 0) r376.2) fun r377=>vIf r377.1 (bnd (oBuildSlice Tryz.prog 40 1 [(0, r375.1)] r377.2) fun r378=>bnd (aAppend Tryz.prog r378.2 #[40, 40] (.slice none 0 0) r378.1) fun r379=>oRes Tryz.prog [(r379.1, none), ((.int .i64 0), none)] r379.2) (oRes Tryz.prog [((.slice none 0 0), none), ((.int .i64 0), none)] r377.2)) (oRes Tryz.prog [((.slice none 0 0), none), ((.int .i64 0), none)] r372.2)) (bnd (oBin Tryz.prog .eql 3 false true r15.1 (.int .i64 11) r372.2) fun r380=>vIf r380.1 (bnd (ldA 4 r1.1 r380.2) fun r381=>bnd (call (fnV 118) [r381.1, r11.1] r381.2) fun r382=>bnd (oExtract r382.1 0 r382.2) fun r383=>bnd (oExtract r382.1 1 r383.2) fun r384=>bnd (oBin Tryz.prog .eql 34 false true r384.1 (.int .i64 0) r384.2) fun r385=>vIf r385.1 (bnd (oBuildSlice Tryz.prog 40 1 [(0, r383.1)] r385.2) fun r386=>bnd (aAppend Tryz.prog r386.2 #[40, 40] (.slice none 0 0) r386.1) fun r387=>oRes Tryz.prog [(r387.1, none), ((.int .i64 0), none)] r387.2) (oRes Tryz.prog [((.slice none 0 0), none), ((.int .i64 0), none)] r385.2)) (oRes Tryz.prog [((.slice none 0 0), none), ((.int .i64 0), none)] r380.2)))) (bnd (oBin Tryz.prog .eql 3 false true r15.1 (.int .i64 9) r364.2) fun r388=>vIf r388.1 (bnd (ldA 4 r1.1 r388.2) fun r389=>bnd (call (fnV 119) [r389.1, r10.1] r389.2) fun r390=>bnd (oExtract r390.1 0 r390.2) fun r391=>bnd (oExtract r390.1 1 r391.2) fun r392=>bnd (oBin Tryz.prog .eql 34 false true r392.1 (.int .i64 0) r392.2) fun r393=>vIf r393.1 (bnd (oBuildSlice Tryz.prog 40 1 [(0, r391.1)] r393.2) fun r394=>bnd (aAppend Tryz.prog r394.2 #[40, 40] r394.1 (.slice none 0 0)) fun r395=>oRes Tryz.prog [(r395.1, none), ((.int .i64 0), none)] r395.2) (oRes Tryz.prog [((.slice none 0 0), none), ((.int .i64 0), none)] r393.2)) (bnd (oBin Tryz.prog .eql 3 false true r15.1 (.int .i64 10) r388.2) fun r396=>vIf r396.1 (vIf r396.1 (bnd (ldA 4 r1.1 r396.2) fun r397=>bnd (call (fnV 118) [r397.1, r11.1] r397.2) fun r398=>bnd (oExtract r398.1 0 r398.2) fun r399=>bnd (oExtract r398.1 1 r399.2) fun r400=>bnd (oBin Tryz.prog .eql 34 false true r400.1 (.int .i64 0) r400.2) fun r401=>vIf r401.1 (bnd (oBuildSlice Tryz.prog 40 1 [(0, r399.1)] r401.2) fun r402=>bnd (aAppend Tryz.prog r402.2 #[40, 40] (.slice none 0 0) r402.1) fun r403=>oRes Tryz.prog [(r403.1, none), ((.int .i64 0), none)] r403.2) (oRes Tryz.prog [((.slice none 0 0), none), ((.int .i64 0), none)] r401.2)) (oRes Tryz.prog [((.slice none 0 0), none), ((.int .i64 0), none)] r396.2)) (bnd (oBin Tryz.prog .eql 3 false true r15.1 (.int .i64 11) r396.2) fun r404=>vIf r404.1 (bnd (ldA 4 r1.1 r404.2) fun r405=>bnd (call (fnV 118) [r405.1, r11.1] r405.2) fun r406=>bnd (oExtract r406.1 0 r406.2) fun r407=>bnd (oExtract r406.1 1 r407.2) fun r408=>bnd (oBin Tryz.prog .eql 34 false true r408.1 (.int .i64 0) r408.2) fun r409=>vIf r409.1 (bnd (oBuildSlice Tryz.prog 40 1 [(0, r407.1)] r409.2) fun r410=>bnd (aAppend Tryz.prog r410.2 #[40, 40] (.slice none 0 0) r410.1) fun r411=>oRes Tryz.prog [(r411.1, none), ((.int .i64 0), none)] r411.2) (oRes Tryz.prog [((.slice none 0 0), none), ((.int .i64 0), none)] r409.2)) (oRes Tryz.prog [((.slice none 0 0), none), ((.int .i64 0), none)] r404.2)))))))))))))
theorem plans_Locks_om {x0 x1 : Value} {W : AW} {r : Value × AW} (h : plans_Locks omS x0 x1 W = some r) : omS (.func (.func 80) #[] #[]) [x0, x1] W = some (gc W r) := om_of (nt := 125) (n := 2) (by kernel_rfl) (by kernel_rfl) rfl (Eq.trans (by kernel_rfl) h)
noncomputable def ref22_Locks_L1 (call : Eng.Callee) (R : Nat → Value) (W : AW) : Option LT := bnd (faO 0 (R 2) W) fun r17=>bnd (ldC r17.1 r17.2) fun r18=>bnd (faO 3 (R 2) r18.2) fun r19=>bnd (ldC r19.1 r19.2) fun r20=>bnd (oBuiltin Tryz.prog .len #[22] 3 #[false] [r20.1] r20.2) fun r21=>bnd (oBin Tryz.prog .add 3 false false r18.1 r21.1 r21.2) fun r22=>bnd (oBin Tryz.prog .lss 3 false false (R 11) r22.1 r22.2) fun r23=>vIf r23.1 (bnd (oBuildSlice Tryz.prog 40 1 [(0, (R 11))] r23.2) fun r24=>bnd (aAppend Tryz.prog r24.2 #[40, 40] (R 10) r24.1) fun r25=>bnd (oBin Tryz.prog .add 3 false true (R 11) (.int .i64 1) r25.2) fun r26=>some (X.normal, (puts R [(39,(R 11)),(40,r17.1),(41,r18.1),(42,r19.1),(43,r20.1),(44,r21.1),(45,r22.1),(46,r23.1),(49,(R 10)),(50,(R 11)),(51,r24.1),(52,r25.1),(10,r25.1),(47,(R 11)),(48,r26.1),(11,r26.1)]), r26.2)) (some (X.exit 0, (puts R [(39,(R 11)),(40,r17.1),(41,r18.1),(42,r19.1),(43,r20.1),(44,r21.1),(45,r22.1),(46,r23.1)]), r23.2))
noncomputable def ref22_Locks (call : Eng.Callee) (x0 x1 : Value) (W : AW) : Option (Value × AW) := bnd (oBox x0 W) fun r1=>bnd (oBox x1 r1.2) fun r2=>bnd (ldA 4 r1.1 r2.2) fun r3=>bnd (call (fnV 28) [r3.1] r3.2) fun r4=>bnd (oExtract r4.1 0 r4.2) fun r5=>bnd (oExtract r4.1 1 r5.2) fun r6=>bnd (oBin Tryz.prog .neq 34 false true r6.1 (.int .i64 0) r6.2) fun r7=>vIf r7.1 (oRes Tryz.prog [((.slice none 0 0), none), (r6.1, none)] r7.2) (bnd (ldA 12 r2.1 r7.2) fun r8=>bnd (call (fnV 120) [r8.1] r8.2) fun r9=>bnd (oExtract r9.1 0 r9.2) fun r10=>bnd (oExtract r9.1 1 r10.2) fun r11=>bnd (oExtract r9.1 2 r11.2) fun r12=>bnd (oBin Tryz.prog .neq 34 false true r12.1 (.int .i64 0) r12.2) fun r13=>vIf r13.1 (oRes Tryz.prog [((.slice none 0 0), none), (r12.1, none)] r13.2) (bnd (faO 0 r2.1 r13.2) fun r14=>bnd (ldC r14.1 r14.2) fun r15=>bnd (oBin Tryz.prog .eql 3 false true r15.1 (.int .i64 12) r15.2) fun r16=>vIf r16.1 (bnd (loopO (ref22_Locks_L1 call) (puts (argGo 0 [x0, x1] PlanTab.blank) [(2,r1.1),(3,r2.1),(4,(.slice none 0 0)),(5,(.int .i64 0)),(20,r3.1),(21,r4.1),(19,r4.1),(22,r5.1),(23,r6.1),(6,r5.1),(7,r6.1),(24,r6.1),(25,r7.1),(28,r8.1),(29,r9.1),(27,r9.1),(30,r10.1),(31,r11.1),(32,r12.1),(8,r10.1),(9,r11.1),(7,r12.1),(33,r12.1),(34,r13.1),(36,r14.1),(37,r15.1),(38,r16.1),(10,(.slice none 0 0)),(11,(.int .i64 0))]) r16.2) fun r27=>kExit 0 r27.1 (oRes Tryz.prog [((r27.2.1 10), none), ((.int .i64 0), none)] r27.2.2) (none)) (bnd (faO 0 r2.1 r16.2) fun r28=>bnd (ldC r28.1 r28.2) fun r29=>bnd (oBin Tryz.prog .eql 3 false true r29.1 (.int .i64 1) r29.2) fun r30=>vIf r30.1 (oRes Tryz.prog [((.slice none 0 0), none), ((.int .i64 0), none)] r30.2) (bnd (oBin Tryz.prog .geq 3 false true r11.1 (.int .i64 0) r30.2) fun r31=>bnd (bIf (wnt r31.1 false) (faO 0 r2.1 r31.2) (some (undef, r31.2))) fun r32=>bnd (bIf (wnt r31.1 false) (ldC r32.1 r32.2) (some (undef, r32.2))) fun r33=>bnd (bIf (wnt r31.1 false) (oBin Tryz.prog .eql 3 false true r33.1 (.int .i64 3) r33.2) (some (undef, r33.2))) fun r34=>bnd (oPick r31.1 (.bool true) r34.1 r34.2) fun r35=>bnd (bIf (wnt r35.1 false) (faO 0 r2.1 r35.2) (some (undef, r35.2))) fun r36=>bnd (bIf (wnt r35.1 false) (ldC r36.1 r36.2) (some (undef, r36.2))) fun r37=>bnd (bIf (wnt r35.1 false) (oBin Tryz.prog .eql 3 false true r37.1 (.int .i64 10) r37.2) (some (undef, r37.2))) fun r38=>bnd (oPick r35.1 (.bool true) r38.1 r38.2) fun r39=>bnd (bIf (wnt r39.1 false) (faO 0 r2.1 r39.2) (some (undef, r39.2))) fun r40=>bnd (bIf (wnt r39.1 false) (ldC r40.1 r40.2) (some (undef, r40.2))) fun r41=>bnd (bIf (wnt r39.1 false) (oBin Tryz.prog .eql 3 false true r41.1 (.int .i64 11) r41.2) (some (undef, r41.2))) fun r42=>bnd (oPick r39.1 (.bool true) r42.1 r42.2) fun r43=>vIf r43.1 (bnd (ldA 4 r1.1 r43.2) fun r44=>bnd (call (fnV 121) [r44.1, r11.1] r44.2) fun r45=>bnd (oExtract r45.1 0 r45.2) fun r46=>bnd (oExtract r45.1 1 r46.2) fun r47=>bnd (oBin Tryz.prog .neq 34 false true r47.1 (.int .i64 0) r47.2) fun r48=>vIf r48.1 (oRes Tryz.prog [((.slice none 0 0), none), ((.int .i64 0), none)] r48.2) (bnd (faO 0 r2.1 r48.2) fun r49=>bnd (ldC r49.1 r49.2) fun r50=>bnd (oBin Tryz.prog .neq 3 false true r50.1 (.int .i64 3) r50.2) fun r51=>vIf r51.1 (bnd (oBuildSlice Tryz.prog 40 1 [(0, r46.1)] r51.2) fun r52=>oRes Tryz.prog [(r52.1, none), ((.int .i64 0), none)] r52.2) (bnd (ldA 4 r1.1 r51.2) fun r53=>bnd (call (fnV 122) [r53.1, r11.1] r53.2) fun r54=>bnd (oExtract r54.1 0 r54.2) fun r55=>bnd (oExtract r54.1 1 r55.2) fun r56=>oRes Tryz.prog [(r55.1, none), (r56.1, none)] r56.2))) (bnd (ldA 4 r1.1 r43.2) fun r57=>bnd (call (fnV 123) [r57.1, r10.1] r57.2) fun r58=>bnd (oExtract r58.1 0 r58.2) fun r59=>bnd (oExtract r58.1 1 r59.2) fun r60=>bnd (oAlloc Tryz.prog 160 r60.2) fun r61=>bnd (stV 3 r61.1 r59.1 r61.2) fun r62=>bnd (oBin Tryz.prog .neq 34 false true r60.1 (.int .i64 0) r62.2) fun r63=>vIf r63.1 (oRes Tryz.prog [((.slice none 0 0), none), ((.int .i64 0), none)] r63.2) (bnd (ldA 4 r1.1 r63.2) fun r64=>bnd (call (fnV 124) [r64.1, r10.1] r64.2) fun r65=>bnd (oExtract r65.1 0 r65.2) fun r66=>bnd (oExtract r65.1 1 r66.2) fun r67=>bnd (faO 0 r2.1 r67.2) fun r68=>bnd (ldC r68.1 r68.2) fun r69=>bnd (oBin Tryz.prog .eql 3 false true r69.1 (.int .i64 4) r69.2) fun r70=>bnd (bIf (wnt r70.1 false) (faO 0 r2.1 r70.2) (some (undef, r70.2))) fun r71=>bnd (bIf (wnt r70.1 false) (ldC r71.1 r71.2) (some (undef, r71.2))) fun r72=>bnd (bIf (wnt r70.1 false) (oBin Tryz.prog .eql 3 false true r72.1 (.int .i64 8) r72.2) (some (undef, r72.2))) fun r73=>bnd (oPick r70.1 (.bool true) r73.1 r73.2) fun r74=>bnd (bIf (wnt r74.1 false) (faO 0 r2.1 r74.2) (some (undef, r74.2))) fun r75=>bnd (bIf (wnt r74.1 false) (ldC r75.1 r75.2) (some (undef, r75.2))) fun r76=>bnd (bIf (wnt r74.1 false) (oBin Tryz.prog .eql 3 false true r76.1 (.int .i64 7) r76.2) (some (undef, r76.2))) fun r77=>bnd (oPick r74.1 (.bool true) r77.1 r77.2) fun r78=>vIf r78.1 (bnd (ldA 4 r1.1 r78.2) fun r79=>bnd (faO 0 r61.1 r79.2) fun r80=>bnd (ldC r80.1 r80.2) fun r81=>bnd (call (fnV 121) [r79.1, r81.1] r81.2) fun r82=>bnd (oExtract r82.1 0 r82.2) fun r83=>bnd (oExtract r82.1 1 r83.2) fun r84=>bnd (oBuildSlice Tryz.prog 40 2 [(0, r66.1), (1, r83.1)] r84.2) fun r85=>oRes Tryz.prog [(r85.1, none), ((.int .i64 0), none)] r85.2) (bnd (oBuildSlice Tryz.prog 40 1 [(0, r66.1)] r78.2) fun r86=>oRes Tryz.prog [(r86.1, none), ((.int .i64 0), none)] r86.2)))))))
theorem ref22_Locks_om {x0 x1 : Value} {W : AW} {r : Value × AW} (h : ref22_Locks omS x0 x1 W = some r) : omS (.func (.func 81) #[] #[]) [x0, x1] W = some (gc W r) := om_of (nt := 131) (n := 2) (by kernel_rfl) (by kernel_rfl) rfl (Eq.trans (by kernel_rfl) h)
noncomputable def words_Name (call : Eng.Callee) (x0 : Value) (W : AW) : Option (Value × AW) := bnd (oBin Tryz.prog .eql 9 false true x0 (strV []) W) fun r1=>bnd (bIf (wnt r1.1 false) (oMv x0 r1.2) (some (undef, r1.2))) fun r2=>bnd (bIf (wnt r1.1 false) (oBuiltin Tryz.prog .len #[9] 3 #[false] [r2.1] r2.2) (some (undef, r2.2))) fun r3=>bnd (bIf (wnt r1.1 false) (oBin Tryz.prog .gtr 3 false true r3.1 (.int .i64 16) r3.2) (some (undef, r3.2))) fun r4=>bnd (oPick r1.1 (.bool true) r4.1 r4.2) fun r5=>bnd (bIf (wnt r5.1 false) (oMv x0 r5.2) (some (undef, r5.2))) fun r6=>bnd (bIf (wnt r5.1 false) (oIndex Tryz.prog 9 r6.1 (.int .i64 0) r6.2) (some (undef, r6.2))) fun r7=>bnd (bIf (wnt r5.1 false) (oBin Tryz.prog .lss 5 false true r7.1 (.int .u8 97) r7.2) (some (undef, r7.2))) fun r8=>bnd (oPick r5.1 (.bool true) r8.1 r8.2) fun r9=>bnd (bIf (wnt r9.1 false) (oMv x0 r9.2) (some (undef, r9.2))) fun r10=>bnd (bIf (wnt r9.1 false) (oIndex Tryz.prog 9 r10.1 (.int .i64 0) r10.2) (some (undef, r10.2))) fun r11=>bnd (bIf (wnt r9.1 false) (oBin Tryz.prog .gtr 5 false true r11.1 (.int .u8 122) r11.2) (some (undef, r11.2))) fun r12=>bnd (oPick r9.1 (.bool true) r12.1 r12.2) fun r13=>vIf r13.1 (oRes Tryz.prog [((.bool false), none)] r13.2) (bnd (call (fnV 125) [x0, (strV [97, 98, 99, 100, 101, 102, 103, 104, 105, 106, 107, 108, 109, 110, 111, 112, 113, 114, 115, 116, 117, 118, 119, 120, 121, 122, 48, 49, 50, 51, 52, 53, 54, 55, 56, 57, 45])] r13.2) fun r14=>bnd (oBin Tryz.prog .eql 9 false true r14.1 (strV []) r14.2) fun r15=>oRes Tryz.prog [(r15.1, none)] r15.2)
theorem words_Name_om {x0 : Value} {W : AW} {r : Value × AW} (h : words_Name omS x0 W = some r) : omS (.func (.func 82) #[] #[]) [x0] W = some (gc W r) := om_of (nt := 23) (n := 1) (by kernel_rfl) (by kernel_rfl) rfl (Eq.trans (by kernel_rfl) h)
noncomputable def slices_ContainsFuncapi_VnSectionapi_VnSection (call : Eng.Callee) (x0 x1 : Value) (W : AW) : Option (Value × AW) := bnd (call (fnV 126) [x0, x1] W) fun r1=>bnd (oBin Tryz.prog .geq 3 false true r1.1 (.int .i64 0) r1.2) fun r2=>oRes Tryz.prog [(r2.1, none)] r2.2
theorem slices_ContainsFuncapi_VnSectionapi_VnSection_om {x0 x1 : Value} {W : AW} {r : Value × AW} (h : slices_ContainsFuncapi_VnSectionapi_VnSection omS x0 x1 W = some r) : omS (.func (.func 83) #[] #[]) [x0, x1] W = some (gc W r) := om_of (nt := 9) (n := 2) (by kernel_rfl) (by kernel_rfl) rfl (Eq.trans (by kernel_rfl) h)
noncomputable def venue_check_1 (call : Eng.Callee) (x0 x1 : Value) (W : AW) : Option (Value × AW) := bnd (oBox x0 W) fun r1=>bnd (faO 0 r1.1 r1.2) fun r2=>bnd (ldC r2.1 r2.2) fun r3=>bnd (faO 0 x1 r3.2) fun r4=>bnd (ldC r4.1 r4.2) fun r5=>bnd (oBin Tryz.prog .eql 9 false false r3.1 r5.1 r5.2) fun r6=>oRes Tryz.prog [(r6.1, none)] r6.2
theorem venue_check_1_om {x0 x1 : Value} {W : AW} {r : Value × AW} (h : venue_check_1 omS x0 x1 W = some r) : omS (.func (.func 84) #[] #[x1]) [x0] W = some (gc W r) := om_of (nt := 9) (n := 2) (by kernel_rfl) (by kernel_rfl) rfl (Eq.trans (by kernel_rfl) h)
noncomputable def venue_check_2 (call : Eng.Callee) (x0 : Value) (W : AW) : Option (Value × AW) := bnd (call (fnV 55) [x0, (.int .i64 1), (.int .i64 64)] W) fun r1=>oRes Tryz.prog [(r1.1, none)] r1.2
theorem venue_check_2_om {x0 : Value} {W : AW} {r : Value × AW} (h : venue_check_2 omS x0 W = some r) : omS (.func (.func 85) #[] #[]) [x0] W = some (gc W r) := om_of (nt := 5) (n := 1) (by kernel_rfl) (by kernel_rfl) rfl (Eq.trans (by kernel_rfl) h)
noncomputable def ref01_Name_L1 (call : Eng.Callee) (R : Nat → Value) (W : AW) : Option LT := bnd (oBuiltin Tryz.prog .len #[9] 3 #[false] [(R 0)] W) fun r12=>bnd (oBin Tryz.prog .lss 3 false false (R 3) r12.1 r12.2) fun r13=>vIf r13.1 (bnd (oIndex Tryz.prog 9 (R 0) (R 3) r13.2) fun r14=>bnd (call (fnV 127) [r14.1] r14.2) fun r15=>bnd (oUn Tryz.prog .not r15.1 r15.2) fun r16=>bnd (bIf (wnt r16.1 true) (oMv (R 0) r16.2) (some (undef, r16.2))) fun r17=>bnd (bIf (wnt r16.1 true) (oMv (R 3) r17.2) (some (undef, r17.2))) fun r18=>bnd (bIf (wnt r16.1 true) (oIndex Tryz.prog 9 r17.1 r18.1 r18.2) (some (undef, r18.2))) fun r19=>bnd (bIf (wnt r16.1 true) (call (fnV 128) [r19.1] r19.2) (some (undef, r19.2))) fun r20=>bnd (bIf (wnt r16.1 true) (oUn Tryz.prog .not r20.1 r20.2) (some (undef, r20.2))) fun r21=>bnd (oPick r16.1 r21.1 (.bool false) r21.2) fun r22=>bnd (bIf (wnt r22.1 true) (oMv (R 0) r22.2) (some (undef, r22.2))) fun r23=>bnd (bIf (wnt r22.1 true) (oMv (R 3) r23.2) (some (undef, r23.2))) fun r24=>bnd (bIf (wnt r22.1 true) (oIndex Tryz.prog 9 r23.1 r24.1 r24.2) (some (undef, r24.2))) fun r25=>bnd (bIf (wnt r22.1 true) (oBin Tryz.prog .neq 5 false true r25.1 (.int .u8 45) r25.2) (some (undef, r25.2))) fun r26=>bnd (oPick r22.1 r26.1 (.bool false) r26.2) fun r27=>vIf r27.1 (some (X.ret, (puts R [(18,(R 3)),(19,(R 0)),(20,r12.1),(21,r13.1),(24,(R 0)),(25,(R 3)),(26,r14.1),(27,r15.1),(28,r16.1),(29,r16.1),(30,r17.1),(31,r18.1),(32,r19.1),(33,r20.1),(34,r21.1),(35,r22.1),(36,r22.1),(37,r23.1),(38,r24.1),(39,r25.1),(40,r26.1),(41,r27.1),(2,(.bool false))]), r27.2)) (bnd (oBin Tryz.prog .add 3 false true (R 3) (.int .i64 1) r27.2) fun r28=>some (X.normal, (puts R [(18,(R 3)),(19,(R 0)),(20,r12.1),(21,r13.1),(24,(R 0)),(25,(R 3)),(26,r14.1),(27,r15.1),(28,r16.1),(29,r16.1),(30,r17.1),(31,r18.1),(32,r19.1),(33,r20.1),(34,r21.1),(35,r22.1),(36,r22.1),(37,r23.1),(38,r24.1),(39,r25.1),(40,r26.1),(41,r27.1),(22,(R 3)),(23,r28.1),(3,r28.1)]), r28.2))) (some (X.exit 0, (puts R [(18,(R 3)),(19,(R 0)),(20,r12.1),(21,r13.1)]), r13.2))
noncomputable def ref01_Name (call : Eng.Callee) (x0 : Value) (W : AW) : Option (Value × AW) := bnd (oBuiltin Tryz.prog .len #[9] 3 #[false] [x0] W) fun r1=>bnd (oBin Tryz.prog .lss 3 false true r1.1 (.int .i64 1) r1.2) fun r2=>bnd (bIf (wnt r2.1 false) (oMv x0 r2.2) (some (undef, r2.2))) fun r3=>bnd (bIf (wnt r2.1 false) (oBuiltin Tryz.prog .len #[9] 3 #[false] [r3.1] r3.2) (some (undef, r3.2))) fun r4=>bnd (bIf (wnt r2.1 false) (oBin Tryz.prog .gtr 3 false true r4.1 (.int .i64 16) r4.2) (some (undef, r4.2))) fun r5=>bnd (oPick r2.1 (.bool true) r5.1 r5.2) fun r6=>bnd (bIf (wnt r6.1 false) (oMv x0 r6.2) (some (undef, r6.2))) fun r7=>bnd (bIf (wnt r6.1 false) (oIndex Tryz.prog 9 r7.1 (.int .i64 0) r7.2) (some (undef, r7.2))) fun r8=>bnd (bIf (wnt r6.1 false) (call (fnV 127) [r8.1] r8.2) (some (undef, r8.2))) fun r9=>bnd (bIf (wnt r6.1 false) (oUn Tryz.prog .not r9.1 r9.2) (some (undef, r9.2))) fun r10=>bnd (oPick r6.1 (.bool true) r10.1 r10.2) fun r11=>vIf r11.1 (oRes Tryz.prog [((.bool false), none)] r11.2) (bnd (loopO (ref01_Name_L1 call) (puts (argGo 0 [x0] PlanTab.blank) [(2,(.bool false)),(4,x0),(5,r1.1),(6,r2.1),(7,r2.1),(8,r3.1),(9,r4.1),(10,r5.1),(11,r6.1),(12,r6.1),(13,r7.1),(14,r8.1),(15,r9.1),(16,r10.1),(17,r11.1),(3,(.int .i64 0))]) r11.2) fun r29=>kExit 0 r29.1 (oRes Tryz.prog [((.bool true), none)] r29.2.2) (kRetX r29.1 (oRes Tryz.prog [((r29.2.1 2), none)] r29.2.2)))
theorem ref01_Name_om {x0 : Value} {W : AW} {r : Value × AW} (h : ref01_Name omS x0 W = some r) : omS (.func (.func 86) #[] #[]) [x0] W = some (gc W r) := om_of (nt := 42) (n := 1) (by kernel_rfl) (by kernel_rfl) rfl (Eq.trans (by kernel_rfl) h)
noncomputable def plans_Target (call : Eng.Callee) (x0 : Value) (W : AW) : Option (Value × AW) := bnd (oBox x0 W) fun r1=>bnd (ldA 12 r1.1 r1.2) fun r2=>bnd (call (fnV 21) [r2.1] r2.2) fun r3=>bnd (oBin Tryz.prog .neq 34 false true r3.1 (.int .i64 0) r3.2) fun r4=>vIf r4.1 (oRes Tryz.prog [((.int .i64 0), none), ((.int .i64 0), none), (r3.1, none)] r4.2) (bnd (faO 0 r1.1 r4.2) fun r5=>bnd (ldC r5.1 r5.2) fun r6=>bnd (ixA 13 1 (glbV 0) r6.1 r6.2) fun r7=>bnd (ldC r7.1 r7.2) fun r8=>bnd (oBin Tryz.prog .and 3 false true r8.1 (.int .i64 4) r8.2) fun r9=>bnd (oBin Tryz.prog .neq 3 false true r9.1 (.int .i64 0) r9.2) fun r10=>vIf r10.1 (bnd (faO 3 r1.1 r10.2) fun r11=>bnd (ldC r11.1 r11.2) fun r12=>oRes Tryz.prog [(r12.1, none), ((.int .i64 (-1)), none), ((.int .i64 0), none)] r12.2) (bnd (oBin Tryz.prog .and 3 false true r8.1 (.int .i64 64) r10.2) fun r13=>bnd (oBin Tryz.prog .neq 3 false true r13.1 (.int .i64 0) r13.2) fun r14=>vIf r14.1 (bnd (faO 7 r1.1 r14.2) fun r15=>bnd (faO 0 r15.1 r15.2) fun r16=>bnd (ldC r16.1 r16.2) fun r17=>bnd (oConv Tryz.prog 51 3 r17.1 r17.2) fun r18=>oRes Tryz.prog [(r18.1, none), ((.int .i64 (-1)), none), ((.int .i64 0), none)] r18.2) (bnd (oBin Tryz.prog .and 3 false true r8.1 (.int .i64 8) r14.2) fun r19=>bnd (oBin Tryz.prog .neq 3 false true r19.1 (.int .i64 0) r19.2) fun r20=>vIf r20.1 (bnd (faO 4 r1.1 r20.2) fun r21=>bnd (ldC r21.1 r21.2) fun r22=>oRes Tryz.prog [((.int .i64 (-1)), none), (r22.1, none), ((.int .i64 0), none)] r22.2) (oRes Tryz.prog [((.int .i64 (-1)), none), ((.int .i64 (-1)), none), ((.int .i64 0), none)] r20.2))))
theorem plans_Target_om {x0 : Value} {W : AW} {r : Value × AW} (h : plans_Target omS x0 W = some r) : omS (.func (.func 98) #[] #[]) [x0] W = some (gc W r) := om_of (nt := 38) (n := 1) (by kernel_rfl) (by kernel_rfl) rfl (Eq.trans (by kernel_rfl) h)
noncomputable def venue_rows_1_L1_L2 (call : Eng.Callee) (R : Nat → Value) (W : AW) : Option LT := bnd (oBin Tryz.prog .lss 3 false false (R 19) (R 18) W) fun r12=>vIf r12.1 (bnd (ixS 1 (R 17) (R 19) r12.2) fun r13=>bnd (ldC r13.1 r13.2) fun r14=>bnd (oBuild Tryz.prog 152 [(0, (R 4)), (1, (R 19)), (2, (R 3)), (3, r14.1)] r14.2) fun r15=>bnd (call (R 0) [r15.1] r15.2) fun r16=>bnd (oUn Tryz.prog .not r16.1 r16.2) fun r17=>vIf r17.1 (some (X.ret, (puts R [(20,r12.1),(21,(R 19)),(22,r13.1),(23,r14.1),(6,(R 19)),(7,r14.1),(24,(R 0)),(25,(R 4)),(26,(R 19)),(27,(R 3)),(28,r14.1),(29,r15.1),(30,r16.1),(31,r17.1)]), r17.2)) (bnd (oBin Tryz.prog .add 3 false false (R 3) r14.1 r17.2) fun r18=>bnd (oBin Tryz.prog .add 3 false true (R 19) (.int .i64 1) r18.2) fun r19=>some (X.normal, (puts R [(20,r12.1),(21,(R 19)),(22,r13.1),(23,r14.1),(6,(R 19)),(7,r14.1),(24,(R 0)),(25,(R 4)),(26,(R 19)),(27,(R 3)),(28,r14.1),(29,r15.1),(30,r16.1),(31,r17.1),(32,(R 3)),(33,r14.1),(34,r18.1),(3,r18.1),(35,r19.1),(19,r19.1)]), r19.2))) (some (X.exit 2, (rput R (some 20) r12.1), r12.2))
noncomputable def venue_rows_1_L1 (call : Eng.Callee) (R : Nat → Value) (W : AW) : Option LT := bnd (oBin Tryz.prog .lss 3 false false (R 11) (R 10) W) fun r4=>vIf r4.1 (bnd (ixS 3 (R 9) (R 11) r4.2) fun r5=>bnd (ldA 3 r5.1 r5.2) fun r6=>bnd (oAlloc Tryz.prog 63 r6.2) fun r7=>bnd (stV 3 r7.1 r6.1 r7.2) fun r8=>bnd (faO 1 r7.1 r8.2) fun r9=>bnd (ldC r9.1 r9.2) fun r10=>bnd (oBuiltin Tryz.prog .len #[40] 3 #[false] [r10.1] r10.2) fun r11=>bnd (loopO (venue_rows_1_L1_L2 call) (puts R [(12,r4.1),(13,(R 11)),(14,r5.1),(15,r6.1),(5,r7.1),(4,(R 11)),(16,r9.1),(17,r10.1),(18,r11.1),(19,(.int .i64 0))]) r11.2) fun r20=>kExit 2 r20.1 (bnd (oBin Tryz.prog .add 3 false true (r20.2.1 11) (.int .i64 1) r20.2.2) fun r21=>some (X.normal, (puts r20.2.1 [(36,r21.1),(11,r21.1)]), r21.2)) (kRetX r20.1 (some (X.ret, r20.2.1, r20.2.2)))) (some (X.exit 0, (rput R (some 12) r4.1), r4.2))
noncomputable def venue_rows_1 (call : Eng.Callee) (x0 x1 : Value) (W : AW) : Option (Value × AW) := bnd (faO 3 x1 W) fun r1=>bnd (ldC r1.1 r1.2) fun r2=>bnd (oBuiltin Tryz.prog .len #[22] 3 #[false] [r2.1] r2.2) fun r3=>bnd (loopO (venue_rows_1_L1 call) (puts (argGo 0 [x0, x1] PlanTab.blank) [(3,(.int .i64 0)),(8,r1.1),(9,r2.1),(10,r3.1),(11,(.int .i64 0))]) r3.2) fun r22=>kExit 0 r22.1 (oRes Tryz.prog [] r22.2.2) (kRetX r22.1 (oRes Tryz.prog [] r22.2.2))
theorem venue_rows_1_om {x0 x1 : Value} {W : AW} {r : Value × AW} (h : venue_rows_1 omS x0 x1 W = some r) : omS (.func (.func 115) #[] #[x1]) [x0] W = some (gc W r) := om_of (nt := 37) (n := 2) (by kernel_rfl) (by kernel_rfl) rfl (Eq.trans (by kernel_rfl) h)
noncomputable def venue_Cover_L1 (call : Eng.Callee) (R : Nat → Value) (W : AW) : Option LT := bnd (oBin Tryz.prog .lss 3 false false (R 25) (R 24) W) fun r11=>vIf r11.1 (bnd (oBin Tryz.prog .add 3 false false (R 6) (R 25) r11.2) fun r12=>bnd (faO 0 (R 2) r12.2) fun r13=>bnd (ldC r13.1 r13.2) fun r14=>bnd (oBin Tryz.prog .rem 3 false false r12.1 r14.1 r14.2) fun r15=>bnd (oBuildSlice Tryz.prog 40 1 [(0, r15.1)] r15.2) fun r16=>bnd (aAppend Tryz.prog r16.2 #[40, 40] (R 9) r16.1) fun r17=>bnd (oBin Tryz.prog .add 3 false true (R 25) (.int .i64 1) r17.2) fun r18=>some (X.normal, (puts R [(26,r11.1),(27,(R 25)),(10,(R 25)),(28,(R 9)),(29,(R 6)),(30,(R 25)),(31,r12.1),(32,r13.1),(33,r14.1),(34,r15.1),(35,r16.1),(36,r17.1),(9,r17.1),(37,r18.1),(25,r18.1)]), r18.2)) (some (X.exit 0, (rput R (some 26) r11.1), r11.2))
noncomputable def venue_Cover (call : Eng.Callee) (x0 x1 : Value) (W : AW) : Option (Value × AW) := bnd (oBox x0 W) fun r1=>bnd (ldA 4 r1.1 r1.2) fun r2=>bnd (call (fnV 170) [r2.1, x1] r2.2) fun r3=>bnd (oExtract r3.1 0 r3.2) fun r4=>bnd (oExtract r3.1 1 r4.2) fun r5=>bnd (oExtract r3.1 2 r5.2) fun r6=>bnd (oBin Tryz.prog .neq 34 false true r6.1 (.int .i64 0) r6.2) fun r7=>vIf r7.1 (oRes Tryz.prog [((.slice none 0 0), none), (r6.1, none)] r7.2) (bnd (faO 0 r1.1 r7.2) fun r8=>bnd (ldC r8.1 r8.2) fun r9=>bnd (oBuiltin Tryz.prog .min #[3, 3] 3 #[false, false] [r5.1, r9.1] r9.2) fun r10=>bnd (loopO (venue_Cover_L1 call) (puts (argGo 0 [x0, x1] PlanTab.blank) [(2,r1.1),(4,(.slice none 0 0)),(5,(.int .i64 0)),(12,r2.1),(13,x1),(14,r3.1),(11,r3.1),(15,r4.1),(16,r5.1),(17,r6.1),(6,r4.1),(7,r5.1),(8,r6.1),(18,r6.1),(19,r7.1),(9,(.slice none 0 0)),(21,r5.1),(22,r8.1),(23,r9.1),(24,r10.1),(25,(.int .i64 0))]) r10.2) fun r19=>kExit 0 r19.1 (bnd (call (fnV 102) [(r19.2.1 9)] r19.2.2) fun r20=>oRes Tryz.prog [((r19.2.1 9), none), ((.int .i64 0), none)] r20.2) (none))
theorem venue_Cover_om {x0 x1 : Value} {W : AW} {r : Value × AW} (h : venue_Cover omS x0 x1 W = some r) : omS (.func (.func 116) #[] #[]) [x0, x1] W = some (gc W r) := om_of (nt := 41) (n := 2) (by kernel_rfl) (by kernel_rfl) rfl (Eq.trans (by kernel_rfl) h)
noncomputable def venue_Place (call : Eng.Callee) (x0 x1 : Value) (W : AW) : Option (Value × AW) := bnd (oBox x0 W) fun r1=>bnd (oAlloc Tryz.prog 160 r1.2) fun r2=>bnd (ldA 4 r1.1 r2.2) fun r3=>bnd (call (fnV 171) [r3.1, x1] r3.2) fun r4=>bnd (oExtract r4.1 0 r4.2) fun r5=>bnd (oExtract r4.1 1 r5.2) fun r6=>bnd (oAlloc Tryz.prog 152 r6.2) fun r7=>bnd (stV 4 r7.1 r5.1 r7.2) fun r8=>bnd (oBin Tryz.prog .neq 34 false true r6.1 (.int .i64 0) r8.2) fun r9=>vIf r9.1 (bnd (oBuild Tryz.prog 160 [] r9.2) fun r10=>bnd (stV 3 r2.1 r10.1 r10.2) fun r11=>oRes Tryz.prog [(r2.1, some 160), (r6.1, none)] r11.2) (bnd (faO 0 r7.1 r9.2) fun r12=>bnd (ldC r12.1 r12.2) fun r13=>bnd (faO 1 r7.1 r13.2) fun r14=>bnd (ldC r14.1 r14.2) fun r15=>bnd (faO 2 r7.1 r15.2) fun r16=>bnd (ldC r16.1 r16.2) fun r17=>bnd (oBin Tryz.prog .sub 3 false false x1 r17.1 r17.2) fun r18=>bnd (oBuild Tryz.prog 160 [(0, r13.1), (1, r15.1), (2, r18.1)] r18.2) fun r19=>bnd (stV 3 r2.1 r19.1 r19.2) fun r20=>oRes Tryz.prog [(r2.1, some 160), ((.int .i64 0), none)] r20.2)
theorem venue_Place_om {x0 x1 : Value} {W : AW} {r : Value × AW} (h : venue_Place omS x0 x1 W = some r) : omS (.func (.func 117) #[] #[]) [x0, x1] W = some (gc W r) := om_of (nt := 27) (n := 2) (by kernel_rfl) (by kernel_rfl) rfl (Eq.trans (by kernel_rfl) h)
noncomputable def venue_Lock (call : Eng.Callee) (x0 x1 : Value) (W : AW) : Option (Value × AW) := bnd (oBox x0 W) fun r1=>bnd (ldA 4 r1.1 r1.2) fun r2=>bnd (call (fnV 170) [r2.1, x1] r2.2) fun r3=>bnd (oExtract r3.1 0 r3.2) fun r4=>bnd (oExtract r3.1 1 r4.2) fun r5=>bnd (oExtract r3.1 2 r5.2) fun r6=>bnd (oBin Tryz.prog .neq 34 false true r6.1 (.int .i64 0) r6.2) fun r7=>vIf r7.1 (oRes Tryz.prog [((.int .i64 0), none), (r6.1, none)] r7.2) (bnd (faO 0 r1.1 r7.2) fun r8=>bnd (ldC r8.1 r8.2) fun r9=>bnd (oBin Tryz.prog .add 3 false false r9.1 x1 r9.2) fun r10=>oRes Tryz.prog [(r10.1, none), ((.int .i64 0), none)] r10.2)
theorem venue_Lock_om {x0 x1 : Value} {W : AW} {r : Value × AW} (h : venue_Lock omS x0 x1 W = some r) : omS (.func (.func 118) #[] #[]) [x0, x1] W = some (gc W r) := om_of (nt := 23) (n := 2) (by kernel_rfl) (by kernel_rfl) rfl (Eq.trans (by kernel_rfl) h)
noncomputable def venue_Shard (call : Eng.Callee) (x0 x1 : Value) (W : AW) : Option (Value × AW) := bnd (oBox x0 W) fun r1=>bnd (ldA 4 r1.1 r1.2) fun r2=>bnd (call (fnV 171) [r2.1, x1] r2.2) fun r3=>bnd (oExtract r3.1 0 r3.2) fun r4=>bnd (oExtract r3.1 1 r4.2) fun r5=>bnd (oAlloc Tryz.prog 152 r5.2) fun r6=>bnd (stV 4 r6.1 r4.1 r6.2) fun r7=>bnd (oBin Tryz.prog .neq 34 false true r5.1 (.int .i64 0) r7.2) fun r8=>vIf r8.1 (oRes Tryz.prog [((.int .i64 0), none), (r5.1, none)] r8.2) (bnd (faO 0 r1.1 r8.2) fun r9=>bnd (ldC r9.1 r9.2) fun r10=>bnd (oBin Tryz.prog .rem 3 false false x1 r10.1 r10.2) fun r11=>oRes Tryz.prog [(r11.1, none), ((.int .i64 0), none)] r11.2)
theorem venue_Shard_om {x0 x1 : Value} {W : AW} {r : Value × AW} (h : venue_Shard omS x0 x1 W = some r) : omS (.func (.func 119) #[] #[]) [x0, x1] W = some (gc W r) := om_of (nt := 21) (n := 2) (by kernel_rfl) (by kernel_rfl) rfl (Eq.trans (by kernel_rfl) h)
noncomputable def ref15_Lock (call : Eng.Callee) (x0 x1 : Value) (W : AW) : Option (Value × AW) := bnd (oBox x0 W) fun r1=>bnd (ldA 4 r1.1 r1.2) fun r2=>bnd (call (fnV 172) [r2.1, x1] r2.2) fun r3=>bnd (oExtract r3.1 0 r3.2) fun r4=>bnd (oExtract r3.1 1 r4.2) fun r5=>bnd (oExtract r3.1 2 r5.2) fun r6=>bnd (oBin Tryz.prog .neq 34 false true r6.1 (.int .i64 0) r6.2) fun r7=>vIf r7.1 (oRes Tryz.prog [((.int .i64 0), none), (r6.1, none)] r7.2) (bnd (faO 0 r1.1 r7.2) fun r8=>bnd (ldC r8.1 r8.2) fun r9=>bnd (oBin Tryz.prog .add 3 false false r9.1 x1 r9.2) fun r10=>oRes Tryz.prog [(r10.1, none), ((.int .i64 0), none)] r10.2)
theorem ref15_Lock_om {x0 x1 : Value} {W : AW} {r : Value × AW} (h : ref15_Lock omS x0 x1 W = some r) : omS (.func (.func 121) #[] #[]) [x0, x1] W = some (gc W r) := om_of (nt := 23) (n := 2) (by kernel_rfl) (by kernel_rfl) rfl (Eq.trans (by kernel_rfl) h)
noncomputable def ref15_Cover_L1_L2 (call : Eng.Callee) (R : Nat → Value) (W : AW) : Option LT := bnd (oBin Tryz.prog .add 3 false false (R 6) (R 7) W) fun r11=>bnd (oBin Tryz.prog .lss 3 false false (R 12) r11.1 r11.2) fun r12=>vIf r12.1 (bnd (faO 0 (R 2) r12.2) fun r13=>bnd (ldC r13.1 r13.2) fun r14=>bnd (oBin Tryz.prog .rem 3 false false (R 12) r14.1 r14.2) fun r15=>bnd (oBin Tryz.prog .eql 3 false false r15.1 (R 10) r15.2) fun r16=>vIf r16.1 (bnd (oBin Tryz.prog .add 3 false true (R 12) (.int .i64 1) r16.2) fun r17=>some (X.normal, (puts R [(30,(R 12)),(31,(R 6)),(32,(R 7)),(33,r11.1),(34,r12.1),(37,(R 12)),(38,r13.1),(39,r14.1),(40,r15.1),(41,(R 10)),(42,r16.1),(11,(.bool true)),(35,(R 12)),(36,r17.1),(12,r17.1)]), r17.2)) (bnd (oBin Tryz.prog .add 3 false true (R 12) (.int .i64 1) r16.2) fun r18=>some (X.normal, (puts R [(30,(R 12)),(31,(R 6)),(32,(R 7)),(33,r11.1),(34,r12.1),(37,(R 12)),(38,r13.1),(39,r14.1),(40,r15.1),(41,(R 10)),(42,r16.1),(35,(R 12)),(36,r18.1),(12,r18.1)]), r18.2))) (some (X.exit 2, (puts R [(30,(R 12)),(31,(R 6)),(32,(R 7)),(33,r11.1),(34,r12.1)]), r12.2))
noncomputable def ref15_Cover_L1 (call : Eng.Callee) (R : Nat → Value) (W : AW) : Option LT := bnd (faO 0 (R 2) W) fun r8=>bnd (ldC r8.1 r8.2) fun r9=>bnd (oBin Tryz.prog .lss 3 false false (R 10) r9.1 r9.2) fun r10=>vIf r10.1 (bnd (loopO (ref15_Cover_L1_L2 call) (puts R [(23,(R 10)),(24,r8.1),(25,r9.1),(26,r10.1),(11,(.bool false)),(29,(R 6)),(12,(R 6))]) r10.2) fun r19=>kExit 2 r19.1 (vIf (r19.2.1 11) (bnd (oBuildSlice Tryz.prog 40 1 [(0, (r19.2.1 10))] r19.2.2) fun r20=>bnd (aAppend Tryz.prog r20.2 #[40, 40] (r19.2.1 9) r20.1) fun r21=>bnd (oBin Tryz.prog .add 3 false true (r19.2.1 10) (.int .i64 1) r21.2) fun r22=>some (X.normal, (puts r19.2.1 [(43,(r19.2.1 11)),(44,(r19.2.1 9)),(45,(r19.2.1 10)),(46,r20.1),(47,r21.1),(9,r21.1),(27,(r19.2.1 10)),(28,r22.1),(10,r22.1)]), r22.2)) (bnd (oBin Tryz.prog .add 3 false true (r19.2.1 10) (.int .i64 1) r19.2.2) fun r23=>some (X.normal, (puts r19.2.1 [(43,(r19.2.1 11)),(27,(r19.2.1 10)),(28,r23.1),(10,r23.1)]), r23.2))) (none)) (some (X.exit 0, (puts R [(23,(R 10)),(24,r8.1),(25,r9.1),(26,r10.1)]), r10.2))
noncomputable def ref15_Cover (call : Eng.Callee) (x0 x1 : Value) (W : AW) : Option (Value × AW) := bnd (oBox x0 W) fun r1=>bnd (ldA 4 r1.1 r1.2) fun r2=>bnd (call (fnV 172) [r2.1, x1] r2.2) fun r3=>bnd (oExtract r3.1 0 r3.2) fun r4=>bnd (oExtract r3.1 1 r4.2) fun r5=>bnd (oExtract r3.1 2 r5.2) fun r6=>bnd (oBin Tryz.prog .neq 34 false true r6.1 (.int .i64 0) r6.2) fun r7=>vIf r7.1 (oRes Tryz.prog [((.slice none 0 0), none), (r6.1, none)] r7.2) (bnd (loopO (ref15_Cover_L1 call) (puts (argGo 0 [x0, x1] PlanTab.blank) [(2,r1.1),(4,(.slice none 0 0)),(5,(.int .i64 0)),(14,r2.1),(15,x1),(16,r3.1),(13,r3.1),(17,r4.1),(18,r5.1),(19,r6.1),(6,r4.1),(7,r5.1),(8,r6.1),(20,r6.1),(21,r7.1),(9,(.slice none 0 0)),(10,(.int .i64 0))]) r7.2) fun r24=>kExit 0 r24.1 (oRes Tryz.prog [((r24.2.1 9), none), ((.int .i64 0), none)] r24.2.2) (none))
theorem ref15_Cover_om {x0 x1 : Value} {W : AW} {r : Value × AW} (h : ref15_Cover omS x0 x1 W = some r) : omS (.func (.func 122) #[] #[]) [x0, x1] W = some (gc W r) := om_of (nt := 49) (n := 2) (by kernel_rfl) (by kernel_rfl) rfl (Eq.trans (by kernel_rfl) h)
noncomputable def ref15_Place (call : Eng.Callee) (x0 x1 : Value) (W : AW) : Option (Value × AW) := bnd (oBox x0 W) fun r1=>bnd (oAlloc Tryz.prog 160 r1.2) fun r2=>bnd (ldA 4 r1.1 r2.2) fun r3=>bnd (call (fnV 50) [r3.1] r3.2) fun r4=>bnd (oExtract r4.1 0 r4.2) fun r5=>bnd (oExtract r4.1 1 r5.2) fun r6=>bnd (oBin Tryz.prog .eql 34 false true r6.1 (.int .i64 0) r6.2) fun r7=>bnd (bIf (wnt r7.1 true) (oMv x1 r7.2) (some (undef, r7.2))) fun r8=>bnd (bIf (wnt r7.1 true) (oBin Tryz.prog .lss 3 false true r8.1 (.int .i64 0) r8.2) (some (undef, r8.2))) fun r9=>bnd (bIf (wnt r7.1 true) (oMv r9.1 r9.2) (some (undef, r9.2))) fun r10=>bnd (bIf (wnt r10.1 false) (oMv x1 r10.2) (some (undef, r10.2))) fun r11=>bnd (bIf (wnt r10.1 false) (oMv r5.1 r11.2) (some (undef, r11.2))) fun r12=>bnd (bIf (wnt r10.1 false) (oBin Tryz.prog .geq 3 false false r11.1 r12.1 r12.2) (some (undef, r12.2))) fun r13=>bnd (bIf (wnt r7.1 true) (oPick r10.1 (.bool true) r13.1 r13.2) (some (undef, r13.2))) fun r14=>bnd (oPick r7.1 r14.1 (.bool false) r14.2) fun r15=>vIf r15.1 (bnd (oBin Tryz.prog .neq 34 false true (.int .i64 4) (.int .i64 0) r15.2) fun r16=>vIf r16.1 (bnd (oBuild Tryz.prog 160 [] r16.2) fun r17=>bnd (stV 3 r2.1 r17.1 r17.2) fun r18=>oRes Tryz.prog [(r2.1, some 160), ((.int .i64 4), none)] r18.2) (bnd (ldA 4 r1.1 r16.2) fun r19=>bnd (call (fnV 60) [r19.1] r19.2) fun r20=>bnd (ixS 3 r20.1 x1 r20.2) fun r21=>bnd (ldA 3 r21.1 r21.2) fun r22=>bnd (stV 3 r2.1 r22.1 r22.2) fun r23=>oRes Tryz.prog [(r2.1, some 160), ((.int .i64 0), none)] r23.2)) (bnd (oBin Tryz.prog .neq 34 false true r6.1 (.int .i64 0) r15.2) fun r24=>vIf r24.1 (bnd (oBuild Tryz.prog 160 [] r24.2) fun r25=>bnd (stV 3 r2.1 r25.1 r25.2) fun r26=>oRes Tryz.prog [(r2.1, some 160), (r6.1, none)] r26.2) (bnd (ldA 4 r1.1 r24.2) fun r27=>bnd (call (fnV 60) [r27.1] r27.2) fun r28=>bnd (ixS 3 r28.1 x1 r28.2) fun r29=>bnd (ldA 3 r29.1 r29.2) fun r30=>bnd (stV 3 r2.1 r30.1 r30.2) fun r31=>oRes Tryz.prog [(r2.1, some 160), ((.int .i64 0), none)] r31.2))
theorem ref15_Place_om {x0 x1 : Value} {W : AW} {r : Value × AW} (h : ref15_Place omS x0 x1 W = some r) : omS (.func (.func 123) #[] #[]) [x0, x1] W = some (gc W r) := om_of (nt := 33) (n := 2) (by kernel_rfl) (by kernel_rfl) rfl (Eq.trans (by kernel_rfl) h)
noncomputable def ref15_Shard (call : Eng.Callee) (x0 x1 : Value) (W : AW) : Option (Value × AW) := bnd (oBox x0 W) fun r1=>bnd (ldA 4 r1.1 r1.2) fun r2=>bnd (call (fnV 123) [r2.1, x1] r2.2) fun r3=>bnd (oExtract r3.1 0 r3.2) fun r4=>bnd (oExtract r3.1 1 r4.2) fun r5=>bnd (oAlloc Tryz.prog 160 r5.2) fun r6=>bnd (stV 3 r6.1 r4.1 r6.2) fun r7=>bnd (oBin Tryz.prog .neq 34 false true r5.1 (.int .i64 0) r7.2) fun r8=>vIf r8.1 (oRes Tryz.prog [((.int .i64 0), none), (r5.1, none)] r8.2) (bnd (faO 0 r1.1 r8.2) fun r9=>bnd (ldC r9.1 r9.2) fun r10=>bnd (oBin Tryz.prog .rem 3 false false x1 r10.1 r10.2) fun r11=>oRes Tryz.prog [(r11.1, none), ((.int .i64 0), none)] r11.2)
theorem ref15_Shard_om {x0 x1 : Value} {W : AW} {r : Value × AW} (h : ref15_Shard omS x0 x1 W = some r) : omS (.func (.func 124) #[] #[]) [x0, x1] W = some (gc W r) := om_of (nt := 21) (n := 2) (by kernel_rfl) (by kernel_rfl) rfl (Eq.trans (by kernel_rfl) h)
noncomputable def strings_Trim (call : Eng.Callee) (x0 x1 : Value) (W : AW) : Option (Value × AW) := bnd (oBin Tryz.prog .eql 9 false true x0 (strV []) W) fun r1=>bnd (bIf (wnt r1.1 false) (oMv x1 r1.2) (some (undef, r1.2))) fun r2=>bnd (bIf (wnt r1.1 false) (oBin Tryz.prog .eql 9 false true r2.1 (strV []) r2.2) (some (undef, r2.2))) fun r3=>bnd (oPick r1.1 (.bool true) r3.1 r3.2) fun r4=>vIf r4.1 (oRes Tryz.prog [(x0, none)] r4.2) (bnd (oBuiltin Tryz.prog .len #[9] 3 #[false] [x1] r4.2) fun r5=>bnd (oBin Tryz.prog .eql 3 false true r5.1 (.int .i64 1) r5.2) fun r6=>bnd (bIf (wnt r6.1 true) (oMv x1 r6.2) (some (undef, r6.2))) fun r7=>bnd (bIf (wnt r6.1 true) (oIndex Tryz.prog 9 r7.1 (.int .i64 0) r7.2) (some (undef, r7.2))) fun r8=>bnd (bIf (wnt r6.1 true) (oBin Tryz.prog .lss 5 false true r8.1 (.int .u8 128) r8.2) (some (undef, r8.2))) fun r9=>bnd (oPick r6.1 r9.1 (.bool false) r9.2) fun r10=>vIf r10.1 (bnd (oIndex Tryz.prog 9 x1 (.int .i64 0) r10.2) fun r11=>bnd (oIndex Tryz.prog 9 x1 (.int .i64 0) r11.2) fun r12=>bnd (call (fnV 174) [x0, r11.1] r12.2) fun r13=>bnd (call (fnV 173) [r13.1, r12.1] r13.2) fun r14=>oRes Tryz.prog [(r14.1, none)] r14.2) (bnd (call (fnV 175) [x1] r10.2) fun r15=>bnd (oExtract r15.1 0 r15.2) fun r16=>bnd (oExtract r15.1 1 r16.2) fun r17=>bnd (oAlloc Tryz.prog 248 r17.2) fun r18=>bnd (stV 256 r18.1 r16.1 r18.2) fun r19=>vIf r17.1 (bnd (call (fnV 177) [x0, r18.1] r19.2) fun r20=>bnd (call (fnV 176) [r20.1, r18.1] r20.2) fun r21=>oRes Tryz.prog [(r21.1, none)] r21.2) (bnd (call (fnV 179) [x0, x1] r19.2) fun r22=>bnd (call (fnV 178) [r22.1, x1] r22.2) fun r23=>oRes Tryz.prog [(r23.1, none)] r23.2)))
theorem strings_Trim_om {x0 x1 : Value} {W : AW} {r : Value × AW} (h : strings_Trim omS x0 x1 W = some r) : omS (.func (.func 125) #[] #[]) [x0, x1] W = some (gc W r) := om_of (nt := 43) (n := 2) (by kernel_rfl) (by kernel_rfl) rfl (Eq.trans (by kernel_rfl) h)
noncomputable def slices_IndexFuncapi_VnSectionapi_VnSection_L1 (call : Eng.Callee) (R : Nat → Value) (W : AW) : Option LT := bnd (oBin Tryz.prog .lss 3 false false (R 8) (R 7) W) fun r2=>vIf r2.1 (bnd (ixS 3 (R 0) (R 8) r2.2) fun r3=>bnd (ldA 3 r3.1 r3.2) fun r4=>bnd (call (R 1) [r4.1] r4.2) fun r5=>vIf r5.1 (some (X.ret, (puts R [(9,r2.1),(10,(R 8)),(5,(R 8)),(11,(R 1)),(12,(R 0)),(13,(R 8)),(14,r3.1),(15,r4.1),(16,r5.1),(17,(R 8)),(4,(R 8))]), r5.2)) (bnd (oBin Tryz.prog .add 3 false true (R 8) (.int .i64 1) r5.2) fun r6=>some (X.normal, (puts R [(9,r2.1),(10,(R 8)),(5,(R 8)),(11,(R 1)),(12,(R 0)),(13,(R 8)),(14,r3.1),(15,r4.1),(16,r5.1),(18,r6.1),(8,r6.1)]), r6.2))) (some (X.exit 0, (rput R (some 9) r2.1), r2.2))
noncomputable def slices_IndexFuncapi_VnSectionapi_VnSection (call : Eng.Callee) (x0 x1 : Value) (W : AW) : Option (Value × AW) := bnd (oBuiltin Tryz.prog .len #[22] 3 #[false] [x0] W) fun r1=>bnd (loopO (slices_IndexFuncapi_VnSectionapi_VnSection_L1 call) (puts (argGo 0 [x0, x1] PlanTab.blank) [(4,(.int .i64 0)),(6,x0),(7,r1.1),(8,(.int .i64 0))]) r1.2) fun r7=>kExit 0 r7.1 (oRes Tryz.prog [((.int .i64 (-1)), none)] r7.2.2) (kRetX r7.1 (oRes Tryz.prog [((r7.2.1 4), none)] r7.2.2))
theorem slices_IndexFuncapi_VnSectionapi_VnSection_om {x0 x1 : Value} {W : AW} {r : Value × AW} (h : slices_IndexFuncapi_VnSectionapi_VnSection omS x0 x1 W = some r) : omS (.func (.func 126) #[] #[]) [x0, x1] W = some (gc W r) := om_of (nt := 19) (n := 2) (by kernel_rfl) (by kernel_rfl) rfl (Eq.trans (by kernel_rfl) h)
noncomputable def ref01_lower (call : Eng.Callee) (x0 : Value) (W : AW) : Option (Value × AW) := bnd (oBin Tryz.prog .geq 5 false true x0 (.int .u8 97) W) fun r1=>bnd (bIf (wnt r1.1 true) (oMv x0 r1.2) (some (undef, r1.2))) fun r2=>bnd (bIf (wnt r1.1 true) (oBin Tryz.prog .leq 5 false true r2.1 (.int .u8 122) r2.2) (some (undef, r2.2))) fun r3=>bnd (oPick r1.1 r3.1 (.bool false) r3.2) fun r4=>oRes Tryz.prog [(r4.1, none)] r4.2
theorem ref01_lower_om {x0 : Value} {W : AW} {r : Value × AW} (h : ref01_lower omS x0 W = some r) : omS (.func (.func 127) #[] #[]) [x0] W = some (gc W r) := om_of (nt := 9) (n := 1) (by kernel_rfl) (by kernel_rfl) rfl (Eq.trans (by kernel_rfl) h)
noncomputable def ref01_digit (call : Eng.Callee) (x0 : Value) (W : AW) : Option (Value × AW) := bnd (oBin Tryz.prog .geq 5 false true x0 (.int .u8 48) W) fun r1=>bnd (bIf (wnt r1.1 true) (oMv x0 r1.2) (some (undef, r1.2))) fun r2=>bnd (bIf (wnt r1.1 true) (oBin Tryz.prog .leq 5 false true r2.1 (.int .u8 57) r2.2) (some (undef, r2.2))) fun r3=>bnd (oPick r1.1 r3.1 (.bool false) r3.2) fun r4=>oRes Tryz.prog [(r4.1, none)] r4.2
theorem ref01_digit_om {x0 : Value} {W : AW} {r : Value × AW} (h : ref01_digit omS x0 W = some r) : omS (.func (.func 128) #[] #[]) [x0] W = some (gc W r) := om_of (nt := 9) (n := 1) (by kernel_rfl) (by kernel_rfl) rfl (Eq.trans (by kernel_rfl) h)
noncomputable def venue_Of_Y1a (call : Eng.Callee) (R : Nat → Value) (W : AW) : Option LT := bnd (oAlloc Tryz.prog 152 W) fun r14=>bnd (stV 4 r14.1 (R 20) r14.2) fun r15=>some (X.normal, (rput R (some 9) r14.1), r15.2)
theorem venue_Of_Y1a_eq (call : Eng.Callee) (R : Nat → Value) (W : AW) : kCode Tryz.prog call false 37 (cAt [1, 1, 0, 1, 0, 0] (cod 170)) LT R W ret3 = venue_Of_Y1a call R W := by kernel_rfl
noncomputable def venue_Of_Y1b (call : Eng.Callee) (R : Nat → Value) (W : AW) : Option LT := bnd (faO 0 (R 9) W) fun r16=>bnd (ldC r16.1 r16.2) fun r17=>bnd (ldC (R 3) r17.2) fun r18=>bnd (oBin Tryz.prog .neq 3 false false r17.1 r18.1 r18.2) fun r19=>vIf r19.1 (some (X.normal, (puts R [(21,r16.1),(22,r17.1),(23,r18.1),(24,r19.1)]), r19.2)) (bnd (ldC (R 5) r19.2) fun r20=>bnd (oBin Tryz.prog .eql 3 false true r20.1 (.int .i64 0) r20.2) fun r21=>vIf r21.1 (bnd (faO 2 (R 9) r21.2) fun r22=>bnd (ldC r22.1 r22.2) fun r23=>bnd (stV 1 (R 4) r23.1 r23.2) fun r24=>bnd (ldC (R 5) r24.2) fun r25=>bnd (faO 3 (R 9) r25.2) fun r26=>bnd (ldC r26.1 r26.2) fun r27=>bnd (oBin Tryz.prog .add 3 false false r25.1 r27.1 r27.2) fun r28=>bnd (stV 1 (R 5) r28.1 r28.2) fun r29=>some (X.normal, (puts R [(21,r16.1),(22,r17.1),(23,r18.1),(24,r19.1),(25,r20.1),(26,r21.1),(27,r22.1),(28,r23.1),(29,r25.1),(30,r26.1),(31,r27.1),(32,r28.1)]), r29.2)) (bnd (ldC (R 5) r21.2) fun r30=>bnd (faO 3 (R 9) r30.2) fun r31=>bnd (ldC r31.1 r31.2) fun r32=>bnd (oBin Tryz.prog .add 3 false false r30.1 r32.1 r32.2) fun r33=>bnd (stV 1 (R 5) r33.1 r33.2) fun r34=>some (X.normal, (puts R [(21,r16.1),(22,r17.1),(23,r18.1),(24,r19.1),(25,r20.1),(26,r21.1),(29,r30.1),(30,r31.1),(31,r32.1),(32,r33.1)]), r34.2)))
theorem venue_Of_Y1b_eq (call : Eng.Callee) (R : Nat → Value) (W : AW) : kCode Tryz.prog call false 37 (cAt [1, 1, 0, 1, 0, 1] (cod 170)) LT R W ret3 = venue_Of_Y1b call R W := by kernel_rfl
noncomputable def venue_Of (call : Eng.Callee) (x0 x1 : Value) (W : AW) : Option (Value × AW) := bnd (oBox x0 W) fun r1=>bnd (oBox x1 r1.2) fun r2=>bnd (oAlloc Tryz.prog 3 r2.2) fun r3=>bnd (oAlloc Tryz.prog 3 r3.2) fun r4=>bnd (ldA 4 r1.1 r4.2) fun r5=>bnd (call (fnV 27) [r5.1] r5.2) fun r6=>bnd (oExtract r6.1 0 r6.2) fun r7=>bnd (oExtract r6.1 1 r7.2) fun r8=>bnd (oBin Tryz.prog .neq 34 false true r8.1 (.int .i64 0) r8.2) fun r9=>vIf r9.1 (bnd (stV 1 r3.1 (.int .i64 0) r9.2) fun r10=>bnd (stV 1 r4.1 (.int .i64 0) r10.2) fun r11=>oRes Tryz.prog [(r3.1, some 3), (r4.1, some 3), (r8.1, none)] r11.2) (bnd (ldA 4 r1.1 r9.2) fun r12=>bnd (call (fnV 78) [r12.1] r12.2) fun r13=>bnd (oRange call r13.1 (.loop .ready none (puts (argGo 0 [x0, x1] PlanTab.blank) [(2,r1.1),(3,r2.1),(4,r3.1),(5,r4.1),(6,(.int .i64 0)),(11,r5.1),(12,r6.1),(10,r6.1),(13,r7.1),(14,r8.1),(7,r7.1),(8,r8.1),(15,r8.1),(16,r9.1),(18,r12.1),(19,r13.1)]) 37 #[20] (cAt [1, 1, 0, 1, 0, 0] (cod 170)) (cAt [1, 1, 0, 1, 0, 1] (cod 170))) r13.2) fun r35=>kNorm r35.1 (bnd (ldC r4.1 r35.2) fun r36=>bnd (oBin Tryz.prog .eql 3 false true r36.1 (.int .i64 0) r36.2) fun r37=>vIf r37.1 (bnd (stV 1 r3.1 (.int .i64 0) r37.2) fun r38=>bnd (stV 1 r4.1 (.int .i64 0) r38.2) fun r39=>oRes Tryz.prog [(r3.1, some 3), (r4.1, some 3), ((.int .i64 4), none)] r39.2) (bnd (ldC r3.1 r37.2) fun r40=>bnd (ldC r4.1 r40.2) fun r41=>bnd (stV 1 r3.1 r40.1 r41.2) fun r42=>bIf (agV true (ldC r4.1 r42.2) r41.1 && true) (bnd (stV 1 r4.1 r41.1 r42.2) fun r43=>oRes Tryz.prog [(r3.1, some 3), (r4.1, some 3), ((.int .i64 0), none)] r43.2) none)) (none))
theorem venue_Of_om {x0 x1 : Value} {W : AW} {r : Value × AW} (h : venue_Of omS x0 x1 W = some r) : omS (.func (.func 170) #[] #[]) [x0, x1] W = some (gc W r) := om_of (nt := 37) (n := 2) (by kernel_rfl) (by kernel_rfl) rfl (Eq.trans (by kernel_rfl) h)
noncomputable def venue_find_Y1a (call : Eng.Callee) (R : Nat → Value) (W : AW) : Option LT := bnd (oAlloc Tryz.prog 152 W) fun r15=>bnd (stV 4 r15.1 (R 20) r15.2) fun r16=>some (X.normal, (rput R (some 8) r15.1), r16.2)
theorem venue_find_Y1a_eq (call : Eng.Callee) (R : Nat → Value) (W : AW) : kCode Tryz.prog call false 36 (cAt [1, 1, 0, 1, 0, 0] (cod 171)) LT R W ret3 = venue_find_Y1a call R W := by kernel_rfl
noncomputable def venue_find_Y1b (call : Eng.Callee) (R : Nat → Value) (W : AW) : Option LT := bnd (ldC (R 3) W) fun r17=>bnd (faO 2 (R 8) r17.2) fun r18=>bnd (ldC r18.1 r18.2) fun r19=>bnd (oBin Tryz.prog .geq 3 false false r17.1 r19.1 r19.2) fun r20=>bnd (bIf (wnt r20.1 true) (ldC (R 3) r20.2) (some (undef, r20.2))) fun r21=>bnd (bIf (wnt r20.1 true) (faO 2 (R 8) r21.2) (some (undef, r21.2))) fun r22=>bnd (bIf (wnt r20.1 true) (ldC r22.1 r22.2) (some (undef, r22.2))) fun r23=>bnd (bIf (wnt r20.1 true) (faO 3 (R 8) r23.2) (some (undef, r23.2))) fun r24=>bnd (bIf (wnt r20.1 true) (ldC r24.1 r24.2) (some (undef, r24.2))) fun r25=>bnd (bIf (wnt r20.1 true) (oBin Tryz.prog .add 3 false false r23.1 r25.1 r25.2) (some (undef, r25.2))) fun r26=>bnd (bIf (wnt r20.1 true) (oBin Tryz.prog .lss 3 false false r21.1 r26.1 r26.2) (some (undef, r26.2))) fun r27=>bnd (oPick r20.1 r27.1 (.bool false) r27.2) fun r28=>vIf r28.1 (bnd (ldA 4 (R 8) r28.2) fun r29=>bnd (stV 4 (R 4) r29.1 r29.2) fun r30=>bnd (stV 1 (R 5) (.int .i64 0) r30.2) fun r31=>some (X.ret, (puts R [(21,r17.1),(22,r18.1),(23,r19.1),(24,r20.1),(25,r20.1),(26,r21.1),(27,r22.1),(28,r23.1),(29,r24.1),(30,r25.1),(31,r26.1),(32,r27.1),(33,r28.1),(34,r29.1)]), r31.2)) (some (X.normal, (puts R [(21,r17.1),(22,r18.1),(23,r19.1),(24,r20.1),(25,r20.1),(26,r21.1),(27,r22.1),(28,r23.1),(29,r24.1),(30,r25.1),(31,r26.1),(32,r27.1),(33,r28.1)]), r28.2))
theorem venue_find_Y1b_eq (call : Eng.Callee) (R : Nat → Value) (W : AW) : kCode Tryz.prog call false 36 (cAt [1, 1, 0, 1, 0, 1] (cod 171)) LT R W ret3 = venue_find_Y1b call R W := by kernel_rfl
noncomputable def venue_find (call : Eng.Callee) (x0 x1 : Value) (W : AW) : Option (Value × AW) := bnd (oBox x0 W) fun r1=>bnd (oBox x1 r1.2) fun r2=>bnd (oAlloc Tryz.prog 152 r2.2) fun r3=>bnd (oAlloc Tryz.prog 34 r3.2) fun r4=>bnd (ldA 4 r1.1 r4.2) fun r5=>bnd (call (fnV 27) [r5.1] r5.2) fun r6=>bnd (oExtract r6.1 0 r6.2) fun r7=>bnd (oExtract r6.1 1 r7.2) fun r8=>bnd (oBin Tryz.prog .neq 34 false true r8.1 (.int .i64 0) r8.2) fun r9=>vIf r9.1 (bnd (oBuild Tryz.prog 152 [] r9.2) fun r10=>bnd (stV 4 r3.1 r10.1 r10.2) fun r11=>bnd (stV 1 r4.1 r8.1 r11.2) fun r12=>oRes Tryz.prog [(r3.1, some 152), (r4.1, some 34)] r12.2) (bnd (ldA 4 r1.1 r9.2) fun r13=>bnd (call (fnV 78) [r13.1] r13.2) fun r14=>bnd (oRange call r14.1 (.loop .ready none (puts (argGo 0 [x0, x1] PlanTab.blank) [(2,r1.1),(3,r2.1),(4,r3.1),(5,r4.1),(10,r5.1),(11,r6.1),(9,r6.1),(12,r7.1),(13,r8.1),(6,r7.1),(7,r8.1),(14,r8.1),(15,r9.1),(18,r13.1),(19,r14.1)]) 36 #[20] (cAt [1, 1, 0, 1, 0, 0] (cod 171)) (cAt [1, 1, 0, 1, 0, 1] (cod 171))) r14.2) fun r32=>kNorm r32.1 (bnd (oBuild Tryz.prog 152 [] r32.2) fun r33=>bnd (stV 4 r3.1 r33.1 r33.2) fun r34=>bnd (stV 1 r4.1 (.int .i64 4) r34.2) fun r35=>oRes Tryz.prog [(r3.1, some 152), (r4.1, some 34)] r35.2) (kRetX r32.1 (oRes Tryz.prog [(r3.1, some 152), (r4.1, some 34)] r32.2)))
theorem venue_find_om {x0 x1 : Value} {W : AW} {r : Value × AW} (h : venue_find omS x0 x1 W = some r) : omS (.func (.func 171) #[] #[]) [x0, x1] W = some (gc W r) := om_of (nt := 36) (n := 2) (by kernel_rfl) (by kernel_rfl) rfl (Eq.trans (by kernel_rfl) h)
noncomputable def ref15_Of (call : Eng.Callee) (x0 x1 : Value) (W : AW) : Option (Value × AW) := bnd (oBox x0 W) fun r1=>bnd (ldA 4 r1.1 r1.2) fun r2=>bnd (call (fnV 233) [r2.1, x1, (.int .i64 (-1))] r2.2) fun r3=>bnd (oExtract r3.1 0 r3.2) fun r4=>bnd (oExtract r3.1 1 r4.2) fun r5=>bnd (oExtract r3.1 2 r5.2) fun r6=>oRes Tryz.prog [(r4.1, none), (r5.1, none), (r6.1, none)] r6.2
theorem ref15_Of_om {x0 x1 : Value} {W : AW} {r : Value × AW} (h : ref15_Of omS x0 x1 W = some r) : omS (.func (.func 172) #[] #[]) [x0, x1] W = some (gc W r) := om_of (nt := 13) (n := 2) (by kernel_rfl) (by kernel_rfl) rfl (Eq.trans (by kernel_rfl) h)
noncomputable def strings_makeASCIISet_L1 (call : Eng.Callee) (R : Nat → Value) (W : AW) : Option LT := bnd (oBuiltin Tryz.prog .len #[9] 3 #[false] [(R 0)] W) fun r2=>bnd (oBin Tryz.prog .lss 3 false false (R 4) r2.1 r2.2) fun r3=>vIf r3.1 (bnd (oIndex Tryz.prog 9 (R 0) (R 4) r3.2) fun r4=>bnd (oBin Tryz.prog .geq 5 false true r4.1 (.int .u8 128) r4.2) fun r5=>vIf r5.1 (bnd (ldA 256 (R 2) r5.2) fun r6=>bnd (stV 256 (R 2) r6.1 r6.2) fun r7=>some (X.ret, (puts R [(6,(R 4)),(7,(R 0)),(8,r2.1),(9,r3.1),(12,(R 0)),(13,(R 4)),(14,r4.1),(5,r4.1),(15,r4.1),(16,r5.1),(17,r6.1),(3,(.bool false))]), r7.2)) (bnd (ixA 256 1 (R 2) r4.1 r5.2) fun r8=>bnd (stV 1 r8.1 (.bool true) r8.2) fun r9=>bnd (oBin Tryz.prog .add 3 false true (R 4) (.int .i64 1) r9.2) fun r10=>some (X.normal, (puts R [(6,(R 4)),(7,(R 0)),(8,r2.1),(9,r3.1),(12,(R 0)),(13,(R 4)),(14,r4.1),(5,r4.1),(15,r4.1),(16,r5.1),(18,r4.1),(19,r8.1),(10,(R 4)),(11,r10.1),(4,r10.1)]), r10.2))) (some (X.exit 0, (puts R [(6,(R 4)),(7,(R 0)),(8,r2.1),(9,r3.1)]), r3.2))
noncomputable def strings_makeASCIISet (call : Eng.Callee) (x0 : Value) (W : AW) : Option (Value × AW) := bnd (oAlloc Tryz.prog 248 W) fun r1=>bnd (loopO (strings_makeASCIISet_L1 call) (puts (argGo 0 [x0] PlanTab.blank) [(2,r1.1),(3,(.bool false)),(4,(.int .i64 0))]) r1.2) fun r11=>kExit 0 r11.1 (bnd (ldA 256 (r11.2.1 2) r11.2.2) fun r12=>bnd (stV 256 (r11.2.1 2) r12.1 r12.2) fun r13=>oRes Tryz.prog [((r11.2.1 2), some 248), ((.bool true), none)] r13.2) (kRetX r11.1 (oRes Tryz.prog [((r11.2.1 2), some 248), ((r11.2.1 3), none)] r11.2.2))
theorem strings_makeASCIISet_om {x0 : Value} {W : AW} {r : Value × AW} (h : strings_makeASCIISet omS x0 W = some r) : omS (.func (.func 175) #[] #[]) [x0] W = some (gc W r) := om_of (nt := 21) (n := 1) (by kernel_rfl) (by kernel_rfl) rfl (Eq.trans (by kernel_rfl) h)
noncomputable def strings_trimLeftASCII_L1 (call : Eng.Callee) (R : Nat → Value) (W : AW) : Option LT := bnd (oBuiltin Tryz.prog .len #[9] 3 #[false] [(R 0)] W) fun r1=>bnd (oBin Tryz.prog .gtr 3 false true r1.1 (.int .i64 0) r1.2) fun r2=>vIf r2.1 (bnd (oIndex Tryz.prog 9 (R 0) (.int .i64 0) r2.2) fun r3=>bnd (call (fnV 234) [(R 1), r3.1] r3.2) fun r4=>bnd (oUn Tryz.prog .not r4.1 r4.2) fun r5=>vIf r5.1 (some (X.exit 0, (puts R [(5,(R 0)),(6,r1.1),(7,r2.1),(8,(R 1)),(9,(R 0)),(10,r3.1),(11,r4.1),(12,r5.1)]), r5.2)) (bnd (oSlice Tryz.prog 9 (R 0) (some (.int .i64 1)) none none r5.2) fun r6=>some (X.normal, (puts R [(5,(R 0)),(6,r1.1),(7,r2.1),(8,(R 1)),(9,(R 0)),(10,r3.1),(11,r4.1),(12,r5.1),(13,(R 0)),(14,r6.1),(0,r6.1)]), r6.2))) (some (X.exit 0, (puts R [(5,(R 0)),(6,r1.1),(7,r2.1)]), r2.2))
noncomputable def strings_trimLeftASCII (call : Eng.Callee) (x0 x1 : Value) (W : AW) : Option (Value × AW) := bnd (loopO (strings_trimLeftASCII_L1 call) (rput (argGo 0 [x0, x1] PlanTab.blank) (some 4) (strV [])) W) fun r7=>kExit 0 r7.1 (oRes Tryz.prog [((r7.2.1 0), none)] r7.2.2) (none)
theorem strings_trimLeftASCII_om {x0 x1 : Value} {W : AW} {r : Value × AW} (h : strings_trimLeftASCII omS x0 x1 W = some r) : omS (.func (.func 176) #[] #[]) [x0, x1] W = some (gc W r) := om_of (nt := 16) (n := 2) (by kernel_rfl) (by kernel_rfl) rfl (Eq.trans (by kernel_rfl) h)
noncomputable def strings_trimRightASCII_L1 (call : Eng.Callee) (R : Nat → Value) (W : AW) : Option LT := bnd (oBuiltin Tryz.prog .len #[9] 3 #[false] [(R 0)] W) fun r1=>bnd (oBin Tryz.prog .gtr 3 false true r1.1 (.int .i64 0) r1.2) fun r2=>vIf r2.1 (bnd (oBuiltin Tryz.prog .len #[9] 3 #[false] [(R 0)] r2.2) fun r3=>bnd (oBin Tryz.prog .sub 3 false true r3.1 (.int .i64 1) r3.2) fun r4=>bnd (oIndex Tryz.prog 9 (R 0) r4.1 r4.2) fun r5=>bnd (call (fnV 234) [(R 1), r5.1] r5.2) fun r6=>bnd (oUn Tryz.prog .not r6.1 r6.2) fun r7=>vIf r7.1 (some (X.exit 0, (puts R [(5,(R 0)),(6,r1.1),(7,r2.1),(8,(R 1)),(9,(R 0)),(10,(R 0)),(11,r3.1),(12,r4.1),(13,r5.1),(14,r6.1),(15,r7.1)]), r7.2)) (bnd (oBuiltin Tryz.prog .len #[9] 3 #[false] [(R 0)] r7.2) fun r8=>bnd (oBin Tryz.prog .sub 3 false true r8.1 (.int .i64 1) r8.2) fun r9=>bnd (oSlice Tryz.prog 9 (R 0) none (some r9.1) none r9.2) fun r10=>some (X.normal, (puts R [(5,(R 0)),(6,r1.1),(7,r2.1),(8,(R 1)),(9,(R 0)),(10,(R 0)),(11,r3.1),(12,r4.1),(13,r5.1),(14,r6.1),(15,r7.1),(16,(R 0)),(17,(R 0)),(18,r8.1),(19,r9.1),(20,r10.1),(0,r10.1)]), r10.2))) (some (X.exit 0, (puts R [(5,(R 0)),(6,r1.1),(7,r2.1)]), r2.2))
noncomputable def strings_trimRightASCII (call : Eng.Callee) (x0 x1 : Value) (W : AW) : Option (Value × AW) := bnd (loopO (strings_trimRightASCII_L1 call) (rput (argGo 0 [x0, x1] PlanTab.blank) (some 4) (strV [])) W) fun r11=>kExit 0 r11.1 (oRes Tryz.prog [((r11.2.1 0), none)] r11.2.2) (none)
theorem strings_trimRightASCII_om {x0 x1 : Value} {W : AW} {r : Value × AW} (h : strings_trimRightASCII omS x0 x1 W = some r) : omS (.func (.func 177) #[] #[]) [x0, x1] W = some (gc W r) := om_of (nt := 22) (n := 2) (by kernel_rfl) (by kernel_rfl) rfl (Eq.trans (by kernel_rfl) h)
noncomputable def ref15_some_L1 (call : Eng.Callee) (R : Nat → Value) (W : AW) : Option LT := bnd (oBuiltin Tryz.prog .len #[117] 3 #[false] [(R 13)] W) fun r9=>bnd (oBin Tryz.prog .lss 3 false false (R 14) r9.1 r9.2) fun r10=>vIf r10.1 (bnd (ixS 3 (R 13) (R 14) r10.2) fun r11=>bnd (faO 0 r11.1 r11.2) fun r12=>bnd (ldC r12.1 r12.2) fun r13=>bnd (oBin Tryz.prog .eql 3 false false r13.1 (R 1) r13.2) fun r14=>bnd (bIf (wnt r14.1 true) (oMv (R 2) r14.2) (some (undef, r14.2))) fun r15=>bnd (bIf (wnt r14.1 true) (oBin Tryz.prog .eql 3 false true r15.1 (.int .i64 (-1)) r15.2) (some (undef, r15.2))) fun r16=>bnd (bIf (wnt r14.1 true) (oMv r16.1 r16.2) (some (undef, r16.2))) fun r17=>bnd (bIf (wnt r17.1 false) (oMv (R 13) r17.2) (some (undef, r17.2))) fun r18=>bnd (bIf (wnt r17.1 false) (oMv (R 14) r18.2) (some (undef, r18.2))) fun r19=>bnd (bIf (wnt r17.1 false) (ixS 3 r18.1 r19.1 r19.2) (some (undef, r19.2))) fun r20=>bnd (bIf (wnt r17.1 false) (faO 1 r20.1 r20.2) (some (undef, r20.2))) fun r21=>bnd (bIf (wnt r17.1 false) (ldC r21.1 r21.2) (some (undef, r21.2))) fun r22=>bnd (bIf (wnt r17.1 false) (oMv (R 2) r22.2) (some (undef, r22.2))) fun r23=>bnd (bIf (wnt r17.1 false) (oBin Tryz.prog .eql 3 false false r22.1 r23.1 r23.2) (some (undef, r23.2))) fun r24=>bnd (bIf (wnt r14.1 true) (oPick r17.1 (.bool true) r24.1 r24.2) (some (undef, r24.2))) fun r25=>bnd (oPick r14.1 r25.1 (.bool false) r25.2) fun r26=>vIf r26.1 (bnd (oBin Tryz.prog .eql 3 false true (R 12) (.int .i64 0) r26.2) fun r27=>vIf r27.1 (bnd (oBin Tryz.prog .add 3 false true (R 12) (.int .i64 1) r27.2) fun r28=>bnd (oBin Tryz.prog .add 3 false true (R 14) (.int .i64 1) r28.2) fun r29=>some (X.normal, (puts R [(25,(R 14)),(26,(R 13)),(27,r9.1),(28,r10.1),(31,(R 13)),(32,(R 14)),(33,r11.1),(34,r12.1),(35,r13.1),(36,(R 1)),(37,r14.1),(38,r14.1),(39,r15.1),(40,r16.1),(41,r17.1),(42,r18.1),(43,r19.1),(44,r20.1),(45,r21.1),(46,r22.1),(47,r23.1),(48,r24.1),(49,r25.1),(50,r26.1),(51,(R 12)),(52,r27.1),(53,(R 14)),(11,(R 14)),(54,(R 12)),(55,r28.1),(12,r28.1),(29,(R 14)),(30,r29.1),(14,r29.1)]), r29.2)) (bnd (oBin Tryz.prog .add 3 false true (R 12) (.int .i64 1) r27.2) fun r30=>bnd (oBin Tryz.prog .add 3 false true (R 14) (.int .i64 1) r30.2) fun r31=>some (X.normal, (puts R [(25,(R 14)),(26,(R 13)),(27,r9.1),(28,r10.1),(31,(R 13)),(32,(R 14)),(33,r11.1),(34,r12.1),(35,r13.1),(36,(R 1)),(37,r14.1),(38,r14.1),(39,r15.1),(40,r16.1),(41,r17.1),(42,r18.1),(43,r19.1),(44,r20.1),(45,r21.1),(46,r22.1),(47,r23.1),(48,r24.1),(49,r25.1),(50,r26.1),(51,(R 12)),(52,r27.1),(54,(R 12)),(55,r30.1),(12,r30.1),(29,(R 14)),(30,r31.1),(14,r31.1)]), r31.2))) (bnd (oBin Tryz.prog .add 3 false true (R 14) (.int .i64 1) r26.2) fun r32=>some (X.normal, (puts R [(25,(R 14)),(26,(R 13)),(27,r9.1),(28,r10.1),(31,(R 13)),(32,(R 14)),(33,r11.1),(34,r12.1),(35,r13.1),(36,(R 1)),(37,r14.1),(38,r14.1),(39,r15.1),(40,r16.1),(41,r17.1),(42,r18.1),(43,r19.1),(44,r20.1),(45,r21.1),(46,r22.1),(47,r23.1),(48,r24.1),(49,r25.1),(50,r26.1),(29,(R 14)),(30,r32.1),(14,r32.1)]), r32.2))) (some (X.exit 0, (puts R [(25,(R 14)),(26,(R 13)),(27,r9.1),(28,r10.1)]), r10.2))
noncomputable def ref15_some (call : Eng.Callee) (x0 x1 x2 : Value) (W : AW) : Option (Value × AW) := bnd (oBox x0 W) fun r1=>bnd (ldA 4 r1.1 r1.2) fun r2=>bnd (call (fnV 28) [r2.1] r2.2) fun r3=>bnd (oExtract r3.1 0 r3.2) fun r4=>bnd (oExtract r3.1 1 r4.2) fun r5=>bnd (oBin Tryz.prog .neq 34 false true r5.1 (.int .i64 0) r5.2) fun r6=>vIf r6.1 (oRes Tryz.prog [((.int .i64 0), none), ((.int .i64 0), none), (r5.1, none)] r6.2) (bnd (ldA 4 r1.1 r6.2) fun r7=>bnd (call (fnV 60) [r7.1] r7.2) fun r8=>bnd (loopO (ref15_some_L1 call) (puts (argGo 0 [x0, x1, x2] PlanTab.blank) [(3,r1.1),(6,(.int .i64 0)),(7,(.int .i64 0)),(8,(.int .i64 0)),(16,r2.1),(17,r3.1),(15,r3.1),(18,r4.1),(19,r5.1),(9,r4.1),(10,r5.1),(20,r5.1),(21,r6.1),(11,(.int .i64 0)),(12,(.int .i64 0)),(23,r7.1),(24,r8.1),(13,r8.1),(14,(.int .i64 0))]) r8.2) fun r33=>kExit 0 r33.1 (bnd (oBin Tryz.prog .eql 3 false true (r33.2.1 12) (.int .i64 0) r33.2.2) fun r34=>vIf r34.1 (oRes Tryz.prog [((.int .i64 0), none), ((.int .i64 0), none), ((.int .i64 4), none)] r34.2) (oRes Tryz.prog [((r33.2.1 11), none), ((r33.2.1 12), none), ((.int .i64 0), none)] r34.2)) (none))
theorem ref15_some_om {x0 x1 x2 : Value} {W : AW} {r : Value × AW} (h : ref15_some omS x0 x1 x2 W = some r) : omS (.func (.func 233) #[] #[]) [x0, x1, x2] W = some (gc W r) := om_of (nt := 60) (n := 3) (by kernel_rfl) (by kernel_rfl) rfl (Eq.trans (by kernel_rfl) h)
noncomputable def strings_asciiSet_contains (call : Eng.Callee) (x0 x1 : Value) (W : AW) : Option (Value × AW) := bnd (oNilCheck x0 W) fun r1=>bnd (ixA 256 1 r1.1 x1 r1.2) fun r2=>bnd (ldC r2.1 r2.2) fun r3=>oRes Tryz.prog [(r3.1, none)] r3.2
theorem strings_asciiSet_contains_om {x0 x1 : Value} {W : AW} {r : Value × AW} (h : strings_asciiSet_contains omS x0 x1 W = some r) : omS (.func (.func 234) #[] #[]) [x0, x1] W = some (gc W r) := om_of (nt := 10) (n := 2) (by kernel_rfl) (by kernel_rfl) rfl (Eq.trans (by kernel_rfl) h)
theorem lenI : ((#[40] : Array TypeId)[0]?).bind Tryz.prog.underlying = some (.slice 3) := by kernel_rfl
theorem lenS : ((#[22] : Array TypeId)[0]?).bind Tryz.prog.underlying = some (.slice 63) := by kernel_rfl
def outB (n lo hi : Int) : Bool := decide (n < lo) || decide (hi < n)
theorem outsideint_ok (n lo hi : Int) (W : AW) : omS (.func (.func 55) #[] #[]) [.int .i64 n, .int .i64 lo, .int .i64 hi] W = some (.bool (outB n lo hi), W) := by
  have h : venue_outsideint omS (.int .i64 n) (.int .i64 lo) (.int .i64 hi) W = some (.bool (outB n lo hi), W) := by
    unfold venue_outsideint outB
    by_cases h : n < lo <;> simp only [SX, h, Bool.true_or, Bool.false_or]
  rw [venue_outsideint_om h, gc_bool (.refl _)]
theorem outsideint64_ok (n lo hi : Int) (W : AW) : omS (.func (.func 56) #[] #[]) [.int .i64 n, .int .i64 lo, .int .i64 hi] W = some (.bool (outB n lo hi), W) := by
  have h : venue_outsideint64 omS (.int .i64 n) (.int .i64 lo) (.int .i64 hi) W = some (.bool (outB n lo hi), W) := by
    unfold venue_outsideint64 outB
    by_cases h : n < lo <;> simp only [SX, h, Bool.true_or, Bool.false_or]
  rw [venue_outsideint64_om h, gc_bool (.refl _)]
def inB (n lo hi : Int) : Bool := decide (lo ≤ n) && decide (n ≤ hi)
theorem inB_not (n lo hi : Int) : inB n lo hi = !outB n lo hi := by
  unfold inB outB
  rw [Bool.eq_iff_iff]; simp
theorem within_ok (n lo hi : Int) (W : AW) : omS (.func (.func 58) #[] #[]) [.int .i64 n, .int .i64 lo, .int .i64 hi] W = some (.bool (inB n lo hi), W) := by
  have h : ref15_within omS (.int .i64 n) (.int .i64 lo) (.int .i64 hi) W = some (.bool (inB n lo hi), W) := by
    unfold ref15_within inB
    by_cases h : lo ≤ n <;> simp only [SX, h, Bool.true_and, Bool.false_and]
  rw [ref15_within_om h, gc_bool (.refl _)]
theorem un9 : Tryz.prog.underlying 9 = some .string := by kernel_rfl
theorem len9 : ((#[9] : Array TypeId)[0]?).bind Tryz.prog.underlying = some .string := by kernel_rfl
def setL (l : List UInt8) : List Value := (List.range 256).map fun i => .bool (l.any fun c => c.toNat == i)
theorem setL_len (l : List UInt8) : (setL l).length = 256 := by simp [setL]
theorem setL_get (l : List UInt8) {i : Nat} (h : i < 256) : (setL l)[i]? = some (.bool (l.any fun c => c.toNat == i)) := by simp [setL, h]
theorem setL_one (l : List UInt8) : (setL l).all Eng.one = true := by
  unfold setL
  rw [List.all_map, List.all_eq_true]
  intro x _
  rfl
theorem setL_plain (l : List UInt8) : (plain (.tuple #[.agg (setL l).toArray, .bool true]) && !isU (.tuple #[.agg (setL l).toArray, .bool true])) = true := by
  have h : plain1 (.agg (setL l).toArray) = true := by
    show (setL l).toArray.toList.all scalar = true
    unfold setL
    rw [List.toList_toArray, List.all_map, List.all_eq_true]
    intro x _
    rfl
  have h2 : plain (.tuple #[.agg (setL l).toArray, .bool true]) = true := by
    show (plain1 (.agg (setL l).toArray) && (plain1 (.bool true) && true)) = true
    rw [h]; rfl
  rw [h2]; rfl
theorem setL_set (l : List UInt8) (c : UInt8) : (setL l).set c.toNat (.bool true) = setL (l ++ [c]) := by
  apply List.ext_getElem?
  intro i
  by_cases hi : i < 256
  · rw [List.getElem?_set, setL_get _ hi, setL_get _ hi, setL_len]
    by_cases hc : c.toNat = i
    · rw [if_pos hc, if_pos (by omega)]
      simp [hc]
    · rw [if_neg hc]
      have : (c.toNat == i) = false := by simpa using hc
      simp [this]
  · rw [List.getElem?_eq_none (by rw [List.length_set, setL_len]; omega), List.getElem?_eq_none (by rw [setL_len]; omega)]
theorem al156 (W : AW) : oAlloc Tryz.prog 248 W = some (.pointer (some ⟨W.next, 0, none⟩), W.add (.cells (setL []))) := Eq.trans (by kernel_rfl) rfl
theorem oL156 (x : Value) (W : AW) : oLoad Tryz.prog 248 x W = ldA 256 x W := by kernel_rfl
theorem setHas_ok {b : Nat} {l : List UInt8} {W : AW} (hb : cellsAt W b = some (setL l)) (c : UInt8) : omS (.func (.func 234) #[] #[]) [.pointer (some ⟨b, 0, none⟩), .int .u8 (c.toNat : Int)] W = some (.bool (l.any fun x => x == c), W) := by
  refine om_drop rfl ?_ strings_asciiSet_contains_om
  unfold strings_asciiSet_contains
  have hc : c.toNat < 256 := c.toNat_lt
  simp only [SX, oNilCheck_ptr, ixA_ok hc, ldC_eq, hb, Option.bind_some, Nat.mul_one, Nat.zero_add, setL_get l hc, Option.map_some, Ok_some]
  refine ⟨?_, .refl _⟩
  congr 2
  funext x
  rw [Bool.eq_iff_iff]; simp [UInt8.toNat_inj]
theorem mkSet_ok {l : List UInt8} (hl : l.length < 1000) (ha : ∀ c ∈ l, c.toNat < 128) (W : AW) : omS (.func (.func 175) #[] #[]) [.string (bytesL l)] W = some (.tuple #[.agg (setL l).toArray, .bool true], W) := by
  refine om_drop (setL_plain l) ?_ strings_makeASCIISet_om
  unfold strings_makeASCIISet
  simp only [SX, al156]
  refine Ok_loop l.length (by omega) (fun k R W' => R 0 = .string (bytesL l) ∧ R 2 = .pointer (some ⟨W.next, 0, none⟩) ∧ R 4 = .int .i64 (k : Int) ∧ rwCells W' W.next = some (setL (l.take k)) ∧ Le W W')
        (fun r => r.1 = .exit 0 ∧ r.2.1 2 = .pointer (some ⟨W.next, 0, none⟩) ∧ rwCells r.2.2 W.next = some (setL l) ∧ Le W r.2.2) ⟨rfl, rfl, rfl, rwCells_new, (Le.refl _).add _⟩ ?_ ?_ ?_
  · rintro k R W' hk ⟨h0, h2, h4, hb, hle⟩
    unfold strings_makeASCIISet_L1
    have hc : l[k].toNat < 128 := ha _ (List.getElem_mem hk)
    have e1 : ((k : Int) < (l.length : Int)) := by omega
    have e2 : ¬ (128 : Int) ≤ (l[k].toNat : Int) := by omega
    simp only [SX, h0, h2, h4, str_len len9, e1, str_index un9 hk, e2, ixA_ok (show l[k].toNat < 256 by omega), stV_bool, hb, Option.bind_some, Nat.mul_one, Nat.zero_add, setL_len, show l[k].toNat < 256 by omega, if_true, setL_set,
      oBin_add (show -9223372036854775808 ≤ (k : Int) + 1 by omega) (show (k : Int) + 1 < 9223372036854775808 by omega), Ok_some]
    have e2 : (k : Int) + 1 = ((k + 1 : Nat) : Int) := by omega
    refine .inl ⟨trivial, h0, h2, by rw [← e2]; rfl, ?_, hle.put (Nat.le_refl _) _⟩
    rw [rwCells_put, ← List.take_append_getElem hk]
  · rintro R W' ⟨h0, h2, h4, hb, hle⟩
    unfold strings_makeASCIISet_L1
    have e1 : ¬ ((l.length : Int) < (l.length : Int)) := by omega
    simp only [SX, h0, h2, h4, str_len len9, e1, Ok_some]
    rw [List.take_length] at hb
    exact ⟨by simp, trivial, h2, hb, hle⟩
  · rintro ⟨x, R, W'⟩ ⟨rfl, h2, hb, hle⟩
    simp only at h2 hb hle
    have h1 := stV_all hb (setL_one l)
    rw [setL_len] at h1
    have h3 := ldA_all (rwCells_cellsAt hb) (setL_len l)
    have h4 := ldA_all (W := W'.put W.next (.cells (setL l))) (cellsAt_put _) (setL_len l)
    simp only [SX, h2, h3, h1, oRes_L1n, oL156, h4, Option.bind_some, Ok_some]
    exact ⟨trivial, hle.put (Nat.le_refl _) _⟩
def rtrim (p : UInt8 → Bool) (l : List UInt8) : List UInt8 := (l.reverse.dropWhile p).reverse
theorem drop_all {p : UInt8 → Bool} : ∀ {l : List UInt8} {k : Nat}, (∀ c ∈ l.take k, p c = true) → (l.drop k).dropWhile p = l.dropWhile p
  | l, 0, _ => by simp
  | [], k + 1, _ => by simp
  | c :: l, k + 1, h => by
    have hc : p c = true := h c (by simp)
    rw [List.drop_succ_cons, List.dropWhile_cons, if_pos hc]
    exact drop_all fun d hd => h d (by simp [hd])
abbrev inS (S : List UInt8) (c : UInt8) : Bool := S.any fun x => x == c
theorem trimL_ok {b : Nat} {S l : List UInt8} {W : AW} (hb : cellsAt W b = some (setL S)) (hl : l.length < 1000) : omS (.func (.func 176) #[] #[]) [.string (bytesL l), .pointer (some ⟨b, 0, none⟩)] W = some (.string (bytesL (l.dropWhile (inS S))), W) := by
  refine om_drop rfl ?_ strings_trimLeftASCII_om
  unfold strings_trimLeftASCII
  simp only [SX]
  refine Ok_loop l.length (by omega) (fun k R W' => W' = W ∧ R 0 = .string (bytesL (l.drop k)) ∧ R 1 = .pointer (some ⟨b, 0, none⟩) ∧ ∀ c ∈ l.take k, inS S c = true)
        (fun r => r.2.2 = W ∧ r.1 = .exit 0 ∧ r.2.1 0 = .string (bytesL (l.dropWhile (inS S)))) ⟨rfl, rfl, rfl, by simp⟩ ?_ ?_ ?_
  · rintro k R W' hk ⟨rfl, h0, h1, ha⟩
    unfold strings_trimLeftASCII_L1
    have hd : l.drop k = l[k] :: l.drop (k + 1) := List.drop_eq_getElem_cons hk
    have e1 : (0 : Int) < ((l.drop k).length : Int) := by rw [List.length_drop]; omega
    have e0 : oIndex Tryz.prog 9 (.string (bytesL (l.drop k))) (.int .i64 0) W' = some (.int .u8 (l[k].toNat : Int), W') := by
      have := str_index (P := Tryz.prog) (W := W') (k := .i64) un9 (l := l.drop k) (i := 0) (by rw [List.length_drop]; omega)
      simpa using this
    have e3 : oSlice Tryz.prog 9 (.string (bytesL (l.drop k))) (some (.int .i64 1)) none none W' = some (.string (bytesL (l.drop (k + 1))), W') := by
      have := str_from (P := Tryz.prog) (W := W') (k := .i64) un9 (l := l.drop k) (a := 1) (by rw [List.length_drop]; omega)
      rw [List.drop_drop] at this
      exact this
    simp only [SX, h0, h1, str_len len9, e1, e0, setHas_ok hb, e3]
    cases hp : inS S l[k]
    · simp only [SX, show (S.any fun x => x == l[k]) = false from hp, Ok_some]
      refine .inr ⟨by simp, trivial, trivial, ?_⟩
      show R 0 = _
      rw [h0, ← drop_all ha, hd, List.dropWhile_cons, hp]; rfl
    · simp only [SX, show (S.any fun x => x == l[k]) = true from hp, Ok_some]
      refine .inl ⟨trivial, trivial, rfl, h1, ?_⟩
      rw [← List.take_append_getElem hk]
      intro c hc
      rcases List.mem_append.1 hc with h | h
      · exact ha c h
      · rw [List.mem_singleton.1 h]; exact hp
  · rintro R W' ⟨rfl, h0, h1, ha⟩
    unfold strings_trimLeftASCII_L1
    rw [List.drop_length] at h0
    have e1 : ¬ (0 : Int) < (([] : List UInt8).length : Int) := by simp
    simp only [SX, h0, h1, str_len len9, e1, Ok_some]
    refine ⟨by simp, trivial, trivial, ?_⟩
    show R 0 = _
    rw [h0, ← drop_all ha, List.drop_length]; rfl
  · rintro ⟨x, R, W'⟩ ⟨hW, hx, h0⟩
    simp only at hW hx h0
    subst hW hx
    simp only [SX, Ok_some, h0]
    exact ⟨trivial, .refl _⟩
theorem rtrim_take {p : UInt8 → Bool} {l : List UInt8} {n : Nat} (h : ∀ c ∈ l.drop n, p c = true) : rtrim p (l.take n) = rtrim p l := by
  unfold rtrim
  have h2 : l.reverse = (l.drop n).reverse ++ (l.take n).reverse := by rw [← List.reverse_append, List.take_append_drop]
  have h3 := drop_all (p := p) (l := l.reverse) (k := (l.drop n).reverse.length) (by
    rw [h2, List.take_left]
    intro c hc
    exact h c (List.mem_reverse.1 hc))
  rw [← h3, h2, List.drop_left]
theorem trimR_ok {b : Nat} {S l : List UInt8} {W : AW} (hb : cellsAt W b = some (setL S)) (hl : l.length < 1000) : omS (.func (.func 177) #[] #[]) [.string (bytesL l), .pointer (some ⟨b, 0, none⟩)] W = some (.string (bytesL (rtrim (inS S) l)), W) := by
  refine om_drop rfl ?_ strings_trimRightASCII_om
  unfold strings_trimRightASCII
  simp only [SX]
  refine Ok_loop l.length (by omega) (fun k R W' => W' = W ∧ R 0 = .string (bytesL (l.take (l.length - k))) ∧ R 1 = .pointer (some ⟨b, 0, none⟩) ∧ ∀ c ∈ l.drop (l.length - k), inS S c = true)
        (fun r => r.2.2 = W ∧ r.1 = .exit 0 ∧ r.2.1 0 = .string (bytesL (rtrim (inS S) l))) ⟨rfl, by simp; rfl, rfl, by simp⟩ ?_ ?_ ?_
  · rintro k R W' hk ⟨rfl, h0, h1, ha⟩
    unfold strings_trimRightASCII_L1
    obtain ⟨m, hm⟩ : ∃ m, l.length - k = m + 1 := ⟨l.length - k - 1, by omega⟩
    have hm2 : l.length - (k + 1) = m := by omega
    have hml : m < l.length := by omega
    rw [hm] at h0 ha
    have hlen : (l.take (m + 1)).length = m + 1 := by rw [List.length_take]; omega
    have e1 : (0 : Int) < (((m + 1 : Nat) : Int)) := by omega
    have e2 : ((m + 1 : Nat) : Int) - 1 = (m : Int) := by omega
    have e0 : oIndex Tryz.prog 9 (.string (bytesL (l.take (m + 1)))) (.int .i64 (m : Int)) W' = some (.int .u8 (l[m].toNat : Int), W') := by
      have := str_index (P := Tryz.prog) (W := W') (k := .i64) un9 (l := l.take (m + 1)) (i := m) (by rw [List.length_take]; omega)
      simpa using this
    have e3 : oSlice Tryz.prog 9 (.string (bytesL (l.take (m + 1)))) none (some (.int .i64 (m : Int))) none W' = some (.string (bytesL (l.take m)), W') := by
      have := str_to (P := Tryz.prog) (W := W') (k := .i64) un9 (l := l.take (m + 1)) (a := m) (by rw [List.length_take]; omega)
      rw [List.take_take, Nat.min_eq_left (by omega)] at this
      exact this
    have es := oBinSubT W' ((m + 1 : Nat) : Int) 1
    rw [e2] at es
    simp only [SX, h0, h1, str_len len9, hlen, e1, es, e0, setHas_ok hb, e3]
    cases hp : inS S l[m]
    · simp only [SX, show (S.any fun x => x == l[m]) = false from hp, Ok_some]
      refine .inr ⟨by simp, trivial, trivial, ?_⟩
      show R 0 = _
      rw [h0, ← rtrim_take ha, ← List.take_append_getElem hml]
      unfold rtrim
      rw [List.reverse_append, List.reverse_singleton, List.singleton_append, List.dropWhile_cons, hp]
      simp
    · simp only [SX, show (S.any fun x => x == l[m]) = true from hp, Ok_some]
      refine .inl ⟨trivial, trivial, by rw [hm2]; rfl, h1, ?_⟩
      rw [hm2, List.drop_eq_getElem_cons hml]
      intro c hc
      rcases List.mem_cons.1 hc with h | h
      · rw [h]; exact hp
      · exact ha c h
  · rintro R W' ⟨rfl, h0, h1, ha⟩
    unfold strings_trimRightASCII_L1
    rw [Nat.sub_self, List.take_zero] at h0
    rw [Nat.sub_self, List.drop_zero] at ha
    have e1 : ¬ (0 : Int) < (([] : List UInt8).length : Int) := by simp
    simp only [SX, h0, h1, str_len len9, e1, Ok_some]
    refine ⟨by simp, trivial, trivial, ?_⟩
    show R 0 = _
    rw [h0, ← rtrim_take (n := 0) (by simpa using ha)]; rfl
  · rintro ⟨x, R, W'⟩ ⟨hW, hx, h0⟩
    simp only at hW hx h0
    subst hW hx
    simp only [SX, Ok_some, h0]
    exact ⟨trivial, .refl _⟩
theorem dropW_nil {p : UInt8 → Bool} : ∀ {l : List UInt8}, l.dropWhile p = [] ↔ ∀ c ∈ l, p c = true
  | [] => by simp
  | c :: l => by
    rw [List.dropWhile_cons]
    cases hp : p c
    · simp [hp]
    · simp [hp, dropW_nil]
theorem trim_nil {p : UInt8 → Bool} {l : List UInt8} : (((rtrim p l).dropWhile p) == []) = l.all p := by
  rw [Bool.eq_iff_iff, beq_iff_eq, dropW_nil, List.all_eq_true]
  unfold rtrim
  constructor
  · intro h
    have h2 : l.reverse.dropWhile p = [] := by
      cases hd : l.reverse.dropWhile p with
      | nil => rfl
      | cons x xs =>
        have := List.head_dropWhile_not (p := p) (l := l.reverse) (by rw [hd]; simp)
        rw [hd] at h
        have h3 := h x (by simp)
        simp only [hd, List.head_cons] at this
        rw [h3] at this; cases this
    rw [dropW_nil] at h2
    exact fun c hc => h2 c (List.mem_reverse.2 hc)
  · intro h c hc
    exact h c (by
      have := List.mem_reverse.1 hc
      have := (List.dropWhile_sublist p).subset this
      exact List.mem_reverse.1 this)
def charsN : List Nat := [97, 98, 99, 100, 101, 102, 103, 104, 105, 106, 107, 108, 109, 110, 111, 112, 113, 114, 115, 116, 117, 118, 119, 120, 121, 122, 48, 49, 50, 51, 52, 53, 54, 55, 56, 57, 45]
def charsL : List UInt8 := charsN.map UInt8.ofNat
theorem charsL_in : ∀ n, n < 256 → inS charsL (UInt8.ofNat n) = nameC (UInt8.ofNat n) := by decide +kernel
theorem charsL_name (c : UInt8) : inS charsL c = nameC c := by
  have := charsL_in c.toNat c.toNat_lt
  rwa [UInt8.ofNat_toNat] at this
theorem trim_ok {l : List UInt8} (hl : l.length < 1000) (h0 : l ≠ []) (W : AW) : omS (.func (.func 125) #[] #[]) [.string (bytesL l), strV charsN] W = some (.string (bytesL ((rtrim (inS charsL) l).dropWhile (inS charsL))), W) := by
  refine om_drop rfl ?_ strings_Trim_om
  unfold strings_Trim
  have hs := mkSet_ok (l := charsL) (by decide) (by decide +kernel) W
  have e1 : (l == []) = false := by simpa using h0
  have e2 : (charsL == []) = false := by decide +kernel
  have e3 : ¬ ((charsL.length : Int) = 1) := by decide +kernel
  have hz : (setL []).length = 256 := setL_len []
  have hst : stV 256 (.pointer (some ⟨W.next, 0, none⟩)) (.agg (setL charsL).toArray) (W.add (.cells (setL []))) = some (undef, (W.add (.cells (setL []))).put W.next (.cells (setL charsL))) := by
    rw [stV_agg, rwCells_new]
    simp only [Option.bind_some, List.size_toArray, setL_len, Nat.zero_add, Nat.le_refl, setL_one, and_self, if_true, setN, List.take_zero, List.nil_append]
    rw [List.drop_of_length_le (by simp [setL_len]), List.append_nil]
  have hc : cellsAt ((W.add (.cells (setL []))).put W.next (.cells (setL charsL))) W.next = some (setL charsL) := cellsAt_put _
  have hr := trimR_ok (l := l) hc hl
  have hlt : (rtrim (inS charsL) l).length < 1000 := by
    have := (List.dropWhile_sublist (inS charsL) (l := l.reverse)).length_le
    unfold rtrim
    rw [List.length_reverse]
    rw [List.length_reverse] at this
    omega
  have hL := trimL_ok hc hlt
  show Ok _ _
  rw [strV_L]
  change omS (.func (.func 175) #[] #[]) [.string (bytesL (charsN.map UInt8.ofNat))] W = _ at hs
  simp only [SX, strV_L, List.map_nil, str_eql, e1, str_len len9]
  simp only [SX, show (charsN.map UInt8.ofNat == []) = false from e2, show ¬ (((charsN.map UInt8.ofNat).length : Int) = 1) from e3, hs, al156, hst, hr, hL, Ok_some]
  exact ⟨trivial, ((Le.refl _).add _).put (Nat.le_refl _) _⟩
theorem name_ok (l : List UInt8) (W : AW) : omS (.func (.func 82) #[] #[]) [.string (bytesL l)] W = some (.bool (nameL l), W) := by
  refine om_drop rfl ?_ words_Name_om
  unfold words_Name
  cases l with
  | nil =>
    simp only [SX, strV_L, List.map_nil, str_eql, BEq.rfl, Ok_some]
    exact ⟨rfl, .refl _⟩
  | cons c l =>
    have e1 : (c :: l == []) = false := rfl
    have e0 : oIndex Tryz.prog 9 (.string (bytesL (c :: l))) (.int .i64 0) W = some (.int .u8 (c.toNat : Int), W) := by
      have := str_index (P := Tryz.prog) (W := W) (k := .i64) un9 (l := c :: l) (i := 0) (by simp)
      simpa using this
    by_cases h1 : (16 : Int) < (((c :: l).length : Nat) : Int)
    · simp only [SX, strV_L, List.map_nil, str_eql, e1, str_len len9, h1, Ok_some]
      refine ⟨?_, .refl _⟩
      have : decide ((c :: l).length ≤ 16) = false := by simpa using (by omega : ¬ ((c :: l).length ≤ 16))
      simp only [nameL, this, Bool.and_false, Bool.false_and]
    · have h16 : decide ((c :: l).length ≤ 16) = true := by simpa using (by omega : ((c :: l).length ≤ 16))
      by_cases h2 : (c.toNat : Int) < 97
      · simp only [SX, strV_L, List.map_nil, str_eql, e1, str_len len9, h1, e0, h2, Ok_some]
        refine ⟨?_, .refl _⟩
        have : decide (97 ≤ c.toNat) = false := by simpa using (by omega : ¬ (97 ≤ c.toNat))
        simp only [nameL, this, Bool.false_and]
      · by_cases h3 : (122 : Int) < (c.toNat : Int)
        · simp only [SX, strV_L, List.map_nil, str_eql, e1, str_len len9, h1, e0, h2, h3, Ok_some]
          refine ⟨?_, .refl _⟩
          have : decide (c.toNat ≤ 122) = false := by simpa using (by omega : ¬ (c.toNat ≤ 122))
          simp only [nameL, this, Bool.and_false, Bool.false_and]
        · have ht := trim_ok (l := c :: l) (by omega) (by simp) W
          have hv : (strV [97, 98, 99, 100, 101, 102, 103, 104, 105, 106, 107, 108, 109, 110, 111, 112, 113, 114, 115, 116, 117, 118, 119, 120, 121, 122, 48, 49, 50, 51, 52, 53, 54, 55, 56, 57, 45]) = strV charsN := rfl
          rw [hv]
          simp only [SX, strV_L [], List.map_nil, str_eql, e1, str_len len9, h1, e0, h2, h3, ht, trim_nil, Ok_some]
          refine ⟨?_, .refl _⟩
          have i1 : decide (97 ≤ c.toNat) = true := by simpa using (by omega : (97 ≤ c.toNat))
          have i2 : decide (c.toNat ≤ 122) = true := by simpa using (by omega : (c.toNat ≤ 122))
          have i3 : inS charsL = nameC := funext charsL_name
          simp only [nameL, i1, i2, i3, h16, Bool.true_and]
def lowC (c : UInt8) : Bool := decide (97 ≤ c.toNat) && decide (c.toNat ≤ 122)
def digC (c : UInt8) : Bool := decide (48 ≤ c.toNat) && decide (c.toNat ≤ 57)
theorem lower_ok (c : UInt8) (W : AW) : omS (.func (.func 127) #[] #[]) [.int .u8 (c.toNat : Int)] W = some (.bool (lowC c), W) := by
  refine om_drop rfl ?_ ref01_lower_om
  unfold ref01_lower lowC
  by_cases h : 97 ≤ c.toNat
  · have h1 : (97 : Int) ≤ (c.toNat : Int) := by omega
    simp only [SX, h, h1, Bool.true_and, Ok_some]
    exact ⟨by congr 2; exact propext ⟨fun _ => by omega, fun _ => by omega⟩, .refl _⟩
  · have h1 : ¬ (97 : Int) ≤ (c.toNat : Int) := by omega
    simp only [SX, h, h1, Bool.false_and, Ok_some]
    exact ⟨trivial, .refl _⟩
theorem digit_ok (c : UInt8) (W : AW) : omS (.func (.func 128) #[] #[]) [.int .u8 (c.toNat : Int)] W = some (.bool (digC c), W) := by
  refine om_drop rfl ?_ ref01_digit_om
  unfold ref01_digit digC
  by_cases h : 48 ≤ c.toNat
  · have h1 : (48 : Int) ≤ (c.toNat : Int) := by omega
    simp only [SX, h, h1, Bool.true_and, Ok_some]
    exact ⟨by congr 2; exact propext ⟨fun _ => by omega, fun _ => by omega⟩, .refl _⟩
  · have h1 : ¬ (48 : Int) ≤ (c.toNat : Int) := by omega
    simp only [SX, h, h1, Bool.false_and, Ok_some]
    exact ⟨trivial, .refl _⟩
theorem nameC_is (c : UInt8) : nameC c = (lowC c || digC c || decide ((c.toNat : Int) = 45)) := by
  unfold nameC lowC digC
  congr 1
  rw [Bool.eq_iff_iff, beq_iff_eq, decide_eq_true_iff]
  exact ⟨fun _ => by omega, fun _ => by omega⟩
theorem refName_ok (l : List UInt8) (W : AW) : omS (.func (.func 86) #[] #[]) [.string (bytesL l)] W = some (.bool (nameL l), W) := by
  refine om_drop rfl ?_ ref01_Name_om
  unfold ref01_Name
  cases l with
  | nil =>
    simp only [SX, str_len len9, List.length_nil, show ((0 : Nat) : Int) < 1 by omega, Ok_some]
    exact ⟨rfl, .refl _⟩
  | cons c l =>
    have e1 : ¬ (((c :: l).length : Int) < 1) := by rw [List.length_cons]; omega
    have e0 : oIndex Tryz.prog 9 (.string (bytesL (c :: l))) (.int .i64 0) W = some (.int .u8 (c.toNat : Int), W) := by
      have := str_index (P := Tryz.prog) (W := W) (k := .i64) un9 (l := c :: l) (i := 0) (by simp)
      simpa using this
    by_cases h1 : (16 : Int) < (((c :: l).length : Nat) : Int)
    · simp only [SX, str_len len9, e1, h1, Ok_some]
      refine ⟨?_, .refl _⟩
      have : decide ((c :: l).length ≤ 16) = false := by simpa using (by omega : ¬ ((c :: l).length ≤ 16))
      simp only [nameL, this, Bool.and_false, Bool.false_and]
    · have h16 : decide ((c :: l).length ≤ 16) = true := by simpa using (by omega : ((c :: l).length ≤ 16))
      cases hlow : lowC c
      · simp only [SX, str_len len9, e1, h1, e0, lower_ok, hlow, Ok_some]
        refine ⟨?_, .refl _⟩
        have : (decide (97 ≤ c.toNat) && decide (c.toNat ≤ 122)) = false := hlow
        simp only [nameL, this, Bool.false_and]
      · simp only [SX, str_len len9, e1, h1, e0, lower_ok, hlow]
        have hn : nameL (c :: l) = (c :: l).all nameC := by
          have : (decide (97 ≤ c.toNat) && decide (c.toNat ≤ 122)) = true := hlow
          simp only [nameL, this, h16, Bool.true_and]
        rw [hn]
        generalize hL : c :: l = L
        rw [hL] at h1
        refine Ok_loop L.length (by omega) (fun k R W' => W' = W ∧ R 0 = .string (bytesL L) ∧ R 3 = .int .i64 (k : Int) ∧ (L.take k).all nameC = true)
          (fun r => r.2.2 = W ∧ ((r.1 = .exit 0 ∧ L.all nameC = true) ∨ (r.1 = .ret ∧ r.2.1 2 = .bool false ∧ L.all nameC = false))) ⟨rfl, rfl, rfl, rfl⟩ ?_ ?_ ?_
        · rintro k R W' hk ⟨rfl, h0, h3, ha⟩
          unfold ref01_Name_L1
          have e1 : ((k : Int) < (L.length : Int)) := by omega
          have hx := nameC_is L[k]
          have yes : nameC L[k] = true → (L.take (k + 1)).all nameC = true := fun h => by
            rw [← List.take_append_getElem hk, List.all_append, ha]; simpa using h
          have no : nameC L[k] = false → L.all nameC = false := fun h => by
            rw [List.all_eq_false]
            exact ⟨L[k], List.getElem_mem hk, by simp [h]⟩
          have e2 : (k : Int) + 1 = ((k + 1 : Nat) : Int) := by omega
          have ea := oBinAddT W' k 1
          cases i1 : lowC L[k]
          · cases i2 : digC L[k]
            · by_cases i3 : (L[k].toNat : Int) = 45
              · simp only [SX, h0, h3, str_len len9, e1, str_index un9 hk, lower_ok, digit_ok, i1, i2, show decide ((L[k].toNat : Int) = 45) = true from decide_eq_true i3, ea, Ok_some]
                refine .inl ⟨trivial, trivial, h0, by rw [← e2]; rfl, yes (by rw [hx, i1, i2]; simp [i3])⟩
              · simp only [SX, h0, h3, str_len len9, e1, str_index un9 hk, lower_ok, digit_ok, i1, i2, i3, ea, Ok_some]
                refine .inr ⟨by simp, trivial, .inr ⟨trivial, rfl, no (by rw [hx, i1, i2]; simp [i3])⟩⟩
            · simp only [SX, h0, h3, str_len len9, e1, str_index un9 hk, lower_ok, digit_ok, i1, i2, ea, Ok_some]
              refine .inl ⟨trivial, trivial, h0, by rw [← e2]; rfl, yes (by rw [hx, i1, i2]; simp)⟩
          · simp only [SX, h0, h3, str_len len9, e1, str_index un9 hk, lower_ok, i1, ea, Ok_some]
            refine .inl ⟨trivial, trivial, h0, by rw [← e2]; rfl, yes (by rw [hx, i1]; simp)⟩
        · rintro R W' ⟨rfl, h0, h3, ha⟩
          unfold ref01_Name_L1
          have e1 : ¬ ((L.length : Int) < (L.length : Int)) := by omega
          rw [List.take_length] at ha
          simp only [SX, h0, h3, str_len len9, e1, Ok_some]
          exact ⟨by simp, trivial, .inl ⟨trivial, ha⟩⟩
        · rintro ⟨x, R, W'⟩ ⟨hW, h⟩
          simp only at hW h
          subst hW
          rcases h with ⟨rfl, h⟩ | ⟨rfl, h2, h⟩
          · simp only [SX, Ok_some, h]
            exact ⟨trivial, .refl _⟩
          · simp only [SX, Ok_some, h, h2]
            exact ⟨trivial, .refl _⟩
structure Sec where
  name : List UInt8
  rows : List Int
  q : Int
structure Ven where
  sh : Int
  ttl : Int
  ses : Int
  secs : List Sec
def SecAt (W : AW) (cs : List Value) (p : Nat) (s : Sec) : Prop := cs[p]? = some (.string (bytesL s.name)) ∧ cs[p + 2]? = some (.int .i64 s.q) ∧ ∃ rv, cs[p + 1]? = some rv ∧ Ints W rv s.rows ∧ vs1 rv rv = true ∧ Eng.one rv = true
abbrev Secs (W : AW) (v : Value) (l : List Sec) : Prop := Row W 3 (SecAt W) v l
theorem Row.imp {α : Type} {W W' : AW} {z : Nat} {f g : List Value → Nat → α → Prop} {v : Value} {l : List α} (h : Row W z f v l) (hle : Le W W') (hfg : ∀ cs p a, f cs p a → g cs p a) : Row W' z g v l := by
  obtain ⟨a, c, rfl, k⟩ := h.mono hle
  refine ⟨a, c, rfl, ?_⟩
  rcases k with h | ⟨b, o, cs, h1, h2, h3, h4⟩
  · exact .inl h
  · exact .inr ⟨b, o, cs, h1, h2, h3, fun i hi => hfg _ _ _ (h4 i hi)⟩
theorem Secs.mono {W W' : AW} {v : Value} {l : List Sec} (h : Secs W v l) (hle : Le W W') : Secs W' v l :=
  Row.imp h hle fun cs p s ⟨h1, h2, rv, h3, h4, h5⟩ => ⟨h1, h2, rv, h3, h4.mono hle, h5⟩
theorem take3 {cs : List Value} {p : Nat} {a b c : Value} (h0 : cs[p]? = some a) (h1 : cs[p + 1]? = some b) (h2 : cs[p + 2]? = some c) : (cs.drop p).take 3 = [a, b, c] := by
  obtain ⟨i0, e0⟩ := List.getElem?_eq_some_iff.1 h0
  obtain ⟨i1, e1⟩ := List.getElem?_eq_some_iff.1 h1
  obtain ⟨i2, e2⟩ := List.getElem?_eq_some_iff.1 h2
  rw [List.drop_eq_getElem_cons i0, List.drop_eq_getElem_cons i1, List.drop_eq_getElem_cons i2, e0, e1, e2]
  rfl
abbrev secV (s : Sec) (rv : Value) : Value := .agg #[.string (bytesL s.name), rv, .int .i64 s.q]
theorem Secs.get {W : AW} {v : Value} {l : List Sec} (h : Secs W v l) {i : Nat} (hi : i < l.length) : ∃ b o rv, (∀ W' k, ixS 3 v (.int k (i : Int)) W' = some (.pointer (some ⟨b, o, none⟩), W')) ∧ Ints W rv l[i].rows ∧
    (∀ W', Le W W' → ldA 3 (.pointer (some ⟨b, o, none⟩)) W' = some (secV l[i] rv, W')) ∧ (∀ W', Le W W' → ldC (.pointer (some ⟨b, o, none⟩)) W' = some (.string (bytesL l[i].name), W')) ∧
    (∀ W', Le W W' → ldC (.pointer (some ⟨b, o + 1, none⟩)) W' = some (rv, W')) ∧ (∀ W', Le W W' → ldC (.pointer (some ⟨b, o + 2, none⟩)) W' = some (.int .i64 l[i].q, W')) := by
  obtain ⟨b, o, cs, h1, h2, h3, h4, h5, rv, h6, h7, -⟩ := h.elem hi
  refine ⟨b, o, rv, h1, h7, fun W' hle => ?_, fun W' hle => ldC_ok (by rw [hle.cellsAt h2]; exact h3) h4, fun W' hle => ldC_ok (by rw [hle.cellsAt h2]; exact h3) h6, fun W' hle => ldC_ok (by rw [hle.cellsAt h2]; exact h3) h5⟩
  rw [ldA_eq, hle.cellsAt h2, h3]
  simp only [Option.bind_some, take3 h4 h6 h5, List.length_cons, List.length_nil, if_true]
def secE (s : Sec) (before : List Sec) : Int :=
  if nameL s.name = false then 6 else if (before.any fun x => x.name == s.name) = true then 8 else if s.rows.length = 0 then 6 else if 16 < s.rows.length then 3 else
  if (s.rows.any fun n => outB n 1 64) = true then 7 else if outB s.q 0 64 = true then 7 else 0
def badK (l : List Sec) : Nat → Option (Nat × Int)
  | 0 => none
  | k + 1 => match badK l k with
    | some r => some r
    | none => match l[k]? with
      | some s => if secE s (l.take k) = 0 then none else some (k, secE s (l.take k))
      | none => none
theorem badK_mono {l : List Sec} {k n : Nat} {r : Nat × Int} (h : badK l k = some r) (hn : k ≤ n) : badK l n = some r := by
  induction n with
  | zero => obtain rfl : k = 0 := by omega
            exact h
  | succ n ih =>
    by_cases hk : k = n + 1
    · rw [← hk]; exact h
    · show (match badK l n with | some r => some r | none => _) = _
      rw [ih (by omega)]
def sumI (l : List Int) : Int := l.foldr (· + ·) 0
theorem sumI_app (l : List Int) (n : Int) : sumI (l ++ [n]) = sumI l + n := by
  induction l with
  | nil => simp [sumI]
  | cons a l ih => simp only [sumI, List.cons_append, List.foldr_cons] at ih ⊢; omega
def total (l : List Sec) : Int := sumI (l.map fun s => sumI s.rows)
def headBad (v : Ven) : Bool := outB v.sh 1 16 || outB v.ttl 1 1000000000 || outB v.ses 1 1000000000
def venE (v : Ven) : Int × Int :=
  if headBad v = true then (-1, 7) else if v.secs.length = 0 then (-1, 6) else if 8 < v.secs.length then (-1, 3) else
  match badK v.secs v.secs.length with
  | some (i, e) => ((i : Int), e)
  | none => if 4096 < total v.secs then (-1, 3) else (0, 0)
abbrev venV (v : Ven) (sv : Value) : Value := .agg #[.int .i64 v.sh, .int .i64 v.ttl, .int .i64 v.ses, sv]
def SecsC (W : AW) (sv : Value) (l : List Sec) : Prop := Secs W sv l ∧ (∃ a c, sv = .slice a l.length c ∧ ((l.length ≤ c ∧ c < BIG) ∨ c = BIG + 3) ∧ (l ≠ [] → ∃ b o, a = some ⟨b, o, none⟩))
theorem SecsC.mono {W W' : AW} {v : Value} {l : List Sec} (h : SecsC W v l) (hle : Le W W') : SecsC W' v l := ⟨h.1.mono hle, h.2⟩
theorem Row.take {α : Type} {W : AW} {z : Nat} {f : List Value → Nat → α → Prop} {b o c : Nat} {l : List α} (h : Row W z f (.slice (some ⟨b, o, none⟩) l.length c) l) {k : Nat} (hk : k ≤ l.length) (h0 : l ≠ []) : Row W z f (.slice (some ⟨b, o, none⟩) k c) (l.take k) := by
  obtain ⟨a, c', he, h⟩ := h
  injection he with e1 e2 e3
  subst e1 e3
  refine ⟨_, c, by rw [List.length_take, Nat.min_eq_left hk], ?_⟩
  rcases h with h | ⟨b', o', cs, h1, h2, h3, h4⟩
  · exact absurd h h0
  · refine .inr ⟨b', o', cs, h1, h2, h3, fun i hi => ?_⟩
    rw [List.getElem_take]
    exact h4 i (by rw [List.length_take] at hi; omega)
theorem sl34 : sliceZ Tryz.prog 22 = some 3 := by kernel_rfl
theorem SecsC.pre {W : AW} {sv : Value} {l : List Sec} (h : SecsC W sv l) {k : Nat} (hk : k < l.length) : ∃ u, (∀ W', oSlice Tryz.prog 22 sv none (some (.int .i64 (k : Int))) none W' = some (u, W')) ∧ Secs W u (l.take k) := by
  obtain ⟨h1, a, c, rfl, h2, h4⟩ := h
  have h0 : l ≠ [] := by intro e; rw [e] at hk; simp at hk
  obtain ⟨b, o, rfl⟩ := h4 h0
  rcases h2 with ⟨h2, h3⟩ | rfl
  · exact ⟨_, fun W' => oSlice_to sl34 (by omega) h3, Row.take h1 (by omega) h0⟩
  · exact ⟨_, fun W' => slice_open sl34 (by omega) (Nat.le_of_lt hk), Row.take h1 (by omega) h0⟩
theorem al62 (W : AW) : oAlloc Tryz.prog 63 W = some (.pointer (some ⟨W.next, 0, none⟩), W.add (.cells [.string (bytesL []), .slice none 0 0, .int .i64 0])) := Eq.trans (by kernel_rfl) rfl
def idxI {α : Type} (p : α → Bool) (l : List α) : Int := match l.findIdx? p with
  | some i => (i : Int)
  | none => -1
theorem idxI_some {α : Type} {p : α → Bool} {l : List α} {k : Nat} (hk : k < l.length) (h1 : p l[k] = true) (h2 : (l.take k).any p = false) : idxI p l = (k : Int) := by
  have : l.findIdx? p = some k := by
    rw [List.findIdx?_eq_some_iff_getElem]
    refine ⟨hk, h1, fun j hj => ?_⟩
    rw [List.any_eq_false] at h2
    exact h2 _ (by rw [List.mem_take_iff_getElem]; exact ⟨j, by omega, rfl⟩)
  unfold idxI
  rw [this]
theorem idxI_none {α : Type} {p : α → Bool} {l : List α} (h : l.any p = false) : idxI p l = -1 := by
  have : l.findIdx? p = none := by
    rw [List.findIdx?_eq_none_iff]
    intro x hx
    rw [List.any_eq_false] at h
    simpa using h x hx
  unfold idxI
  rw [this]
theorem any_take {α : Type} {p : α → Bool} {l : List α} {k : Nat} (hk : k < l.length) (h1 : p l[k] = false) (h2 : (l.take k).any p = false) : (l.take (k + 1)).any p = false := by
  rw [← List.take_append_getElem hk, List.any_append, h2]
  simpa using h1
theorem any_some {α : Type} {p : α → Bool} {l : List α} {k : Nat} (hk : k < l.length) (h1 : p l[k] = true) : l.any p = true := by
  rw [List.any_eq_true]; exact ⟨_, List.getElem_mem hk, h1⟩
theorem idxI_pos {α : Type} {p : α → Bool} {l : List α} : decide (0 ≤ idxI p l) = l.any p := by
  unfold idxI
  cases h : l.findIdx? p with
  | none =>
    rw [List.findIdx?_eq_none_iff] at h
    have : l.any p = false := by rw [List.any_eq_false]; intro x hx; simpa using h x hx
    rw [this]; rfl
  | some i =>
    rw [List.findIdx?_eq_some_iff_getElem] at h
    obtain ⟨h1, h2, h3⟩ := h
    rw [any_some h1 h2]; simp
theorem idxSec_ok {f v : Value} {p : Sec → Bool} {l : List Sec} {W : AW} (h : Secs W v l) (hl : l.length < 1000) (hp : ∀ s rv, omS f [secV s rv] W = some (.bool (p s), W)) : omS (.func (.func 126) #[] #[]) [v, f] W = some (.int .i64 (idxI p l), W) := by
  refine om_drop rfl ?_ slices_IndexFuncapi_VnSectionapi_VnSection_om
  unfold slices_IndexFuncapi_VnSectionapi_VnSection
  simp only [SX, h.len lenS]
  refine Ok_loop l.length (by omega) (fun k R W' => W' = W ∧ R 0 = v ∧ R 1 = f ∧ R 7 = .int .i64 (l.length : Int) ∧ R 8 = .int .i64 (k : Int) ∧ (l.take k).any p = false)
    (fun r => r.2.2 = W ∧ ((r.1 = .exit 0 ∧ idxI p l = -1) ∨ (r.1 = .ret ∧ r.2.1 4 = .int .i64 (idxI p l)))) ⟨rfl, rfl, rfl, rfl, rfl, rfl⟩ ?_ ?_ ?_
  · rintro k R W' hk ⟨rfl, h0, h1, h7, h8, ha⟩
    unfold slices_IndexFuncapi_VnSectionapi_VnSection_L1
    obtain ⟨b, o, rv, g1, g2, g3, _⟩ := h.get hk
    have e1 : ((k : Int) < (l.length : Int)) := by omega
    have e2 : (k : Int) + 1 = ((k + 1 : Nat) : Int) := by omega
    have ea := oBinAddT W' k 1
    simp only [SX, h0, h1, h7, h8, e1, g1, g3 _ (.refl _), hp]
    cases hx : p l[k]
    · simp only [SX, ea, Ok_some]
      exact .inl ⟨trivial, trivial, h0, h1, h7, by rw [← e2]; rfl, any_take hk hx ha⟩
    · simp only [SX, Ok_some]
      exact .inr ⟨by simp, trivial, .inr ⟨trivial, by rw [idxI_some hk hx ha]; rfl⟩⟩
  · rintro R W' ⟨rfl, h0, h1, h7, h8, ha⟩
    unfold slices_IndexFuncapi_VnSectionapi_VnSection_L1
    have e1 : ¬ ((l.length : Int) < (l.length : Int)) := by omega
    rw [List.take_length] at ha
    simp only [SX, h7, h8, e1, Ok_some]
    exact ⟨by simp, trivial, .inl ⟨trivial, idxI_none ha⟩⟩
  · rintro ⟨x, R, W'⟩ ⟨hW, hq⟩
    simp only at hW hq
    subst hW
    rcases hq with ⟨rfl, hq⟩ | ⟨rfl, h4⟩
    · simp only [SX, Ok_some, hq]
      exact ⟨trivial, .refl _⟩
    · simp only [SX, Ok_some, h4]
      exact ⟨trivial, .refl _⟩
theorem idxInt_ok {f v : Value} {p : Int → Bool} {l : List Int} {W : AW} (h : Ints W v l) (hl : l.length < 1000) (hp : ∀ n ∈ l, omS f [.int .i64 n] W = some (.bool (p n), W)) : omS (.func (.func 61) #[] #[]) [v, f] W = some (.int .i64 (idxI p l), W) := by
  refine om_drop rfl ?_ slices_IndexFuncintint_om
  unfold slices_IndexFuncintint
  simp only [SX, h.len lenI]
  refine Ok_loop l.length (by omega) (fun k R W' => W' = W ∧ R 0 = v ∧ R 1 = f ∧ R 7 = .int .i64 (l.length : Int) ∧ R 8 = .int .i64 (k : Int) ∧ (l.take k).any p = false)
    (fun r => r.2.2 = W ∧ ((r.1 = .exit 0 ∧ idxI p l = -1) ∨ (r.1 = .ret ∧ r.2.1 4 = .int .i64 (idxI p l)))) ⟨rfl, rfl, rfl, rfl, rfl, rfl⟩ ?_ ?_ ?_
  · rintro k R W' hk ⟨rfl, h0, h1, h7, h8, ha⟩
    unfold slices_IndexFuncintint_L1
    obtain ⟨q, g1, g2⟩ := h.get hk
    have e1 : ((k : Int) < (l.length : Int)) := by omega
    have e2 : (k : Int) + 1 = ((k + 1 : Nat) : Int) := by omega
    have ea := oBinAddT W' k 1
    simp only [SX, h0, h1, h7, h8, e1, g1, g2 _ (.refl _), hp _ (List.getElem_mem hk)]
    cases hx : p l[k]
    · simp only [SX, ea, Ok_some]
      exact .inl ⟨trivial, trivial, h0, h1, h7, by rw [← e2]; rfl, any_take hk hx ha⟩
    · simp only [SX, Ok_some]
      exact .inr ⟨by simp, trivial, .inr ⟨trivial, by rw [idxI_some hk hx ha]; rfl⟩⟩
  · rintro R W' ⟨rfl, h0, h1, h7, h8, ha⟩
    unfold slices_IndexFuncintint_L1
    have e1 : ¬ ((l.length : Int) < (l.length : Int)) := by omega
    rw [List.take_length] at ha
    simp only [SX, h7, h8, e1, Ok_some]
    exact ⟨by simp, trivial, .inl ⟨trivial, idxI_none ha⟩⟩
  · rintro ⟨x, R, W'⟩ ⟨hW, hq⟩
    simp only at hW hq
    subst hW
    rcases hq with ⟨rfl, hq⟩ | ⟨rfl, h4⟩
    · simp only [SX, Ok_some, hq]
      exact ⟨trivial, .refl _⟩
    · simp only [SX, Ok_some, h4]
      exact ⟨trivial, .refl _⟩
theorem hasSec_ok {f v : Value} {p : Sec → Bool} {l : List Sec} {W : AW} (h : Secs W v l) (hl : l.length < 1000) (hp : ∀ s rv, omS f [secV s rv] W = some (.bool (p s), W)) : omS (.func (.func 83) #[] #[]) [v, f] W = some (.bool (l.any p), W) := by
  refine om_drop rfl ?_ slices_ContainsFuncapi_VnSectionapi_VnSection_om
  unfold slices_ContainsFuncapi_VnSectionapi_VnSection
  simp only [SX, idxSec_ok h hl hp, idxI_pos, Ok_some]
  exact ⟨trivial, .refl _⟩
theorem hasInt_ok {f v : Value} {p : Int → Bool} {l : List Int} {W : AW} (h : Ints W v l) (hl : l.length < 1000) (hp : ∀ n ∈ l, omS f [.int .i64 n] W = some (.bool (p n), W)) : omS (.func (.func 31) #[] #[]) [v, f] W = some (.bool (l.any p), W) := by
  refine om_drop rfl ?_ slices_ContainsFuncintint_om
  unfold slices_ContainsFuncintint
  simp only [SX, idxInt_ok h hl hp, idxI_pos, Ok_some]
  exact ⟨trivial, .refl _⟩
theorem outRow_ok (n : Int) (W : AW) : omS (.func (.func 85) #[] #[]) [.int .i64 n] W = some (.bool (outB n 1 64), W) := by
  refine om_drop rfl ?_ venue_check_2_om
  unfold venue_check_2
  simp only [SX, outsideint_ok, Ok_some]
  exact ⟨trivial, .refl _⟩
theorem oBox3 (a b c : Value) (W : AW) : oBox (.agg #[a, b, c]) W = some (.pointer (some ⟨W.next, 0, none⟩), W.add (.cells [a, b, c])) := oBox_agg _
theorem sameName_ok {c : Nat} {m : List UInt8} {W : AW} (hc : ∀ W', Le W W' → ldC (.pointer (some ⟨c, 0, none⟩)) W' = some (.string (bytesL m), W')) (s : Sec) (rv : Value) :
    omS (.func (.func 84) #[] #[.pointer (some ⟨c, 0, none⟩)]) [secV s rv] W = some (.bool (s.name == m), W) := by
  refine om_drop rfl ?_ venue_check_1_om
  unfold venue_check_1
  have h0 := hc _ ((Le.refl W).add (.cells [.string (bytesL s.name), rv, .int .i64 s.q]))
  have h1 : ldC (.pointer (some ⟨W.next, 0, none⟩)) (W.add (.cells [.string (bytesL s.name), rv, .int .i64 s.q])) = some (.string (bytesL s.name), W.add (.cells [.string (bytesL s.name), rv, .int .i64 s.q])) := ldC_ok cellsAt_new rfl
  simp only [SX, h0, h1, Nat.zero_add, str_eql, Ok_some]
  exact ⟨trivial, (Le.refl _).add _⟩
theorem check_ok' {s : Sec} {rv bv : Value} {before : List Sec} {W : AW} (hs : Ints W rv s.rows) (hb : Secs W bv before) (hl : before.length < 1000) : omS (.func (.func 57) #[] #[]) [secV s rv, bv] W = some (.int .i64 (secE s before), W) := by
  refine om_drop rfl ?_ venue_check_om
  unfold venue_check
  have hle : Le W (W.add (.cells [.string (bytesL s.name), rv, .int .i64 s.q])) := (Le.refl W).add _
  simp only [SX, Nat.zero_add]
  generalize hW1 : W.add (.cells [.string (bytesL s.name), rv, .int .i64 s.q]) = W1 at *
  have hcs : cellsAt W1 W.next = some [.string (bytesL s.name), rv, .int .i64 s.q] := by rw [← hW1]; exact cellsAt_new
  have hn : W.next < W1.next := by rw [← hW1, AW.add_next]; omega
  have h0 : ∀ W', Le W1 W' → ldC (.pointer (some ⟨W.next, 0, none⟩)) W' = some (.string (bytesL s.name), W') := fun W' k => ldC_ok (by rw [k.cellsAt hn]; exact hcs) rfl
  have h1 : ldC (.pointer (some ⟨W.next, 1, none⟩)) W1 = some (rv, W1) := ldC_ok hcs rfl
  have h2 : ldC (.pointer (some ⟨W.next, 2, none⟩)) W1 = some (.int .i64 s.q, W1) := ldC_ok hcs rfl
  have hf := hasSec_ok (W := W1) (hb.mono hle) hl (p := fun x => x.name == s.name) (fun x rv => sameName_ok h0 x rv)
  unfold secE
  cases n1 : nameL s.name
  · simp only [SX, h0 _ (.refl _), name_ok, n1, if_true, Ok_some]
    exact ⟨trivial, hle⟩
  · cases n2 : before.any fun x => x.name == s.name
    · by_cases n3 : s.rows.length = 0
      · have e : ((s.rows.length : Int) = 0) := by omega
        simp only [SX, h0 _ (.refl _), name_ok, n1, hf, n2, h1, (hs.mono hle).len lenI, e, if_pos n3, if_false, Bool.true_eq_false, Bool.false_eq_true, Ok_some]
        exact ⟨trivial, hle⟩
      · have e : ¬ ((s.rows.length : Int) = 0) := by omega
        by_cases n4 : 16 < s.rows.length
        · have e2 : ((16 : Int) < (s.rows.length : Int)) := by omega
          simp only [SX, h0 _ (.refl _), name_ok, n1, hf, n2, h1, (hs.mono hle).len lenI, e, n3, e2, n4, if_true, if_false, Bool.true_eq_false, Bool.false_eq_true, Ok_some]
          exact ⟨trivial, hle⟩
        · have e2 : ¬ ((16 : Int) < (s.rows.length : Int)) := by omega
          have hg := hasInt_ok (W := W1) (hs.mono hle) (by omega) (p := fun n => outB n 1 64) (fun n _ => outRow_ok n W1)
          cases n5 : s.rows.any fun n => outB n 1 64
          · cases n6 : outB s.q 0 64
            · simp only [SX, h0 _ (.refl _), name_ok, n1, hf, n2, h1, (hs.mono hle).len lenI, e, n3, e2, n4, hg, n5, h2, outsideint_ok, n6, if_false, Bool.true_eq_false, Bool.false_eq_true, Ok_some]
              exact ⟨trivial, hle⟩
            · simp only [SX, h0 _ (.refl _), name_ok, n1, hf, n2, h1, (hs.mono hle).len lenI, e, n3, e2, n4, hg, n5, h2, outsideint_ok, n6, if_true, if_false, Bool.true_eq_false, Bool.false_eq_true, Ok_some]
              exact ⟨trivial, hle⟩
          · simp only [SX, h0 _ (.refl _), name_ok, n1, hf, n2, h1, (hs.mono hle).len lenI, e, n3, e2, n4, hg, n5, if_true, if_false, Bool.true_eq_false, Bool.false_eq_true, Ok_some]
            exact ⟨trivial, hle⟩
    · simp only [SX, h0 _ (.refl _), name_ok, n1, hf, n2, if_true, if_false, Bool.true_eq_false, Ok_some]
      exact ⟨trivial, hle⟩
theorem oBox4 (a b c d : Value) (W : AW) : oBox (.agg #[a, b, c, d]) W = some (.pointer (some ⟨W.next, 0, none⟩), W.add (.cells [a, b, c, d])) := oBox_agg _
theorem put_add_cells (W : AW) (cs ds : List Value) : (W.add (.cells cs)).put W.next (.cells ds) = W.add (.cells ds) := add_put W _ _
theorem stV3 {b : Nat} {a c d x y z : Value} {W : AW} (h : rwCells W b = some [x, y, z]) (h1 : Eng.one a = true) (h2 : Eng.one c = true) (h3 : Eng.one d = true) : stV 3 (.pointer (some ⟨b, 0, none⟩)) (.agg #[a, c, d]) W = some (undef, W.put b (.cells [a, c, d])) := by
  rw [stV_agg, h]
  have e : (#[a, c, d] : Array Value).toList.all Eng.one = true := by simp [h1, h2, h3]
  simp only [Option.bind_some, e, and_true]
  rfl
theorem Row.one {α : Type} {W : AW} {z : Nat} {f : List Value → Nat → α → Prop} {v : Value} {l : List α} (h : Row W z f v l) : Eng.one v = true := by
  obtain ⟨a, c, rfl, _⟩ := h; rfl
theorem section_ok {v : Ven} {sv : Value} {W : AW} (hs : Secs W sv v.secs) (hv : v.secs.length < 1000) {i : Nat} (hi : i < v.secs.length) (hr : v.secs[i].rows.length < 1000) : omS (.func (.func 59) #[] #[]) [venV v sv, .int .i64 (i : Int)] W = some (.int .i64 (secE v.secs[i] (v.secs.take i)), W) := by
  refine om_drop rfl ?_ ref15_section_om
  unfold ref15_section
  have hle : Le W (W.add (.cells [.int .i64 v.sh, .int .i64 v.ttl, .int .i64 v.ses, sv])) := (Le.refl W).add _
  obtain ⟨b, o, rv, g1, g2, g3, _⟩ := hs.get hi
  have c3 : ldC (.pointer (some ⟨W.next, 3, none⟩)) (W.add (.cells [.int .i64 v.sh, .int .i64 v.ttl, .int .i64 v.ses, sv])) = some (sv, W.add (.cells [.int .i64 v.sh, .int .i64 v.ttl, .int .i64 v.ses, sv])) := ldC_ok cellsAt_new rfl
  simp only [SX, Nat.zero_add, c3, g1, g3 _ hle, al62, stV3 rwCells_new (one_string _) (Row.one g2) (one_int _ _), put_add_cells]
  generalize hW1 : W.add (.cells [.int .i64 v.sh, .int .i64 v.ttl, .int .i64 v.ses, sv]) = W1 at *
  have hle2 : Le W (W1.add (.cells [.string (bytesL v.secs[i].name), rv, .int .i64 v.secs[i].q])) := hle.add _
  have hb1 : cellsAt (W1.add (.cells [.string (bytesL v.secs[i].name), rv, .int .i64 v.secs[i].q])) W.next = some [.int .i64 v.sh, .int .i64 v.ttl, .int .i64 v.ses, sv] := by
    rw [cellsAt_add _ (by rw [← hW1, AW.add_next]; omega), ← hW1]; exact cellsAt_new
  have hb2 : cellsAt (W1.add (.cells [.string (bytesL v.secs[i].name), rv, .int .i64 v.secs[i].q])) W1.next = some [.string (bytesL v.secs[i].name), rv, .int .i64 v.secs[i].q] := cellsAt_new
  generalize hW2 : W1.add (.cells [.string (bytesL v.secs[i].name), rv, .int .i64 v.secs[i].q]) = W2 at *
  have d0 : ldC (.pointer (some ⟨W1.next, 0, none⟩)) W2 = some (.string (bytesL v.secs[i].name), W2) := ldC_ok hb2 rfl
  have d1 : ldC (.pointer (some ⟨W1.next, 1, none⟩)) W2 = some (rv, W2) := ldC_ok hb2 rfl
  have d2 : ldC (.pointer (some ⟨W1.next, 2, none⟩)) W2 = some (.int .i64 v.secs[i].q, W2) := ldC_ok hb2 rfl
  have c3 : ldC (.pointer (some ⟨W.next, 3, none⟩)) W2 = some (sv, W2) := ldC_ok hb1 rfl
  have hlr := (g2.mono hle2).len (P := Tryz.prog) lenI
  simp only [SX, d0, refName_ok]
  generalize hs' : v.secs[i] = s at *
  unfold secE
  cases n1 : nameL s.name
  · simp only [SX, if_true, Ok_some]
    exact ⟨trivial, hle2⟩
  · simp only [SX]
    refine Ok_loop i (by omega) (fun k R W' => W' = W2 ∧ R 1 = .int .i64 (i : Int) ∧ R 2 = .pointer (some ⟨W.next, 0, none⟩) ∧ R 5 = .pointer (some ⟨W1.next, 0, none⟩) ∧ R 6 = .int .i64 (k : Int) ∧ ((v.secs.take i).take k).any (fun x => x.name == s.name) = false)
      (fun r => r.2.2 = W2 ∧ ((r.1 = .exit 0 ∧ r.2.1 5 = .pointer (some ⟨W1.next, 0, none⟩) ∧ (v.secs.take i).any (fun x => x.name == s.name) = false) ∨ (r.1 = .ret ∧ r.2.1 4 = .int .i64 8 ∧ (v.secs.take i).any (fun x => x.name == s.name) = true))) ⟨rfl, rfl, rfl, rfl, rfl, rfl⟩ ?_ ?_ ?_
    · rintro k R W' hk ⟨rfl, h1, h2, h5, h6, ha⟩
      unfold ref15_section_L1
      have hk2 : k < v.secs.length := by omega
      have hk3 : k < (v.secs.take i).length := by rw [List.length_take]; omega
      have hke : (v.secs.take i)[k] = v.secs[k] := List.getElem_take
      obtain ⟨b', o', rv', f1, f2, f3, f4, _⟩ := hs.get hk2
      have e1 : ((k : Int) < (i : Int)) := by omega
      have e2 : (k : Int) + 1 = ((k + 1 : Nat) : Int) := by omega
      have ea := oBinAddT W' k 1
      simp only [SX, h1, h2, h5, h6, e1, Nat.zero_add, c3, f1, Nat.add_zero, f4 _ hle2, d0, str_eql]
      cases hx : v.secs[k].name == s.name
      · simp only [SX, ea, Ok_some]
        exact .inl ⟨trivial, trivial, h1, h2, h5, by rw [← e2]; rfl, any_take hk3 (by rw [hke]; exact hx) ha⟩
      · simp only [SX, Ok_some]
        exact .inr ⟨by simp, trivial, .inr ⟨trivial, rfl, any_some hk3 (by rw [hke]; exact hx)⟩⟩
    · rintro R W' ⟨rfl, h1, h2, h5, h6, ha⟩
      unfold ref15_section_L1
      have e1 : ¬ ((i : Int) < (i : Int)) := by omega
      rw [List.take_of_length_le (by rw [List.length_take]; omega)] at ha
      simp only [SX, h1, h6, e1, Ok_some]
      exact ⟨by simp, trivial, .inl ⟨trivial, h5, ha⟩⟩
    · rintro ⟨x, R, W'⟩ ⟨hW, hq⟩
      simp only at hW hq
      subst hW
      rcases hq with ⟨rfl, h5, hq⟩ | ⟨rfl, h4, hq⟩
      · by_cases n3 : s.rows.length = 0
        · have e : ((s.rows.length : Int) = 0) := by omega
          simp only [SX, h5, Nat.zero_add, d1, hlr, e, hq, if_pos n3, if_false, Bool.true_eq_false, Bool.false_eq_true, Ok_some]
          exact ⟨trivial, hle2⟩
        · have e : ¬ ((s.rows.length : Int) = 0) := by omega
          by_cases n4 : 16 < s.rows.length
          · have e2 : ((16 : Int) < (s.rows.length : Int)) := by omega
            simp only [SX, h5, Nat.zero_add, d1, hlr, e, e2, hq, if_neg n3, if_pos n4, if_false, Bool.true_eq_false, Bool.false_eq_true, Ok_some]
            exact ⟨trivial, hle2⟩
          · have e2 : ¬ ((16 : Int) < (s.rows.length : Int)) := by omega
            simp only [SX, h5, Nat.zero_add, d1, hlr, e, e2, hq, if_neg n3, if_neg n4, if_false, Bool.true_eq_false, Bool.false_eq_true]
            refine Ok_loop s.rows.length (by omega) (fun k R W3 => W3 = W' ∧ R 5 = .pointer (some ⟨W1.next, 0, none⟩) ∧ R 7 = .int .i64 (k : Int) ∧ (s.rows.take k).any (fun n => outB n 1 64) = false)
              (fun r => r.2.2 = W' ∧ ((r.1 = .exit 2 ∧ r.2.1 5 = .pointer (some ⟨W1.next, 0, none⟩) ∧ s.rows.any (fun n => outB n 1 64) = false) ∨ (r.1 = .ret ∧ r.2.1 4 = .int .i64 7 ∧ s.rows.any (fun n => outB n 1 64) = true))) ⟨rfl, h5, rfl, rfl⟩ ?_ ?_ ?_
            · rintro k R W3 hk ⟨rfl, h5, h7, ha⟩
              unfold ref15_section_L2
              obtain ⟨p, p1, p2⟩ := g2.get hk
              have e1 : ((k : Int) < (s.rows.length : Int)) := by omega
              have e2 : (k : Int) + 1 = ((k + 1 : Nat) : Int) := by omega
              have ea := oBinAddT W3 k 1
              simp only [SX, h5, h7, Nat.zero_add, d1, hlr, e1, p1, p2 _ hle2, within_ok, inB_not]
              cases hx : outB s.rows[k] 1 64
              · simp only [SX, ea, Ok_some]
                exact .inl ⟨trivial, trivial, h5, by rw [← e2]; rfl, any_take hk hx ha⟩
              · simp only [SX, Ok_some]
                exact .inr ⟨by simp, trivial, .inr ⟨trivial, rfl, any_some hk hx⟩⟩
            · rintro R W3 ⟨rfl, h5, h7, ha⟩
              unfold ref15_section_L2
              have e1 : ¬ ((s.rows.length : Int) < (s.rows.length : Int)) := by omega
              rw [List.take_length] at ha
              simp only [SX, h5, h7, Nat.zero_add, d1, hlr, e1, Ok_some]
              exact ⟨by simp, trivial, .inl ⟨trivial, h5, ha⟩⟩
            · rintro ⟨x, R, W3⟩ ⟨hW, hq⟩
              simp only at hW hq
              subst hW
              rcases hq with ⟨rfl, h5, hq⟩ | ⟨rfl, h4, hq⟩
              · simp only [SX, h5, hq, Nat.zero_add, d2, within_ok, inB_not, Bool.false_eq_true, if_false]
                cases n6 : outB s.q 0 64
                · simp only [SX, Bool.false_eq_true, if_false, Ok_some]
                  exact ⟨trivial, hle2⟩
                · simp only [SX, if_true, Ok_some]
                  exact ⟨trivial, hle2⟩
              · simp only [SX, hq, h4, if_true, Ok_some]
                exact ⟨trivial, hle2⟩
      · simp only [SX, h4, hq, if_true, if_false, Bool.true_eq_false, Ok_some]
        exact ⟨trivial, hle2⟩
theorem secE_zero {s : Sec} {b : List Sec} (h : secE s b = 0) : nameL s.name = true ∧ (b.any fun x => x.name == s.name) = false ∧ s.rows.length ≠ 0 ∧ s.rows.length ≤ 16 ∧ (∀ n ∈ s.rows, 1 ≤ n ∧ n ≤ 64) ∧ 0 ≤ s.q ∧ s.q ≤ 64 := by
  unfold secE at h
  split at h
  · exact absurd h (by decide)
  rename_i h1
  split at h
  · exact absurd h (by decide)
  rename_i h2
  split at h
  · exact absurd h (by decide)
  rename_i h3
  split at h
  · exact absurd h (by decide)
  rename_i h4
  split at h
  · exact absurd h (by decide)
  rename_i h5
  split at h
  · exact absurd h (by decide)
  rename_i h6
  refine ⟨by simpa using h1, by simpa using h2, h3, by omega, ?_, ?_⟩
  · intro n hn
    have : outB n 1 64 = false := by
      cases ho : outB n 1 64
      · rfl
      · exact absurd (List.any_eq_true.2 ⟨n, hn, ho⟩) h5
    unfold outB at this
    simp only [Bool.or_eq_false_iff, decide_eq_false_iff_not] at this
    omega
  · unfold outB at h6
    simp only [Bool.or_eq_true, decide_eq_true_iff] at h6
    omega
theorem sumI_take {l : List Int} {k : Nat} (hk : k < l.length) : sumI (l.take (k + 1)) = sumI (l.take k) + l[k] := by
  rw [← List.take_append_getElem hk, sumI_app]
theorem total_take {l : List Sec} {k : Nat} (hk : k < l.length) : total (l.take (k + 1)) = total (l.take k) + sumI l[k].rows := by
  unfold total
  rw [List.map_take, List.map_take, sumI_take (by rw [List.length_map]; exact hk), List.getElem_map]
theorem sumI_bound {l : List Int} (h : ∀ n ∈ l, 1 ≤ n ∧ n ≤ 64) (k : Nat) : (0 ≤ sumI (l.take k) ∧ sumI (l.take k) ≤ 64 * k) ∧ (min k l.length : Int) ≤ sumI (l.take k) := by
  induction k with
  | zero => simp [sumI]; omega
  | succ k ih =>
    by_cases hk : k < l.length
    · rw [sumI_take hk]
      have := h _ (List.getElem_mem hk)
      omega
    · rw [List.take_of_length_le (by omega)] at ih ⊢
      omega
theorem badK_step {l : List Sec} {k : Nat} (h : badK l k = none) (hk : k < l.length) : badK l (k + 1) = if secE l[k] (l.take k) = 0 then none else some (k, secE l[k] (l.take k)) := by
  show (match badK l k with | some r => some r | none => match l[k]? with | some s => if secE s (l.take k) = 0 then none else some (k, secE s (l.take k)) | none => none) = _
  rw [h, List.getElem?_eq_getElem hk]
theorem badK_none {l : List Sec} {k : Nat} (h : badK l k = none) : ∀ i (hi : i < k) (hl : i < l.length), secE l[i] (l.take i) = 0 := by
  induction k with
  | zero => intro i hi; omega
  | succ k ih =>
    have h1 : badK l k = none := by
      cases hb : badK l k with
      | none => rfl
      | some r => rw [badK_mono hb (Nat.le_succ k)] at h; cases h
    intro i hi hl
    by_cases e : i = k
    · subst e
      rw [badK_step h1 hl] at h
      split at h
      · assumption
      · cases h
    · exact ih h1 i (by omega) hl
theorem total_bound {l : List Sec} {k : Nat} (h : badK l k = none) (hk : k ≤ l.length) : 0 ≤ total (l.take k) ∧ total (l.take k) ≤ 1024 * k := by
  induction k with
  | zero => simp [total, sumI]
  | succ k ih =>
    have h1 : badK l k = none := by
      cases hb : badK l k with
      | none => rfl
      | some r => rw [badK_mono hb (Nat.le_succ k)] at h; cases h
    have h2 := ih h1 (by omega)
    have hk' : k < l.length := by omega
    obtain ⟨_, _, _, h3, h4, _⟩ := secE_zero (badK_none h k (by omega) hk')
    rw [total_take hk']
    have h5 := (sumI_bound h4 l[k].rows.length).1
    rw [List.take_length] at h5
    omega
theorem venCheck_ok {v : Ven} {sv : Value} {W : AW} (hs : SecsC W sv v.secs) (hv : v.secs.length < 1000) : omS (.func (.func 27) #[] #[]) [venV v sv] W = some (.tuple #[.int .i64 (venE v).1, .int .i64 (venE v).2], W) := by
  refine om_drop rfl ?_ venue_Check_om
  unfold venue_Check
  have hle : Le W (W.add (.cells [.int .i64 v.sh, .int .i64 v.ttl, .int .i64 v.ses, sv])) := (Le.refl W).add _
  have hc : cellsAt (W.add (.cells [.int .i64 v.sh, .int .i64 v.ttl, .int .i64 v.ses, sv])) W.next = some [.int .i64 v.sh, .int .i64 v.ttl, .int .i64 v.ses, sv] := cellsAt_new
  have hn : W.next < (W.add (.cells [.int .i64 v.sh, .int .i64 v.ttl, .int .i64 v.ses, sv])).next := by rw [AW.add_next]; omega
  simp only [SX, Nat.zero_add]
  generalize hW1 : W.add (.cells [.int .i64 v.sh, .int .i64 v.ttl, .int .i64 v.ses, sv]) = W1 at *
  have c0 : ldC (.pointer (some ⟨W.next, 0, none⟩)) W1 = some (.int .i64 v.sh, W1) := ldC_ok hc rfl
  have c1 : ldC (.pointer (some ⟨W.next, 1, none⟩)) W1 = some (.int .i64 v.ttl, W1) := ldC_ok hc rfl
  have c2 : ldC (.pointer (some ⟨W.next, 2, none⟩)) W1 = some (.int .i64 v.ses, W1) := ldC_ok hc rfl
  have c3 : ∀ W', Le W1 W' → ldC (.pointer (some ⟨W.next, 3, none⟩)) W' = some (sv, W') := fun W' k => ldC_ok (by rw [k.cellsAt hn]; exact hc) rfl
  simp only [SX, c0, outsideint_ok]
  unfold venE headBad
  cases n1 : outB v.sh 1 16
  case true => simp only [SX, Bool.true_or, if_true, Ok_some]; exact ⟨trivial, hle⟩
  simp only [SX, c1, outsideint64_ok]
  cases n2 : outB v.ttl 1 1000000000
  case true => simp only [SX, Bool.true_or, Bool.or_true, if_true, Ok_some]; exact ⟨trivial, hle⟩
  simp only [SX, c2, outsideint64_ok]
  cases n3 : outB v.ses 1 1000000000
  case true => simp only [SX, Bool.or_true, if_true, Ok_some]; exact ⟨trivial, hle⟩
  simp only [SX, c3 _ (.refl _), hs.1.len lenS, Bool.or_self, Bool.false_eq_true, if_false]
  by_cases n4 : v.secs.length = 0
  case pos =>
    have e : ((v.secs.length : Int) = 0) := by omega
    simp only [SX, e, if_pos n4, Ok_some]; exact ⟨trivial, hle⟩
  have e4 : ¬ ((v.secs.length : Int) = 0) := by omega
  simp only [SX, e4, if_neg n4]
  by_cases n5 : 8 < v.secs.length
  case pos =>
    have e : ((8 : Int) < (v.secs.length : Int)) := by omega
    simp only [SX, e, if_pos n5, Ok_some]; exact ⟨trivial, hle⟩
  have e5 : ¬ ((8 : Int) < (v.secs.length : Int)) := by omega
  simp only [SX, e5, if_neg n5]
  refine Ok_loop v.secs.length (by omega) (fun k R W' => Le W1 W' ∧ R 1 = .pointer (some ⟨W.next, 0, none⟩) ∧ R 4 = .int .i64 (total (v.secs.take k)) ∧ R 35 = sv ∧ R 36 = .int .i64 (v.secs.length : Int) ∧ R 37 = .int .i64 (k : Int) ∧ badK v.secs k = none)
    (fun r => Le W1 r.2.2 ∧ ((r.1 = .exit 1 ∧ r.2.1 4 = .int .i64 (total v.secs) ∧ badK v.secs v.secs.length = none) ∨ (r.1 = .ret ∧ ∃ i e, r.2.1 2 = .int .i64 ((i : Nat) : Int) ∧ r.2.1 3 = .int .i64 e ∧ badK v.secs v.secs.length = some (i, e)))) ⟨.refl _, rfl, rfl, rfl, rfl, rfl, rfl⟩ ?_ ?_ ?_
  · rintro k R W' hk ⟨hl, h1, h4, h35, h36, h37, hb⟩
    unfold venue_Check_L1
    obtain ⟨b, o, rv, g1, g2, g3, _⟩ := hs.1.get hk
    obtain ⟨u, u1, u2⟩ := hs.pre hk
    have e1 : ((k : Int) < (v.secs.length : Int)) := by omega
    simp only [SX, h35, h36, h37, e1, g1, g3 _ (hle.trans hl), al62, stV3 rwCells_new (one_string _) (Row.one g2) (one_int _ _), put_add_cells]
    have hl2 : Le W1 (W'.add (.cells [.string (bytesL v.secs[k].name), rv, .int .i64 v.secs[k].q])) := hl.add _
    have hc2 : cellsAt (W'.add (.cells [.string (bytesL v.secs[k].name), rv, .int .i64 v.secs[k].q])) W'.next = some [.string (bytesL v.secs[k].name), rv, .int .i64 v.secs[k].q] := cellsAt_new
    generalize hW2 : W'.add (.cells [.string (bytesL v.secs[k].name), rv, .int .i64 v.secs[k].q]) = W2 at *
    have d3 : ldA 3 (.pointer (some ⟨W'.next, 0, none⟩)) W2 = some (secV v.secs[k] rv, W2) := ldA_all hc2 rfl
    have d1 : ldC (.pointer (some ⟨W'.next, 1, none⟩)) W2 = some (rv, W2) := ldC_ok hc2 rfl
    have hlr := (g2.mono (hle.trans hl2)).len (P := Tryz.prog) lenI
    simp only [SX, d3, h1, Nat.zero_add, c3 _ hl2, u1, check_ok' (g2.mono (hle.trans hl2)) (u2.mono (hle.trans hl2)) (by rw [List.length_take]; omega)]
    have hbs := badK_step hb hk
    by_cases hz : secE v.secs[k] (v.secs.take k) = 0
    · rw [if_pos hz] at hbs
      obtain ⟨_, _, _, hr1, hr2, _⟩ := secE_zero hz
      have htb := total_bound hb (by omega)
      simp only [SX, hz, d1, hlr]
      refine Ok_loop v.secs[k].rows.length (by omega) (fun j R' W3 => W3 = W2 ∧ R' 1 = .pointer (some ⟨W.next, 0, none⟩) ∧ R' 4 = .int .i64 (total (v.secs.take k) + sumI (v.secs[k].rows.take j)) ∧ R' 35 = sv ∧ R' 36 = .int .i64 (v.secs.length : Int) ∧ R' 37 = .int .i64 (k : Int) ∧ R' 53 = rv ∧ R' 54 = .int .i64 (v.secs[k].rows.length : Int) ∧ R' 55 = .int .i64 (j : Int))
        (fun r => r.2.2 = W2 ∧ r.1 = .exit 3 ∧ r.2.1 1 = .pointer (some ⟨W.next, 0, none⟩) ∧ r.2.1 4 = .int .i64 (total (v.secs.take (k + 1))) ∧ r.2.1 35 = sv ∧ r.2.1 36 = .int .i64 (v.secs.length : Int) ∧ r.2.1 37 = .int .i64 (k : Int)) ⟨rfl, h1, by rw [List.take_zero, show sumI [] = 0 from rfl, Int.add_zero]; exact h4, h35, h36, h37, rfl, rfl, rfl⟩ ?_ ?_ ?_
      · rintro j R' W3 hj ⟨rfl, h1, h4, h35, h36, h37, h53, h54, h55⟩
        unfold venue_Check_L1_L2
        obtain ⟨p, p1, p2⟩ := g2.get hj
        have e1 : ((j : Int) < (v.secs[k].rows.length : Int)) := by omega
        have e2 : (j : Int) + 1 = ((j + 1 : Nat) : Int) := by omega
        have ea := oBinAddT W3 j 1
        have hsb := (sumI_bound hr2 j).1
        have hsn := hr2 _ (List.getElem_mem hj)
        have eb := oBinAddF W3 (total (v.secs.take k) + sumI (v.secs[k].rows.take j)) (v.secs[k].rows[j])
        simp only [SX, h4, h53, h54, h55, e1, p1, p2 _ (hle.trans hl2), ea, eb, Ok_some]
        refine .inl ⟨trivial, trivial, h1, ?_, h35, h36, h37, h53, h54, by rw [← e2]; rfl⟩
        rw [sumI_take hj, ← Int.add_assoc]; rfl
      · rintro R' W3 ⟨rfl, h1, h4, h35, h36, h37, h53, h54, h55⟩
        unfold venue_Check_L1_L2
        have e1 : ¬ ((v.secs[k].rows.length : Int) < (v.secs[k].rows.length : Int)) := by omega
        simp only [SX, h54, h55, e1, Ok_some]
        refine ⟨by simp, trivial, trivial, h1, ?_, h35, h36, h37⟩
        rw [total_take hk]
        rw [List.take_length] at h4
        exact h4
      · rintro ⟨x, R', W3⟩ ⟨hW, rfl, h1, h4, h35, h36, h37⟩
        simp only at hW h1 h4 h35 h36 h37
        subst hW
        have e2 : (k : Int) + 1 = ((k + 1 : Nat) : Int) := by omega
        have ea := oBinAddT W3 k 1
        simp only [SX, h37, ea, Ok_some]
        exact .inl ⟨trivial, hl2, h1, h4, h35, h36, by rw [← e2]; rfl, hbs⟩
    · rw [if_neg hz] at hbs
      simp only [SX, hz, Ok_some]
      exact .inr ⟨by simp, hl2, .inr ⟨trivial, k, _, rfl, rfl, badK_mono hbs (by omega)⟩⟩
  · rintro R W' ⟨hl, h1, h4, h35, h36, h37, hb⟩
    unfold venue_Check_L1
    have e1 : ¬ ((v.secs.length : Int) < (v.secs.length : Int)) := by omega
    rw [List.take_length] at h4
    simp only [SX, h36, h37, e1, Ok_some]
    exact ⟨by simp, hl, .inl ⟨trivial, h4, hb⟩⟩
  · rintro ⟨x, R, W'⟩ ⟨hl, hq⟩
    simp only at hl hq
    rcases hq with ⟨rfl, h4, hb⟩ | ⟨rfl, i, e, h2, h3, hb⟩
    · rw [hb]
      by_cases n6 : 4096 < total v.secs
      · simp only [SX, h4, n6, if_true, Ok_some]
        exact ⟨trivial, hle.trans hl⟩
      · simp only [SX, h4, n6, if_false, Ok_some]
        exact ⟨trivial, hle.trans hl⟩
    · rw [hb]
      simp only [SX, h2, h3, Ok_some]
      exact ⟨trivial, hle.trans hl⟩
abbrev Plc := Nat × Nat × Nat
def rowP (i k m : Nat) : List Plc := (List.range m).map fun j => (i, k, j)
def secP (i : Nat) (rows : List Int) (k : Nat) : List Plc := (List.range k).flatMap fun j => rowP i j (rows.getD j 0).toNat
def plcK (l : List Sec) (n : Nat) : List Plc := (List.range n).flatMap fun i => match l[i]? with
  | some s => secP i s.rows s.rows.length
  | none => []
def places (l : List Sec) : List Plc := plcK l l.length
theorem rowP_succ (i k m : Nat) : rowP i k (m + 1) = rowP i k m ++ [(i, k, m)] := by simp [rowP, List.range_succ]
theorem secP_succ (i : Nat) (rows : List Int) {k : Nat} (hk : k < rows.length) : secP i rows (k + 1) = secP i rows k ++ rowP i k rows[k].toNat := by
  unfold secP
  rw [List.range_succ, List.flatMap_append, List.flatMap_cons, List.flatMap_nil, List.append_nil, List.getD_eq_getElem?_getD, List.getElem?_eq_getElem hk, Option.getD_some]
theorem plcK_succ (l : List Sec) {n : Nat} (hn : n < l.length) : plcK l (n + 1) = plcK l n ++ secP n l[n].rows l[n].rows.length := by
  unfold plcK
  rw [List.range_succ, List.flatMap_append, List.flatMap_cons, List.flatMap_nil, List.append_nil, List.getElem?_eq_getElem hn]
structure Good (l : List Sec) : Prop where
  len : l.length ≤ 8
  rows : ∀ s ∈ l, s.rows.length ≠ 0 ∧ s.rows.length ≤ 16 ∧ ∀ n ∈ s.rows, 1 ≤ n ∧ n ≤ 64
theorem Good.of {l : List Sec} (h : l.length ≤ 8) (hb : badK l l.length = none) : Good l :=
  ⟨h, fun s hs => by
    obtain ⟨i, hi, rfl⟩ := List.getElem_of_mem hs
    obtain ⟨_, _, h3, h4, h5, _⟩ := secE_zero (badK_none hb i hi hi)
    exact ⟨h3, h4, h5⟩⟩
theorem rowP_len (i k m : Nat) : (rowP i k m).length = m := by simp [rowP]
theorem secP_len {i : Nat} {rows : List Int} (h : ∀ n ∈ rows, 1 ≤ n ∧ n ≤ 64) : ∀ {k : Nat}, k ≤ rows.length → ((secP i rows k).length : Int) = sumI (rows.take k)
  | 0, _ => by simp [secP, sumI]
  | k + 1, hk => by
    have hk' : k < rows.length := by omega
    rw [secP_succ i rows hk', List.length_append, rowP_len, sumI_take hk', ← secP_len (i := i) h (by omega : k ≤ rows.length)]
    have := h _ (List.getElem_mem hk')
    omega
theorem plcK_len {l : List Sec} (h : Good l) : ∀ {n : Nat}, n ≤ l.length → ((plcK l n).length : Int) = total (l.take n) ∧ (plcK l n).length ≤ 1024 * n
  | 0, _ => by simp [plcK, total, sumI]
  | n + 1, hn => by
    have hn' : n < l.length := by omega
    obtain ⟨h1, h2, h3⟩ := h.rows _ (List.getElem_mem hn')
    have ih := plcK_len h (by omega : n ≤ l.length)
    have hl := secP_len (i := n) h3 (Nat.le_refl _)
    have hb := (sumI_bound h3 l[n].rows.length).1
    rw [List.take_length] at hl hb
    rw [plcK_succ l hn', List.length_append, total_take hn']
    omega
theorem places_len {l : List Sec} (h : Good l) : ((places l).length : Int) = total l := by
  have := (plcK_len h (Nat.le_refl l.length)).1
  rwa [List.take_length] at this
def plcC (p : Plc) : List Value := [.int .i64 (p.1 : Int), .int .i64 (p.2.1 : Int), .int .i64 (p.2.2 : Int)]
def plcAt (cs : List Value) (p : Nat) (a : Plc) : Prop := cs[p]? = some (.int .i64 (a.1 : Int)) ∧ cs[p + 1]? = some (.int .i64 (a.2.1 : Int)) ∧ cs[p + 2]? = some (.int .i64 (a.2.2 : Int))
theorem plcC_len (p : Plc) : (plcC p).length = 3 := rfl
theorem plcC_one (p : Plc) : (plcC p).all Eng.one = true := rfl
theorem plcC_at (a : Plc) (pre post : List Value) : plcAt (pre ++ (plcC a ++ post)) pre.length a := by
  refine ⟨?_, ?_, ?_⟩ <;> (rw [List.getElem?_append_right (by omega)]; simp [plcC])
abbrev Plcs (W : AW) (v : Value) (l : List Plc) : Prop := Row W 3 plcAt v l
theorem ap100 : appOk Tryz.prog #[117, 117] 3 24 = true := by kernel_rfl
theorem bd65 (a b c : Int) (W : AW) : oBuild Tryz.prog 160 [(0, .int .i64 a), (1, .int .i64 b), (2, .int .i64 c)] W = some (.agg #[.int .i64 a, .int .i64 b, .int .i64 c], W) := Eq.trans (by kernel_rfl) rfl
theorem bs100 (a b c : Int) (W : AW) : oBuildSlice Tryz.prog 117 1 [(0, .agg #[.int .i64 a, .int .i64 b, .int .i64 c])] W = some (.slice (some ⟨W.next, 0, none⟩) 1 1, W.add (.cells [.int .i64 a, .int .i64 b, .int .i64 c])) := Eq.trans (by kernel_rfl) rfl
theorem Places_ok {v : Ven} {sv : Value} {W : AW} (hs : Secs W sv v.secs) (hg : Good v.secs) : ∃ r W', omS (.func (.func 60) #[] #[]) [venV v sv] W = some (r, W') ∧ Le W W' ∧ Plcs W' r (places v.secs) := by
  have hle : Le W (W.add (.cells [.int .i64 v.sh, .int .i64 v.ttl, .int .i64 v.ses, sv])) := (Le.refl W).add _
  have hc : cellsAt (W.add (.cells [.int .i64 v.sh, .int .i64 v.ttl, .int .i64 v.ses, sv])) W.next = some [.int .i64 v.sh, .int .i64 v.ttl, .int .i64 v.ses, sv] := cellsAt_new
  have hn : W.next < (W.add (.cells [.int .i64 v.sh, .int .i64 v.ttl, .int .i64 v.ses, sv])).next := by rw [AW.add_next]; omega
  refine om_row ?_ ref15_Places_om
  unfold ref15_Places
  simp only [SX]
  generalize hW1 : W.add (.cells [.int .i64 v.sh, .int .i64 v.ttl, .int .i64 v.ses, sv]) = W1 at *
  have c3 : ∀ W', Le W1 W' → ldC (.pointer (some ⟨W.next, 3, none⟩)) W' = some (sv, W') := fun W' k => ldC_ok (by rw [k.cellsAt hn]; exact hc) rfl
  have add1 : ∀ (k : Nat) (W' : AW), k < 1000000 → oBin Tryz.prog .add 3 false true (.int .i64 (k : Int)) (.int .i64 1) W' = some (.int .i64 ((k + 1 : Nat) : Int), W') := fun k W' hk => oBin_add (by omega) (by omega)
  have hlen := hg.len
  refine Ok_loop v.secs.length (by omega) (fun i R W' => Le W1 W' ∧ R 1 = .pointer (some ⟨W.next, 0, none⟩) ∧ R 4 = .int .i64 (i : Int) ∧ Lst W1.next W' 3 plcC (R 3) (plcK v.secs i))
    (fun r => Le W1 r.2.2 ∧ r.1 = .exit 0 ∧ Lst W1.next r.2.2 3 plcC (r.2.1 3) (plcK v.secs v.secs.length)) ⟨.refl _, rfl, rfl, Lst.nil _ _ _ _⟩ ?_ ?_ ?_
  · rintro i R W' hi ⟨hl, h1, h4, hG⟩
    unfold ref15_Places_L1
    have e1 : ((i : Int) < (v.secs.length : Int)) := by omega
    simp only [SX, h1, h4, Nat.zero_add, c3 _ hl, hs.len lenS, e1]
    obtain ⟨b, o, rv, g1, g2, _, _, g5, _⟩ := hs.get hi
    obtain ⟨r1, r2, r3⟩ := hg.rows _ (List.getElem_mem hi)
    have hpl := (plcK_len hg (by omega : i ≤ v.secs.length)).2
    refine Ok_loop v.secs[i].rows.length (by omega) (fun k R W' => Le W1 W' ∧ R 1 = .pointer (some ⟨W.next, 0, none⟩) ∧ R 4 = .int .i64 (i : Int) ∧ R 5 = .int .i64 (k : Int) ∧ Lst W1.next W' 3 plcC (R 3) (plcK v.secs i ++ secP i v.secs[i].rows k))
      (fun r => Le W1 r.2.2 ∧ r.1 = .exit 2 ∧ r.2.1 1 = .pointer (some ⟨W.next, 0, none⟩) ∧ r.2.1 4 = .int .i64 (i : Int) ∧ Lst W1.next r.2.2 3 plcC (r.2.1 3) (plcK v.secs (i + 1))) ⟨hl, h1, h4, rfl, by rw [show secP i v.secs[i].rows 0 = [] from rfl, List.append_nil]; exact hG⟩ ?_ ?_ ?_
    · rintro k R W' hk ⟨hl, h1, h4, h5, hG⟩
      unfold ref15_Places_L1_L2
      have e1 : ((k : Int) < (v.secs[i].rows.length : Int)) := by omega
      have g2' := g2.mono (hle.trans hl)
      simp only [SX, h1, h4, h5, Nat.zero_add, c3 _ hl, g1, g5 _ (hle.trans hl), g2'.len lenI, e1]
      obtain ⟨p, p1, p2⟩ := g2.get hk
      have hrk := r3 _ (List.getElem_mem hk)
      have hsl := secP_len (i := i) r3 (by omega : k ≤ v.secs[i].rows.length)
      have hsb := (sumI_bound r3 k).1
      refine Ok_loop v.secs[i].rows[k].toNat (by omega) (fun m R W' => Le W1 W' ∧ R 1 = .pointer (some ⟨W.next, 0, none⟩) ∧ R 4 = .int .i64 (i : Int) ∧ R 5 = .int .i64 (k : Int) ∧ R 6 = .int .i64 (m : Int) ∧ Lst W1.next W' 3 plcC (R 3) (plcK v.secs i ++ secP i v.secs[i].rows k ++ rowP i k m))
        (fun r => Le W1 r.2.2 ∧ r.1 = .exit 4 ∧ r.2.1 1 = .pointer (some ⟨W.next, 0, none⟩) ∧ r.2.1 4 = .int .i64 (i : Int) ∧ r.2.1 5 = .int .i64 (k : Int) ∧ Lst W1.next r.2.2 3 plcC (r.2.1 3) (plcK v.secs i ++ secP i v.secs[i].rows (k + 1))) ⟨hl, h1, h4, h5, rfl, by rw [show rowP i k 0 = [] from rfl, List.append_nil]; exact hG⟩ ?_ ?_ ?_
      · rintro m R W' hm ⟨hl, h1, h4, h5, h6, hG⟩
        unfold ref15_Places_L1_L2_L3
        have e1 : ((m : Int) < v.secs[i].rows[k]) := by omega
        simp only [SX, h1, h4, h5, h6, Nat.zero_add, c3 _ hl, g1, g5 _ (hle.trans hl), p1, p2 _ (hle.trans hl), e1, bd65, bs100]
        have hGm := hG.mono ((Le.refl W').add (.cells [.int .i64 (i : Int), .int .i64 (k : Int), .int .i64 (m : Int)]))
        have hlb : (plcK v.secs i ++ secP i v.secs[i].rows k ++ rowP i k m).length + 1 < 100000 := by
          rw [List.length_append, List.length_append, rowP_len]; omega
        obtain ⟨v', W2, q1, q2, q3, q4⟩ := Lst.push (P := Tryz.prog) (a := (i, k, m)) (b := W'.next) (c := 1) ap100 plcC_len plcC_one hGm cellsAt_new (by omega) (by omega) (by rw [AW.add_next]; have := hl.next; omega)
        simp only [SX, q1, add1 m _ (by omega), Ok_some]
        refine .inl ⟨trivial, q4 _ (hl.add _) (Nat.le_refl _), h1, h4, h5, rfl, ?_⟩
        rw [rowP_succ, ← List.append_assoc]
        exact q2
      · rintro R W' ⟨hl, h1, h4, h5, h6, hG⟩
        unfold ref15_Places_L1_L2_L3
        have e1 : ¬ ((v.secs[i].rows[k].toNat : Int) < v.secs[i].rows[k]) := by omega
        simp only [SX, h1, h4, h5, h6, Nat.zero_add, c3 _ hl, g1, g5 _ (hle.trans hl), p1, p2 _ (hle.trans hl), e1, Ok_some]
        refine ⟨by simp, hl, trivial, h1, h4, h5, ?_⟩
        rw [secP_succ _ _ hk, ← List.append_assoc]
        exact hG
      · rintro ⟨x, R, W'⟩ ⟨hl, rfl, h1, h4, h5, hG⟩
        simp only at hl h1 h4 h5 hG
        simp only [SX, h5, add1 k _ (by omega), Ok_some]
        exact .inl ⟨trivial, hl, h1, h4, rfl, hG⟩
    · rintro R W' ⟨hl, h1, h4, h5, hG⟩
      unfold ref15_Places_L1_L2
      have e1 : ¬ ((v.secs[i].rows.length : Int) < (v.secs[i].rows.length : Int)) := by omega
      have g2' := g2.mono (hle.trans hl)
      simp only [SX, h1, h4, h5, Nat.zero_add, c3 _ hl, g1, g5 _ (hle.trans hl), g2'.len lenI, e1, Ok_some]
      refine ⟨by simp, hl, trivial, h1, h4, ?_⟩
      rw [plcK_succ _ hi]
      exact hG
    · rintro ⟨x, R, W'⟩ ⟨hl, rfl, h1, h4, hG⟩
      simp only at hl h1 h4 hG
      simp only [SX, h4, add1 i _ (by omega), Ok_some]
      exact .inl ⟨trivial, hl, h1, rfl, hG⟩
  · rintro R W' ⟨hl, h1, h4, hG⟩
    unfold ref15_Places_L1
    have e1 : ¬ ((v.secs.length : Int) < (v.secs.length : Int)) := by omega
    simp only [SX, h1, h4, Nat.zero_add, c3 _ hl, hs.len lenS, e1, Ok_some]
    exact ⟨by simp, hl, trivial, hG⟩
  · rintro ⟨x, R, W'⟩ ⟨hl, rfl, hG⟩
    simp only at hl hG
    simp only [SX, Ok_some]
    exact ⟨hle.trans hl, hG.row plcC_len plcC_at⟩
theorem lenP : ((#[117] : Array TypeId)[0]?).bind Tryz.prog.underlying = some (.slice 160) := by kernel_rfl
theorem refVen_ok {v : Ven} {sv : Value} {W : AW} (hs : Secs W sv v.secs) (hv : v.secs.length < 1000) (hr : ∀ s ∈ v.secs, s.rows.length < 1000) : omS (.func (.func 28) #[] #[]) [venV v sv] W = some (.tuple #[.int .i64 (venE v).1, .int .i64 (venE v).2], W) := by
  refine om_drop rfl ?_ ref15_Check_om
  unfold ref15_Check
  have hle : Le W (W.add (.cells [.int .i64 v.sh, .int .i64 v.ttl, .int .i64 v.ses, sv])) := (Le.refl W).add _
  have hc : cellsAt (W.add (.cells [.int .i64 v.sh, .int .i64 v.ttl, .int .i64 v.ses, sv])) W.next = some [.int .i64 v.sh, .int .i64 v.ttl, .int .i64 v.ses, sv] := cellsAt_new
  have hn : W.next < (W.add (.cells [.int .i64 v.sh, .int .i64 v.ttl, .int .i64 v.ses, sv])).next := by rw [AW.add_next]; omega
  simp only [SX, Nat.zero_add]
  generalize hW1 : W.add (.cells [.int .i64 v.sh, .int .i64 v.ttl, .int .i64 v.ses, sv]) = W1 at *
  have c0 : ldC (.pointer (some ⟨W.next, 0, none⟩)) W1 = some (.int .i64 v.sh, W1) := ldC_ok hc rfl
  have c1 : ldC (.pointer (some ⟨W.next, 1, none⟩)) W1 = some (.int .i64 v.ttl, W1) := ldC_ok hc rfl
  have c2 : ldC (.pointer (some ⟨W.next, 2, none⟩)) W1 = some (.int .i64 v.ses, W1) := ldC_ok hc rfl
  have c3 : ldC (.pointer (some ⟨W.next, 3, none⟩)) W1 = some (sv, W1) := ldC_ok hc rfl
  have c4 : ldA 4 (.pointer (some ⟨W.next, 0, none⟩)) W1 = some (venV v sv, W1) := ldA_all hc rfl
  have hs1 := hs.mono hle
  simp only [SX, c0, within_ok, inB_not]
  unfold venE headBad
  cases n1 : outB v.sh 1 16
  case true => simp only [SX, Bool.true_or, if_true, Ok_some]; exact ⟨trivial, hle⟩
  simp only [SX, c1, within_ok, inB_not]
  cases n2 : outB v.ttl 1 1000000000
  case true => simp only [SX, Bool.true_or, Bool.or_true, if_true, Ok_some]; exact ⟨trivial, hle⟩
  simp only [SX, c2, within_ok, inB_not]
  cases n3 : outB v.ses 1 1000000000
  case true => simp only [SX, Bool.or_true, if_true, Ok_some]; exact ⟨trivial, hle⟩
  simp only [SX, c3, hs.len lenS, Bool.or_self, Bool.false_eq_true, if_false]
  by_cases n4 : v.secs.length = 0
  case pos =>
    have e : ((v.secs.length : Int) = 0) := by omega
    simp only [SX, e, if_pos n4, Ok_some]; exact ⟨trivial, hle⟩
  have e4 : ¬ ((v.secs.length : Int) = 0) := by omega
  simp only [SX, e4, if_neg n4]
  by_cases n5 : 8 < v.secs.length
  case pos =>
    have e : ((8 : Int) < (v.secs.length : Int)) := by omega
    simp only [SX, e, if_pos n5, Ok_some]; exact ⟨trivial, hle⟩
  have e5 : ¬ ((8 : Int) < (v.secs.length : Int)) := by omega
  simp only [SX, e5, if_neg n5]
  refine Ok_loop v.secs.length (by omega) (fun k R W' => W' = W1 ∧ R 1 = .pointer (some ⟨W.next, 0, none⟩) ∧ R 4 = .int .i64 (k : Int) ∧ badK v.secs k = none)
    (fun r => r.2.2 = W1 ∧ ((r.1 = .exit 0 ∧ r.2.1 1 = .pointer (some ⟨W.next, 0, none⟩) ∧ badK v.secs v.secs.length = none) ∨ (r.1 = .ret ∧ ∃ i e, r.2.1 2 = .int .i64 ((i : Nat) : Int) ∧ r.2.1 3 = .int .i64 e ∧ badK v.secs v.secs.length = some (i, e)))) ⟨rfl, rfl, rfl, rfl⟩ ?_ ?_ ?_
  · rintro k R W' hk ⟨rfl, h1, h4, hb⟩
    unfold ref15_Check_L1
    have e1 : ((k : Int) < (v.secs.length : Int)) := by omega
    have e2 : (k : Int) + 1 = ((k + 1 : Nat) : Int) := by omega
    have ea := oBinAddT W' k 1
    simp only [SX, h1, h4, Nat.zero_add, c3, hs.len lenS, e1, c4, section_ok hs1 hv hk (hr _ (List.getElem_mem hk))]
    have hbs := badK_step hb hk
    by_cases hz : secE v.secs[k] (v.secs.take k) = 0
    · rw [if_pos hz] at hbs
      simp only [SX, hz, ea, Ok_some]
      exact .inl ⟨trivial, trivial, h1, by rw [← e2]; rfl, hbs⟩
    · rw [if_neg hz] at hbs
      simp only [SX, hz, Ok_some]
      exact .inr ⟨by simp, trivial, .inr ⟨trivial, k, _, rfl, rfl, badK_mono hbs (by omega)⟩⟩
  · rintro R W' ⟨rfl, h1, h4, hb⟩
    unfold ref15_Check_L1
    have e1 : ¬ ((v.secs.length : Int) < (v.secs.length : Int)) := by omega
    simp only [SX, h1, h4, Nat.zero_add, c3, hs.len lenS, e1, Ok_some]
    exact ⟨by simp, trivial, .inl ⟨trivial, h1, hb⟩⟩
  · rintro ⟨x, R, W'⟩ ⟨hW, hq⟩
    simp only at hW hq
    subst hW
    rcases hq with ⟨rfl, h1, hb⟩ | ⟨rfl, i, e, h2, h3, hb⟩
    · rw [hb]
      have hg := Good.of (by omega) hb
      obtain ⟨r, W2, q1, q2, q3⟩ := Places_ok hs1 hg
      simp only [SX, h1, c4, q1, q3.len lenP, places_len hg]
      by_cases n6 : 4096 < total v.secs
      · simp only [SX, n6, if_true, Ok_some]
        exact ⟨trivial, hle.trans q2⟩
      · simp only [SX, n6, if_false, Ok_some]
        exact ⟨trivial, hle.trans q2⟩
    · rw [hb]
      simp only [SX, h2, h3, Ok_some]
      exact ⟨trivial, hle⟩
theorem venE_good {v : Ven} (h : (venE v).2 = 0) : Good v.secs ∧ headBad v = false ∧ 0 < v.secs.length ∧ badK v.secs v.secs.length = none ∧ total v.secs ≤ 4096 ∧ (venE v).1 = 0 := by
  unfold venE at h ⊢
  split at h
  · exact absurd h (by decide)
  rename_i h1
  split at h
  · exact absurd h (by decide)
  rename_i h2
  split at h
  · exact absurd h (by decide)
  rename_i h3
  cases hb : badK v.secs v.secs.length with
  | some r =>
    obtain ⟨i, e⟩ := r
    rw [hb] at h
    simp only at h
    subst h
    exfalso
    have : ∀ n, badK v.secs n ≠ some (i, 0) := by
      intro n
      induction n with
      | zero => simp [badK]
      | succ n ih =>
        intro hn
        have hn' : (match badK v.secs n with | some r => some r | none => match v.secs[n]? with | some s => if secE s (v.secs.take n) = 0 then none else some (n, secE s (v.secs.take n)) | none => none) = some (i, 0) := hn
        cases hbn : badK v.secs n with
        | some r => rw [hbn] at hn'; simp only at hn'; rw [hn'] at hbn; exact ih hbn
        | none =>
          rw [hbn] at hn'
          simp only at hn'
          split at hn'
          · split at hn'
            · cases hn'
            · rename_i hz; injection hn' with hn'; injection hn' with _ e; exact hz e
          · cases hn'
    exact this _ hb
  | none =>
    rw [hb] at h
    simp only at h ⊢
    split at h
    · exact absurd h (by decide)
    rename_i h4
    rw [if_neg h4, if_neg h1, if_neg h2, if_neg h3]
    exact ⟨Good.of (by omega) hb, by simpa using h1, by omega, trivial, by omega, rfl⟩
theorem venBox (v : Ven) (sv : Value) (W : AW) : ∃ W1, oBox (venV v sv) W = some (.pointer (some ⟨W.next, 0, none⟩), W1) ∧ Le W W1 ∧ W.next < W1.next ∧
    (∀ W', Le W1 W' → ldA 4 (.pointer (some ⟨W.next, 0, none⟩)) W' = some (venV v sv, W')) ∧ (∀ W', Le W1 W' → ldC (.pointer (some ⟨W.next, 0, none⟩)) W' = some (.int .i64 v.sh, W')) ∧ (∀ W', Le W1 W' → ldC (.pointer (some ⟨W.next, 3, none⟩)) W' = some (sv, W')) := by
  have hc : cellsAt (W.add (.cells [.int .i64 v.sh, .int .i64 v.ttl, .int .i64 v.ses, sv])) W.next = some [.int .i64 v.sh, .int .i64 v.ttl, .int .i64 v.ses, sv] := cellsAt_new
  have hn : W.next < (W.add (.cells [.int .i64 v.sh, .int .i64 v.ttl, .int .i64 v.ses, sv])).next := by rw [AW.add_next]; omega
  exact ⟨_, oBox4 _ _ _ _ W, (Le.refl W).add _, hn, fun W' k => ldA_all (by rw [k.cellsAt hn]; exact hc) rfl, fun W' k => ldC_ok (by rw [k.cellsAt hn]; exact hc) rfl, fun W' k => ldC_ok (by rw [k.cellsAt hn]; exact hc) rfl⟩
def seatsE (v : Ven) : Int × Int := if (venE v).2 = 0 then (total v.secs, 0) else (0, (venE v).2)
theorem refSeats_ok {v : Ven} {sv : Value} {W : AW} (hs : Secs W sv v.secs) (hv : v.secs.length < 1000) (hr : ∀ s ∈ v.secs, s.rows.length < 1000) : omS (.func (.func 50) #[] #[]) [venV v sv] W = some (.tuple #[.int .i64 (seatsE v).1, .int .i64 (seatsE v).2], W) := by
  refine om_drop rfl ?_ ref15_Seats_om
  unfold ref15_Seats seatsE
  obtain ⟨W1, hB, hle, hn, c4, c0, c3⟩ := venBox v sv W
  simp only [SX, hB, c4 _ (.refl _), refVen_ok (hs.mono hle) hv hr]
  by_cases he : (venE v).2 = 0
  · obtain ⟨r, W2, q1, q2, q3⟩ := Places_ok (hs.mono hle) (venE_good he).1
    simp only [SX, decide_eq_true he, q1, q3.len lenP, places_len (venE_good he).1, if_pos he, Ok_some]
    exact ⟨trivial, hle.trans q2⟩
  · simp only [SX, he, if_false, Ok_some]
    exact ⟨trivial, hle⟩
structure RowT where
  sec : Nat
  row : Nat
  first : Int
  many : Int
abbrev rowV (r : RowT) : Value := .agg #[.int .i64 (r.sec : Int), .int .i64 (r.row : Int), .int .i64 r.first, .int .i64 r.many]
def secR (l : List Sec) (i : Nat) (rows : List Int) (k : Nat) : List RowT := (List.range k).map fun j => ⟨i, j, total (l.take i) + sumI (rows.take j), rows.getD j 0⟩
def rowsK (l : List Sec) (n : Nat) : List RowT := (List.range n).flatMap fun i => match l[i]? with
  | some s => secR l i s.rows s.rows.length
  | none => []
def rowsL (l : List Sec) : List RowT := rowsK l l.length
theorem secR_succ (l : List Sec) (i : Nat) (rows : List Int) {k : Nat} (hk : k < rows.length) : secR l i rows (k + 1) = secR l i rows k ++ [⟨i, k, total (l.take i) + sumI (rows.take k), rows[k]⟩] := by
  unfold secR
  rw [List.range_succ, List.map_append, List.map_cons, List.map_nil, List.getD_eq_getElem?_getD, List.getElem?_eq_getElem hk, Option.getD_some]
theorem rowsK_succ (l : List Sec) {n : Nat} (hn : n < l.length) : rowsK l (n + 1) = rowsK l n ++ secR l n l[n].rows l[n].rows.length := by
  unfold rowsK
  rw [List.range_succ, List.flatMap_append, List.flatMap_cons, List.flatMap_nil, List.append_nil, List.getElem?_eq_getElem hn]
theorem secR_pre {l : List Sec} {i : Nat} {rows : List Int} {k n : Nat} (h : k ≤ n) (hn : n ≤ rows.length) : secR l i rows k <+: secR l i rows n := by
  induction n with
  | zero => obtain rfl : k = 0 := by omega
            exact List.prefix_refl _
  | succ n ih =>
    by_cases e : k = n + 1
    · subst e; exact List.prefix_refl _
    · rw [secR_succ l i rows (by omega)]
      exact (ih (by omega) (by omega)).trans (List.prefix_append _ _)
theorem rowsK_pre {l : List Sec} {k n : Nat} (h : k ≤ n) (hn : n ≤ l.length) : rowsK l k <+: rowsK l n := by
  induction n with
  | zero => obtain rfl : k = 0 := by omega
            exact List.prefix_refl _
  | succ n ih =>
    by_cases e : k = n + 1
    · subst e; exact List.prefix_refl _
    · rw [rowsK_succ l (by omega)]
      exact (ih (by omega) (by omega)).trans (List.prefix_append _ _)
theorem rows_pre {l : List Sec} {i k : Nat} (hi : i < l.length) (hk : k < l[i].rows.length) : (rowsK l i ++ secR l i l[i].rows k) ++ [⟨i, k, total (l.take i) + sumI (l[i].rows.take k), l[i].rows[k]⟩] <+: rowsL l := by
  rw [List.append_assoc, ← secR_succ l i _ hk]
  refine List.IsPrefix.trans ?_ (rowsK_pre (k := i + 1) (by omega) (Nat.le_refl _))
  rw [rowsK_succ l hi]
  exact (List.prefix_append_right_inj _).2 (secR_pre (by omega) (Nat.le_refl _))
theorem bd92 (a b c d : Int) (W : AW) : oBuild Tryz.prog 152 [(0, .int .i64 a), (1, .int .i64 b), (2, .int .i64 c), (3, .int .i64 d)] W = some (.agg #[.int .i64 a, .int .i64 b, .int .i64 c, .int .i64 d], W) := Eq.trans (by kernel_rfl) rfl
theorem rows_ok {v : Ven} {sv f : Value} {bx : Nat} {W0 W : AW} (hs : Secs W0 sv v.secs) (hg : Good v.secs) (hb : ldC (.pointer (some ⟨bx, 3, none⟩)) W = some (sv, W)) (I : List RowT → AW → Prop) (Q : AW → Prop)
    (hI : I [] W) (hS : ∀ pre W', I pre W' → Le W0 W') (hA : ∀ pre W' cs, I pre W' → I pre (W'.add (.cells cs)))
    (step : ∀ pre r W', pre ++ [r] <+: rowsL v.secs → I pre W' → ∃ b W2, omS f [rowV r] W' = some (.bool b, W2) ∧ (b = true → I (pre ++ [r]) W2) ∧ (b = false → Q W2)) :
    ∃ W2, omS (.func (.func 115) #[] #[.pointer (some ⟨bx, 0, none⟩)]) [f] W = some (.tuple #[], W2) ∧ (I (rowsL v.secs) W2 ∨ Q W2) := by
  have main : Ok (venue_rows_1 omS f (.pointer (some ⟨bx, 0, none⟩)) W) fun r => r.1 = .tuple #[] ∧ (I (rowsL v.secs) r.2 ∨ Q r.2) := by
    unfold venue_rows_1
    have hlen := hg.len
    have add1 : ∀ (k : Nat) (W' : AW), k < 1000000 → oBin Tryz.prog .add 3 false true (.int .i64 (k : Int)) (.int .i64 1) W' = some (.int .i64 ((k + 1 : Nat) : Int), W') := fun k W' hk => oBin_add (by omega) (by omega)
    simp only [SX, Nat.zero_add, hb, hs.len lenS]
    refine Ok_loop v.secs.length (by omega) (fun i R W' => R 0 = f ∧ R 3 = .int .i64 (total (v.secs.take i)) ∧ R 9 = sv ∧ R 10 = .int .i64 (v.secs.length : Int) ∧ R 11 = .int .i64 (i : Int) ∧ I (rowsK v.secs i) W')
      (fun r => (r.1 = .exit 0 ∧ I (rowsL v.secs) r.2.2) ∨ (r.1 = .ret ∧ Q r.2.2)) ⟨rfl, rfl, rfl, rfl, rfl, hI⟩ ?_ ?_ ?_
    · rintro i R W' hi ⟨h0, h3, h9, h10, h11, hi'⟩
      unfold venue_rows_1_L1
      have e1 : ((i : Int) < (v.secs.length : Int)) := by omega
      obtain ⟨b, o, rv, g1, g2, g3, _⟩ := hs.get hi
      obtain ⟨r1, r2, r3⟩ := hg.rows _ (List.getElem_mem hi)
      have htb : 0 ≤ total (v.secs.take i) ∧ total (v.secs.take i) ≤ 1024 * i := by
        have := plcK_len hg (by omega : i ≤ v.secs.length); omega
      have hI2 := hA _ _ [.string (bytesL v.secs[i].name), rv, .int .i64 v.secs[i].q] hi'
      have hc2 : cellsAt (W'.add (.cells [.string (bytesL v.secs[i].name), rv, .int .i64 v.secs[i].q])) W'.next = some [.string (bytesL v.secs[i].name), rv, .int .i64 v.secs[i].q] := cellsAt_new
      simp only [SX, h9, h10, h11, e1, g1, g3 _ (hS _ _ hi'), al62, stV3 rwCells_new (one_string _) (Row.one g2) (one_int _ _), put_add_cells, Nat.zero_add]
      generalize hW2 : W'.add (.cells [.string (bytesL v.secs[i].name), rv, .int .i64 v.secs[i].q]) = W2 at *
      have d1 : ldC (.pointer (some ⟨W'.next, 1, none⟩)) W2 = some (rv, W2) := ldC_ok hc2 rfl
      simp only [SX, d1, g2.len lenI]
      refine Ok_loop v.secs[i].rows.length (by omega) (fun k R W' => R 0 = f ∧ R 3 = .int .i64 (total (v.secs.take i) + sumI (v.secs[i].rows.take k)) ∧ R 4 = .int .i64 (i : Int) ∧ R 9 = sv ∧ R 10 = .int .i64 (v.secs.length : Int) ∧ R 11 = .int .i64 (i : Int) ∧ R 17 = rv ∧ R 18 = .int .i64 (v.secs[i].rows.length : Int) ∧ R 19 = .int .i64 (k : Int) ∧ I (rowsK v.secs i ++ secR v.secs i v.secs[i].rows k) W')
        (fun r => (r.1 = .exit 2 ∧ r.2.1 0 = f ∧ r.2.1 3 = .int .i64 (total (v.secs.take (i + 1))) ∧ r.2.1 9 = sv ∧ r.2.1 10 = .int .i64 (v.secs.length : Int) ∧ r.2.1 11 = .int .i64 (i : Int) ∧ I (rowsK v.secs (i + 1)) r.2.2) ∨ (r.1 = .ret ∧ Q r.2.2))
        ⟨h0, by rw [List.take_zero, show sumI [] = 0 from rfl, Int.add_zero]; exact h3, rfl, h9, h10, h11, rfl, rfl, rfl, by rw [show secR v.secs i v.secs[i].rows 0 = [] from rfl, List.append_nil]; exact hI2⟩ ?_ ?_ ?_
      · rintro k R W' hk ⟨h0, h3, h4, h9, h10, h11, h17, h18, h19, hi'⟩
        unfold venue_rows_1_L1_L2
        have e1 : ((k : Int) < (v.secs[i].rows.length : Int)) := by omega
        obtain ⟨p, p1, p2⟩ := g2.get hk
        obtain ⟨c, W3, s1, s2, s3⟩ := step _ ⟨i, k, total (v.secs.take i) + sumI (v.secs[i].rows.take k), v.secs[i].rows[k]⟩ W' (rows_pre hi hk) hi'
        have hsb := (sumI_bound r3 k).1
        have hsn := r3 _ (List.getElem_mem hk)
        have eb := oBinAddF W3 (total (v.secs.take i) + sumI (v.secs[i].rows.take k)) (v.secs[i].rows[k])
        simp only [SX, h0, h3, h4, h17, h18, h19, e1, p1, p2 _ (hS _ _ hi'), bd92, s1]
        cases c
        · simp only [SX, Ok_some]
          exact .inr ⟨by simp, .inr ⟨trivial, s3 rfl⟩⟩
        · simp only [SX, eb, add1 k _ (by omega), Ok_some]
          refine .inl ⟨trivial, h0, ?_, h4, h9, h10, h11, h17, h18, rfl, ?_⟩
          · rw [sumI_take hk, ← Int.add_assoc]; rfl
          · rw [secR_succ _ _ _ hk, ← List.append_assoc]; exact s2 rfl
      · rintro R W' ⟨h0, h3, h4, h9, h10, h11, h17, h18, h19, hi'⟩
        unfold venue_rows_1_L1_L2
        have e1 : ¬ ((v.secs[i].rows.length : Int) < (v.secs[i].rows.length : Int)) := by omega
        simp only [SX, h18, h19, e1, Ok_some]
        refine ⟨by simp, .inl ⟨trivial, h0, ?_, h9, h10, h11, ?_⟩⟩
        · rw [total_take hi]
          rw [List.take_length] at h3
          exact h3
        · rw [rowsK_succ _ hi]; exact hi'
      · rintro ⟨x, R, W'⟩ hq
        rcases hq with ⟨rfl, h0, h3, h9, h10, h11, hi'⟩ | ⟨rfl, hq⟩
        · simp only at h0 h3 h9 h10 h11 hi'
          simp only [SX, h11, add1 i _ (by omega), Ok_some]
          exact .inl ⟨trivial, h0, h3, h9, h10, rfl, hi'⟩
        · simp only [SX, Ok_some]
          exact .inr ⟨by simp, .inr ⟨trivial, hq⟩⟩
    · rintro R W' ⟨h0, h3, h9, h10, h11, hi'⟩
      unfold venue_rows_1_L1
      have e1 : ¬ ((v.secs.length : Int) < (v.secs.length : Int)) := by omega
      simp only [SX, h10, h11, e1, Ok_some]
      exact ⟨by simp, .inl ⟨trivial, hi'⟩⟩
    · rintro ⟨x, R, W'⟩ hq
      rcases hq with ⟨rfl, hi'⟩ | ⟨rfl, hq⟩
      · simp only [SX, Ok_some]
        exact ⟨trivial, .inl hi'⟩
      · simp only [SX, Ok_some]
        exact ⟨trivial, .inr hq⟩
  obtain ⟨⟨r, W'⟩, h1, h2, h3⟩ := main
  simp only at h2 h3
  subst h2
  exact ⟨W', by rw [venue_rows_1_om h1, gc_not rfl], h3⟩
theorem rows_fn {v : Ven} {sv : Value} (W : AW) : ∃ W1, omS (.func (.func 78) #[] #[]) [venV v sv] W = some (.func (.func 115) #[] #[.pointer (some ⟨W.next, 0, none⟩)], W1) ∧ Le W W1 ∧ W.next < W1.next ∧ (∀ W', Le W1 W' → ldC (.pointer (some ⟨W.next, 3, none⟩)) W' = some (sv, W')) := by
  obtain ⟨W1, hB, hle, hn, c4, c0, c3⟩ := venBox v sv W
  refine ⟨W1, ?_, hle, hn, c3⟩
  have : venue_rows omS (venV v sv) W = some (.func (.func 115) #[] #[.pointer (some ⟨W.next, 0, none⟩)], W1) := by
    unfold venue_rows
    simp only [SX, hB]
  rw [venue_rows_om this, gc_not rfl]
theorem rows_range {v : Ven} {sv : Value} {W0 W : AW} {bx nt : Nat} {R : Nat → Value} {ps : Array Tmp} {ac bd : Code} (hs : Secs W0 sv v.secs) (hg : Good v.secs)
    (hb : ldC (.pointer (some ⟨bx, 3, none⟩)) (W.add (.loop .ready none R nt ps ac bd)) = some (sv, W.add (.loop .ready none R nt ps ac bd))) (hp : ps.size = 1)
    (J : List RowT → AW → Prop) (Q : X → AW → Prop) (h0 : J [] (W.add (.loop .ready none R nt ps ac bd)))
    (hS : ∀ pre W', J pre W' → Le W0 W') (hA : ∀ pre W' cs, J pre W' → W.next < W'.next → J pre (W'.add (.cells cs))) (hP : ∀ pre W' o, J pre W' → J pre (W'.put W.next o)) (hQ : ∀ x W' o, Q x W' → Q x (W'.put W.next o))
    (d : Nat) (has : ∀ r W' R', R' = zipGo ps.toList [rowV r] R → kCode Tryz.prog omS false nt ac LT R' W' ret3 = some (.normal, rput R' (some d) (.pointer (some ⟨W'.next, 0, none⟩)), W'.add (.cells [.int .i64 (r.sec : Int), .int .i64 (r.row : Int), .int .i64 r.first, .int .i64 r.many])))
    (step : ∀ pre r W' b R', R' = rput (zipGo ps.toList [rowV r] R) (some d) (.pointer (some ⟨b, 0, none⟩)) → pre ++ [r] <+: rowsL v.secs → J pre W' → W.next < W'.next → rwCells W' b = some [.int .i64 (r.sec : Int), .int .i64 (r.row : Int), .int .i64 r.first, .int .i64 r.many] → W.next < b → b < W'.next →
      Ok (kCode Tryz.prog omS false nt bd LT R' W' ret3) fun q => W'.next ≤ q.2.2.next ∧ q.2.2.get W.next = W'.get W.next ∧ ((q.1 = .normal ∧ J (pre ++ [r]) q.2.2) ∨ (q.1 ≠ .normal ∧ Q q.1 q.2.2))) :
    ∃ x W2, oRange omS (.func (.func 115) #[] #[.pointer (some ⟨bx, 0, none⟩)]) (.loop .ready none R nt ps ac bd) W = some (x, W2.kill W.next) ∧ ((x = .normal ∧ J (rowsL v.secs) W2) ∨ (x ≠ .normal ∧ Q x W2)) := by
  obtain ⟨W2, h1, h2⟩ := rows_ok (f := .func (.yield W.next) #[] #[]) (W := W.add (.loop .ready none R nt ps ac bd)) hs hg hb
    (fun pre W' => J pre W' ∧ W.next < W'.next ∧ W'.get W.next = some (.loop .ready none R nt ps ac bd))
    (fun W' => ∃ x, x ≠ .normal ∧ Q x W' ∧ W'.get W.next = some (.loop .done x.jump R nt ps ac bd))
    ⟨h0, by rw [AW.add_next]; omega, AW.get_add _ _⟩ (fun pre W' h => hS _ _ h.1)
    (fun pre W' cs h => ⟨hA _ _ _ h.1 h.2.1, by rw [AW.add_next]; omega, by rw [AW.get_add_ne _ _ (by omega)]; exact h.2.2⟩)
    (fun pre r W' hpre ⟨hJ, hlt, hget⟩ => by
      have hJ2 := hP _ _ (.loop .busy none R nt ps ac bd) (hA _ _ [.int .i64 (r.sec : Int), .int .i64 (r.row : Int), .int .i64 r.first, .int .i64 r.many] hJ hlt)
      obtain ⟨⟨x, R2, W3⟩, k1, k2, k3, k4⟩ := step pre r _ W'.next _ rfl hpre hJ2 (by rw [AW.put_next, AW.add_next]; omega) (by rw [rwCells_put_ne _ (by omega)]; exact rwCells_new) hlt (by rw [AW.put_next, AW.add_next]; omega)
      simp only at k1 k2 k3 k4
      rw [AW.get_put] at k3
      have hy := yield_gen (P := Tryz.prog) (args := [rowV r]) hget (by rw [hp]; rfl) (has r W' _ rfl) (by rw [AW.get_add_ne _ _ (by omega)]; exact hget) k1 k3
      have hn3 : W.next < W3.next := by rw [AW.put_next, AW.add_next] at k2; omega
      rcases k4 with ⟨rfl, k4⟩ | ⟨kx, k4⟩
      · exact ⟨true, _, hy, fun _ => ⟨hP _ _ _ k4, by rw [AW.put_next]; exact hn3, AW.get_put _ _ _⟩, fun h => by cases h⟩
      · refine ⟨false, W3.put W.next (.loop .done x.jump R nt ps ac bd), ?_, fun h => by (cases h), fun _ => ⟨x, kx, hQ _ _ _ k4, AW.get_put _ _ _⟩⟩
        refine hy.trans ?_
        cases x with
        | normal => exact absurd rfl kx
        | exit i => rfl
        | ret => rfl)
  rcases h2 with ⟨h2, h3, h4⟩ | ⟨x, h2, h3, h4⟩
  · exact ⟨.normal, W2, range_normal h1 h4 (by simp), .inl ⟨rfl, h2⟩⟩
  · exact ⟨x, W2, range_jump h1 h4, .inr ⟨h2, h3⟩⟩
theorem Ok_rows {v : Ven} {sv : Value} {W0 W : AW} {bx nt : Nat} {R : Nat → Value} {ps : Array Tmp} {ac bd : Code} {ρ : Type} {K : X × AW → Option ρ} {G : ρ → Prop} (hs : Secs W0 sv v.secs) (hg : Good v.secs)
    (hb : ldC (.pointer (some ⟨bx, 3, none⟩)) (W.add (.loop .ready none R nt ps ac bd)) = some (sv, W.add (.loop .ready none R nt ps ac bd))) (hp : ps.size = 1)
    (J : List RowT → AW → Prop) (Q : X → AW → Prop) (h0 : J [] (W.add (.loop .ready none R nt ps ac bd)))
    (hS : ∀ pre W', J pre W' → Le W0 W') (hA : ∀ pre W' cs, J pre W' → W.next < W'.next → J pre (W'.add (.cells cs))) (hP : ∀ pre W' o, J pre W' → J pre (W'.put W.next o)) (hQ : ∀ x W' o, Q x W' → Q x (W'.put W.next o))
    (d : Nat) (has : ∀ r W' R', R' = zipGo ps.toList [rowV r] R → kCode Tryz.prog omS false nt ac LT R' W' ret3 = some (.normal, rput R' (some d) (.pointer (some ⟨W'.next, 0, none⟩)), W'.add (.cells [.int .i64 (r.sec : Int), .int .i64 (r.row : Int), .int .i64 r.first, .int .i64 r.many])))
    (step : ∀ pre r W' b R', R' = rput (zipGo ps.toList [rowV r] R) (some d) (.pointer (some ⟨b, 0, none⟩)) → pre ++ [r] <+: rowsL v.secs → J pre W' → W.next < W'.next → rwCells W' b = some [.int .i64 (r.sec : Int), .int .i64 (r.row : Int), .int .i64 r.first, .int .i64 r.many] → W.next < b → b < W'.next →
      Ok (kCode Tryz.prog omS false nt bd LT R' W' ret3) fun q => W'.next ≤ q.2.2.next ∧ q.2.2.get W.next = W'.get W.next ∧ ((q.1 = .normal ∧ J (pre ++ [r]) q.2.2) ∨ (q.1 ≠ .normal ∧ Q q.1 q.2.2)))
    (after : ∀ x W2, (x = .normal ∧ J (rowsL v.secs) W2) ∨ (x ≠ .normal ∧ Q x W2) → Ok (K (x, W2.kill W.next)) G) :
    Ok (bnd (oRange omS (.func (.func 115) #[] #[.pointer (some ⟨bx, 0, none⟩)]) (.loop .ready none R nt ps ac bd) W) K) G := by
  obtain ⟨x, W2, h1, h2⟩ := rows_range hs hg hb hp J Q h0 hS hA hP hQ d has step
  rw [h1, bnd_some]
  exact after x W2 h2
def manyS (l : List RowT) : Int := sumI (l.map (·.many))
def Firsts : Int → List RowT → Prop
  | _, [] => True
  | s, r :: l => r.first = s ∧ Firsts (s + r.many) l
theorem manyS_nil : manyS [] = 0 := rfl
theorem manyS_cons (r : RowT) (l : List RowT) : manyS (r :: l) = r.many + manyS l := rfl
theorem manyS_append (a b : List RowT) : manyS (a ++ b) = manyS a + manyS b := by
  induction a with
  | nil => simp [manyS_nil]
  | cons r a ih => rw [List.cons_append, manyS_cons, manyS_cons, ih]; omega
theorem Firsts.append : ∀ {a b : List RowT} {s : Int}, Firsts s a → Firsts (s + manyS a) b → Firsts s (a ++ b)
  | [], _, s, _, h => by rw [manyS_nil, Int.add_zero] at h; exact h
  | r :: a, b, s, ⟨h1, h2⟩, h => ⟨h1, Firsts.append h2 (by rw [manyS_cons, ← Int.add_assoc] at h; exact h)⟩
theorem Firsts.at : ∀ {a b : List RowT} {r : RowT} {s : Int}, Firsts s (a ++ r :: b) → r.first = s + manyS a
  | [], _, _, s, ⟨h, _⟩ => by rw [h, manyS_nil, Int.add_zero]
  | x :: a, b, r, s, ⟨_, h⟩ => by rw [Firsts.at h, manyS_cons, Int.add_assoc]
theorem secR_sum (l : List Sec) (i : Nat) (rows : List Int) : ∀ {k : Nat}, k ≤ rows.length → manyS (secR l i rows k) = sumI (rows.take k)
  | 0, _ => rfl
  | k + 1, hk => by
    rw [secR_succ l i rows (by omega), manyS_append, secR_sum l i rows (by omega), sumI_take (by omega), manyS_cons, manyS_nil, Int.add_zero]
theorem secR_firsts (l : List Sec) (i : Nat) (rows : List Int) : ∀ {k : Nat}, k ≤ rows.length → Firsts (total (l.take i)) (secR l i rows k)
  | 0, _ => trivial
  | k + 1, hk => by
    rw [secR_succ l i rows (by omega)]
    exact (secR_firsts l i rows (by omega)).append ⟨by rw [secR_sum l i rows (by omega)], trivial⟩
theorem rowsK_sum (l : List Sec) : ∀ {n : Nat}, n ≤ l.length → manyS (rowsK l n) = total (l.take n)
  | 0, _ => rfl
  | n + 1, hn => by
    rw [rowsK_succ l (by omega), manyS_append, rowsK_sum l (by omega), secR_sum l n _ (Nat.le_refl _), total_take (by omega), List.take_length]
theorem rowsK_firsts (l : List Sec) : ∀ {n : Nat}, n ≤ l.length → Firsts 0 (rowsK l n)
  | 0, _ => trivial
  | n + 1, hn => by
    rw [rowsK_succ l (by omega)]
    refine (rowsK_firsts l (by omega)).append ?_
    rw [rowsK_sum l (by omega), Int.zero_add]
    exact secR_firsts l n _ (Nat.le_refl _)
theorem rows_sum (l : List Sec) : manyS (rowsL l) = total l := by
  have := rowsK_sum l (Nat.le_refl l.length)
  rwa [List.take_length] at this
theorem rows_firsts (l : List Sec) : Firsts 0 (rowsL l) := rowsK_firsts l (Nat.le_refl _)
def RowOf (l : List Sec) (r : RowT) : Prop := ∃ (hi : r.sec < l.length) (hk : r.row < l[r.sec].rows.length), r.many = l[r.sec].rows[r.row]
theorem rows_mem {l : List Sec} {r : RowT} (h : r ∈ rowsL l) : RowOf l r := by
  unfold rowsL rowsK at h
  obtain ⟨i, hi, h⟩ := List.mem_flatMap.1 h
  rw [List.mem_range] at hi
  rw [List.getElem?_eq_getElem hi] at h
  unfold secR at h
  obtain ⟨k, hk, rfl⟩ := List.mem_map.1 h
  rw [List.mem_range] at hk
  exact ⟨hi, hk, by simp [List.getD_eq_getElem?_getD, List.getElem?_eq_getElem hk]⟩
theorem RowOf.many {l : List Sec} {r : RowT} (h : RowOf l r) (hg : Good l) : 1 ≤ r.many ∧ r.many ≤ 64 ∧ r.sec < 8 ∧ r.row < 16 := by
  obtain ⟨hi, hk, hm⟩ := h
  obtain ⟨_, h2, h3⟩ := hg.rows _ (List.getElem_mem hi)
  have := h3 _ (List.getElem_mem hk)
  have := hg.len
  omega
theorem manyS_pos {l : List RowT} (h : ∀ r ∈ l, 1 ≤ r.many) : (l.length : Int) ≤ manyS l := by
  induction l with
  | nil => simp [manyS_nil]
  | cons r l ih =>
    have h1 := h r (by simp)
    have h2 := ih fun x hx => h x (by simp [hx])
    rw [manyS_cons, List.length_cons]; omega
theorem manyS_pre {a l : List RowT} (h : a <+: l) (hm : ∀ r ∈ l, 1 ≤ r.many) : 0 ≤ manyS a ∧ manyS a ≤ manyS l := by
  obtain ⟨b, rfl⟩ := h
  have h1 := manyS_pos (l := a) fun r hr => hm r (by simp [hr])
  have h2 := manyS_pos (l := b) fun r hr => hm r (by simp [hr])
  rw [manyS_append]; omega
theorem total_max {l : List Sec} (hg : Good l) : 0 ≤ total l ∧ total l ≤ 8192 := by
  have h := (plcK_len hg (Nat.le_refl l.length))
  rw [List.take_length] at h
  have := hg.len
  omega
theorem row_next {l : List Sec} (hg : Good l) {pre : List RowT} {r : RowT} (h : pre ++ [r] <+: rowsL l) : RowOf l r ∧ r.first = manyS pre ∧ 0 ≤ manyS pre ∧ manyS (pre ++ [r]) ≤ 8192 ∧ 1 ≤ r.many ∧ r.many ≤ 64 ∧ manyS (pre ++ [r]) = manyS pre + r.many := by
  have hm : ∀ r ∈ rowsL l, 1 ≤ r.many := fun r hr => ((rows_mem hr).many hg).1
  have hr : r ∈ rowsL l := h.subset (by simp)
  have h1 := manyS_pre h hm
  have h2 := manyS_pre ((List.prefix_append pre [r]).trans h) hm
  rw [rows_sum] at h1
  obtain ⟨b, hb⟩ := h
  have hf := rows_firsts l
  rw [← hb, List.append_assoc] at hf
  have := Firsts.at hf
  have hx := (rows_mem hr).many hg
  have := total_max hg
  refine ⟨rows_mem hr, by omega, by omega, by omega, by omega, by omega, ?_⟩
  rw [manyS_append, manyS_cons, manyS_nil, Int.add_zero]
theorem secP_rows (l : List Sec) (i : Nat) (rows : List Int) : ∀ {k : Nat}, k ≤ rows.length → secP i rows k = (secR l i rows k).flatMap fun r => rowP r.sec r.row r.many.toNat
  | 0, _ => rfl
  | k + 1, hk => by
    rw [secP_succ i rows (by omega), secR_succ l i rows (by omega), List.flatMap_append, ← secP_rows l i rows (by omega), List.flatMap_cons, List.flatMap_nil, List.append_nil]
theorem places_rows (l : List Sec) : places l = (rowsL l).flatMap fun r => rowP r.sec r.row r.many.toNat := by
  have : ∀ n, n ≤ l.length → plcK l n = (rowsK l n).flatMap fun r => rowP r.sec r.row r.many.toNat := by
    intro n
    induction n with
    | zero => intro _; rfl
    | succ n ih =>
      intro hn
      rw [plcK_succ l (by omega), rowsK_succ l (by omega), List.flatMap_append, ← ih (by omega), ← secP_rows l n _ (Nat.le_refl _)]
  exact this _ (Nat.le_refl _)
theorem oL3 (x : Value) (W : AW) : oLoad Tryz.prog 3 x W = ldC x W := by kernel_rfl
theorem oL28 (x : Value) (W : AW) : oLoad Tryz.prog 34 x W = ldC x W := by kernel_rfl
theorem oL92 (x : Value) (W : AW) : oLoad Tryz.prog 152 x W = ldA 4 x W := by kernel_rfl
theorem al3 (W : AW) : oAlloc Tryz.prog 3 W = some (.pointer (some ⟨W.next, 0, none⟩), W.add (.cells [.int .i64 0])) := Eq.trans (by kernel_rfl) rfl
theorem al28 (W : AW) : oAlloc Tryz.prog 34 W = some (.pointer (some ⟨W.next, 0, none⟩), W.add (.cells [.int .i64 0])) := Eq.trans (by kernel_rfl) rfl
theorem al92 (W : AW) : oAlloc Tryz.prog 152 W = some (.pointer (some ⟨W.next, 0, none⟩), W.add (.cells [.int .i64 0, .int .i64 0, .int .i64 0, .int .i64 0])) := Eq.trans (by kernel_rfl) rfl
theorem bd92z (W : AW) : oBuild Tryz.prog 152 [] W = some (.agg #[.int .i64 0, .int .i64 0, .int .i64 0, .int .i64 0], W) := Eq.trans (by kernel_rfl) rfl
theorem stV4 {b : Nat} {a c d e x y z u : Value} {W : AW} (h : rwCells W b = some [x, y, z, u]) (h1 : Eng.one a = true) (h2 : Eng.one c = true) (h3 : Eng.one d = true) (h4 : Eng.one e = true) : stV 4 (.pointer (some ⟨b, 0, none⟩)) (.agg #[a, c, d, e]) W = some (undef, W.put b (.cells [a, c, d, e])) := by
  rw [stV_eq, h, Option.bind_some]
  have hc : (Value.agg #[a, c, d, e]).cells = #[a, c, d, e] := cells_agg _
  rw [hc, if_pos ⟨rfl, by simp, by simp [h1, h2, h3, h4]⟩]
  rfl
theorem stI {b : Nat} {x : Value} {n : Int} {W : AW} (h : rwCells W b = some [x]) : stV 1 (.pointer (some ⟨b, 0, none⟩)) (.int .i64 n) W = some (undef, W.put b (.cells [.int .i64 n])) := by
  rw [stV_int, h]; rfl
theorem ldI {b : Nat} {x : Value} {W : AW} (h : rwCells W b = some [x]) : ldC (.pointer (some ⟨b, 0, none⟩)) W = some (x, W) := ldC_ok (rwCells_cellsAt h) rfl
theorem ldRw {b o : Nat} {cs : List Value} {x : Value} {W : AW} (h : rwCells W b = some cs) (hv : cs[o]? = some x) : ldC (.pointer (some ⟨b, o, none⟩)) W = some (x, W) := ldC_ok (rwCells_cellsAt h) hv
theorem seats_ok {v : Ven} {sv : Value} {W : AW} (hs : SecsC W sv v.secs) (hv : v.secs.length < 1000) : omS (.func (.func 46) #[] #[]) [venV v sv] W = some (.tuple #[.int .i64 (seatsE v).1, .int .i64 (seatsE v).2], W) := by
  refine om_drop rfl ?_ venue_Seats_om
  unfold venue_Seats seatsE
  obtain ⟨W1, hB, hle, hn, c4, c0, c3⟩ := venBox v sv W
  have l2 : Le W1 (W1.add (.cells [.int .i64 0])) := (Le.refl W1).add _
  have hr : rwCells (W1.add (.cells [.int .i64 0])) W1.next = some [.int .i64 0] := rwCells_new
  have hn2 : W1.next < (W1.add (.cells [.int .i64 0])).next := by rw [AW.add_next]; omega
  simp only [SX, hB, al3]
  generalize W1.add (.cells [.int .i64 0]) = W2 at *
  simp only [SX, c4 _ l2, venCheck_ok (hs.mono (hle.trans l2)) hv]
  by_cases he : (venE v).2 = 0
  case neg =>
    simp only [SX, he, if_false, stI hr, oRes_L1n, oL3, ldI (rwCells_put _), Option.bind_some, Ok_some]
    exact ⟨trivial, (hle.trans l2).put (by have := hle.next; omega) _⟩
  obtain ⟨hg, -⟩ := venE_good he
  obtain ⟨W3, q1, q2, q3, q4⟩ := rows_fn (v := v) (sv := sv) W2
  have l3 : W1.next < W3.next := by have := q2.next; omega
  simp only [SX, decide_eq_true he, q1, if_pos he]
  refine Ok_rows (hs.mono hle).1 hg (q4 _ ((Le.refl _).add _)) rfl (fun pre W' => Le W1 W' ∧ rwCells W' W1.next = some [.int .i64 (manyS pre)]) (fun _ _ => False) ⟨(l2.trans q2).add _, by rw [rwCells_add _ l3, q2.rwCells hn2]; exact hr⟩ (fun _ _ h => h.1)
    (fun pre W' cs h hl => ⟨h.1.add _, by rw [rwCells_add _ (by omega)]; exact h.2⟩) (fun pre W' o h => ⟨h.1.put (by omega) _, by rw [rwCells_put_ne _ (by omega)]; exact h.2⟩) (fun _ _ _ h => h) 6 ?_ ?_ ?_
  · intro r W' R' hR
    have r17 : R' 17 = rowV r := by rw [hR]; rfl
    rw [venue_Seats_Y1a_eq]
    unfold venue_Seats_Y1a
    simp only [SX, al92, r17, stV4 rwCells_new (one_int _ _) (one_int _ _) (one_int _ _) (one_int _ _), put_add_cells]
    try rfl
  · intro pre r W' b R' hR hpre ⟨h1, h2⟩ hl hb hb1 hb2
    have r2 : R' 2 = .pointer (some ⟨W1.next, 0, none⟩) := by rw [hR]; rfl
    have r6 : R' 6 = .pointer (some ⟨b, 0, none⟩) := by rw [hR]; rfl
    clear hR
    rw [venue_Seats_Y1b_eq]
    unfold venue_Seats_Y1b
    obtain ⟨k1, k2, k3, k4, k5, k6, k7⟩ := row_next hg hpre
    have ea := oBinAddF W' (manyS pre) r.many
    simp only [SX, r2, r6, ldI h2, ldRw (o := 3) hb rfl, ea, stI h2, Nat.zero_add, Ok_some]
    exact ⟨by rw [AW.put_next]; omega, by rw [AW.get_put_ne _ _ (by omega)], .inl ⟨trivial, h1.put (Nat.le_refl _) _, by rw [k7]; exact rwCells_put _⟩⟩
  · rintro x W4 (⟨rfl, h1, h2⟩ | ⟨_, h⟩)
    case inr => exact h.elim
    have h3 : rwCells (W4.kill W3.next) W1.next = some [.int .i64 (manyS (rowsL v.secs))] := by
      rw [← h2]; unfold rwCells; rw [AW.get_kill_ne _ (by omega)]
    simp only [SX, ldI h3, stI h3, oRes_L1n, oL3, ldI (rwCells_put _), Option.bind_some, rows_sum, Ok_some]
    exact ⟨trivial, (hle.trans (h1.kill (by omega))).put (by have := hle.next; omega) _⟩
abbrev rowC (r : RowT) : List Value := [.int .i64 (r.sec : Int), .int .i64 (r.row : Int), .int .i64 r.first, .int .i64 r.many]
theorem find_pre {α : Type} {p : α → Bool} {pre l : List α} {r : α} (h : pre ++ [r] <+: l) (h0 : ∀ x ∈ pre, p x = false) (h1 : p r = true) : l.find? p = some r := by
  obtain ⟨b, rfl⟩ := h
  rw [List.append_assoc, List.find?_append, List.find?_eq_none.2 (fun x hx => by simp [h0 x hx]), List.cons_append, List.find?_cons_of_pos h1]
  rfl
theorem find_no {α : Type} {p : α → Bool} {l : List α} (h0 : ∀ x ∈ l, p x = false) : l.find? p = none := List.find?_eq_none.2 (fun x hx => by simp [h0 x hx])
theorem snoc_all {α : Type} {p : α → Bool} {pre : List α} {r : α} (h0 : ∀ x ∈ pre, p x = false) (h1 : p r = false) : ∀ x ∈ pre ++ [r], p x = false := by
  intro x hx
  rcases List.mem_append.1 hx with h | h
  · exact h0 x h
  · rw [List.mem_singleton.1 h]; exact h1
theorem boxI (n : Int) (W : AW) : ∃ W1, oBox (.int .i64 n) W = some (.pointer (some ⟨W.next, 0, none⟩), W1) ∧ W1.next = W.next + 1 ∧ Le W W1 ∧ rwCells W1 W.next = some [.int .i64 n] :=
  ⟨_, oBox_int _ _, AW.add_next _ _, (Le.refl W).add _, rwCells_new⟩
theorem new3 (W : AW) : ∃ W1, oAlloc Tryz.prog 3 W = some (.pointer (some ⟨W.next, 0, none⟩), W1) ∧ W1.next = W.next + 1 ∧ Le W W1 ∧ rwCells W1 W.next = some [.int .i64 0] := ⟨_, al3 W, AW.add_next _ _, (Le.refl W).add _, rwCells_new⟩
theorem new28 (W : AW) : ∃ W1, oAlloc Tryz.prog 34 W = some (.pointer (some ⟨W.next, 0, none⟩), W1) ∧ W1.next = W.next + 1 ∧ Le W W1 ∧ rwCells W1 W.next = some [.int .i64 0] := ⟨_, al28 W, AW.add_next _ _, (Le.refl W).add _, rwCells_new⟩
theorem new92 (W : AW) : ∃ W1, oAlloc Tryz.prog 152 W = some (.pointer (some ⟨W.next, 0, none⟩), W1) ∧ W1.next = W.next + 1 ∧ Le W W1 ∧ rwCells W1 W.next = some [.int .i64 0, .int .i64 0, .int .i64 0, .int .i64 0] := ⟨_, al92 W, AW.add_next _ _, (Le.refl W).add _, rwCells_new⟩
theorem rw_kill {W : AW} {b c : Nat} (h : b ≠ c) : rwCells (W.kill b) c = rwCells W c := by unfold rwCells; rw [W.get_kill_ne h]
theorem ld4 {b : Nat} {x y z u : Value} {W : AW} (h : rwCells W b = some [x, y, z, u]) : ldA 4 (.pointer (some ⟨b, 0, none⟩)) W = some (.agg #[x, y, z, u], W) := ldA_all (rwCells_cellsAt h) rfl
theorem stV4i {b : Nat} {a c d e : Int} {x y z u : Value} {W : AW} (h : rwCells W b = some [x, y, z, u]) : stV 4 (.pointer (some ⟨b, 0, none⟩)) (.agg #[.int .i64 a, .int .i64 c, .int .i64 d, .int .i64 e]) W = some (undef, W.put b (.cells [.int .i64 a, .int .i64 c, .int .i64 d, .int .i64 e])) := stV4 h rfl rfl rfl rfl
def inRow (seat : Int) (r : RowT) : Bool := decide (r.first ≤ seat) && decide (seat < r.first + r.many)
abbrev zs : List Value := [.int .i64 0, .int .i64 0, .int .i64 0, .int .i64 0]
abbrev row0 : RowT := ⟨0, 0, 0, 0⟩
def findE (v : Ven) (seat : Int) : RowT × Int := if (venE v).2 = 0 then (match (rowsL v.secs).find? (inRow seat) with
  | some r => (r, 0)
  | none => (row0, 4)) else (row0, (venE v).2)
theorem find_ok {v : Ven} {sv : Value} {W : AW} {seat : Int} (hs : SecsC W sv v.secs) (hv : v.secs.length < 1000) : omS (.func (.func 171) #[] #[]) [venV v sv, .int .i64 seat] W = some (.tuple #[rowV (findE v seat).1, .int .i64 (findE v seat).2], W) := by
  refine om_drop rfl ?_ venue_find_om
  unfold venue_find findE
  obtain ⟨W1, hB, hle, hn, c4, c0, c3⟩ := venBox v sv W
  obtain ⟨W2, b2, n2, l2, r2⟩ := boxI seat W1
  obtain ⟨W3, b3, n3, l3, r3⟩ := new92 W2
  obtain ⟨W4, b4, n4, l4, r4⟩ := new28 W3
  have r34 : rwCells W4 W2.next = some [.int .i64 0, .int .i64 0, .int .i64 0, .int .i64 0] := by rw [l4.rwCells (by omega)]; exact r3
  have l24 := l3.trans l4
  have l02 := hle.trans l2
  have hsn := hle.next
  simp only [SX, hB, b2, b3, b4, c4 _ (l2.trans l24), venCheck_ok (hs.mono (l02.trans l24)) hv]
  by_cases he : (venE v).2 = 0
  case neg =>
    have p1 : rwCells (W4.put W2.next (.cells (zs))) W3.next = some [.int .i64 0] := by rw [rwCells_put_ne _ (by omega)]; exact r4
    have p2 : ∀ x, rwCells ((W4.put W2.next (.cells (zs))).put W3.next x) W2.next = some (zs) := fun x => by rw [rwCells_put_ne _ (by omega)]; exact rwCells_put _
    simp only [SX, he, if_false, bd92z, stV4i r34, stI p1, oRes_L2, oL92, oL28, ld4 (p2 _), ldI (rwCells_put _), Option.bind_some, Ok_some]
    exact ⟨rfl, ((l02.trans l24).put (by omega) _).put (by omega) _⟩
  obtain ⟨hg, -⟩ := venE_good he
  obtain ⟨W5, q1, q2, q3, q4⟩ := rows_fn (v := v) (sv := sv) W4
  have hn5 := q2.next
  simp only [SX, decide_eq_true he, q1, if_pos he]
  refine Ok_rows (hs.mono l02).1 hg (q4 _ ((Le.refl _).add _)) rfl (fun pre W' => Le W2 W' ∧ rwCells W' W2.next = some (zs) ∧ rwCells W' W3.next = some [.int .i64 0] ∧ ∀ r ∈ pre, inRow seat r = false)
    (fun x W' => x = .ret ∧ Le W2 W' ∧ ∃ r, (rowsL v.secs).find? (inRow seat) = some r ∧ rwCells W' W2.next = some (rowC r) ∧ rwCells W' W3.next = some [.int .i64 0])
    ⟨(l24.trans q2).add _, by rw [rwCells_add _ (by omega), q2.rwCells (by omega)]; exact r34, by rw [rwCells_add _ (by omega), q2.rwCells (by omega)]; exact r4, by simp⟩ (fun _ _ h => h.1)
    (fun pre W' cs h hl => ⟨h.1.add _, by rw [rwCells_add _ (by omega)]; exact h.2.1, by rw [rwCells_add _ (by omega)]; exact h.2.2.1, h.2.2.2⟩)
    (fun pre W' o h => ⟨h.1.put (by omega) _, by rw [rwCells_put_ne _ (by omega)]; exact h.2.1, by rw [rwCells_put_ne _ (by omega)]; exact h.2.2.1, h.2.2.2⟩)
    (fun x W' o ⟨h1, h2, r, h3, h4, h5⟩ => ⟨h1, h2.put (by omega) _, r, h3, by rw [rwCells_put_ne _ (by omega)]; exact h4, by rw [rwCells_put_ne _ (by omega)]; exact h5⟩) 8 ?_ ?_ ?_
  · intro r W' R' hR
    have r17 : R' 20 = rowV r := by rw [hR]; rfl
    rw [venue_find_Y1a_eq]
    unfold venue_find_Y1a
    simp only [SX, al92, r17, stV4i rwCells_new, put_add_cells]
    try rfl
  · intro pre r W' b R' hR hpre ⟨h1, h2, h3, h4⟩ hl hb hb1 hb2
    have f3 : R' 3 = .pointer (some ⟨W1.next, 0, none⟩) := by rw [hR]; rfl
    have f4 : R' 4 = .pointer (some ⟨W2.next, 0, none⟩) := by rw [hR]; rfl
    have f5 : R' 5 = .pointer (some ⟨W3.next, 0, none⟩) := by rw [hR]; rfl
    have f8 : R' 8 = .pointer (some ⟨b, 0, none⟩) := by rw [hR]; rfl
    clear hR
    rw [venue_find_Y1b_eq]
    unfold venue_find_Y1b
    obtain ⟨k1, k2, k3, k4, k5, k6, k7⟩ := row_next hg hpre
    have ea := oBinAddF W' r.first r.many
    have hse : rwCells W' W1.next = some [.int .i64 seat] := by rw [h1.rwCells (by omega)]; exact r2
    simp only [SX, f3, f8, ldI hse, ldRw (o := 2) hb rfl, Nat.zero_add]
    have hin : inRow seat r = (decide (r.first ≤ seat) && decide (seat < r.first + r.many)) := rfl
    by_cases t1 : r.first ≤ seat
    case neg =>
      rw [decide_eq_false t1, Bool.false_and] at hin
      simp only [SX, t1, Ok_some]
      exact ⟨Nat.le_refl _, trivial, .inl ⟨trivial, h1, h2, h3, snoc_all h4 hin⟩⟩
    simp only [SX, decide_eq_true t1, ldRw (o := 2) hb rfl, ldRw (o := 3) hb rfl, ea]
    by_cases t2 : seat < r.first + r.many
    case neg =>
      rw [decide_eq_false t2, Bool.and_false] at hin
      simp only [SX, t2, Ok_some]
      exact ⟨Nat.le_refl _, trivial, .inl ⟨trivial, h1, h2, h3, snoc_all h4 hin⟩⟩
    rw [decide_eq_true t1, decide_eq_true t2] at hin
    have p1 : rwCells (W'.put W2.next (.cells (rowC r))) W3.next = some [.int .i64 0] := by rw [rwCells_put_ne _ (by omega)]; exact h3
    simp only [SX, decide_eq_true t2, f4, f5, ld4 hb, stV4i h2, stI p1, Ok_some]
    exact ⟨Nat.le_refl _, by rw [AW.get_put_ne _ _ (by omega), AW.get_put_ne _ _ (by omega)], .inr ⟨by simp, trivial, (h1.put (by omega) _).put (by omega) _, r, find_pre hpre h4 hin, by rw [rwCells_put_ne _ (by omega)]; exact rwCells_put _, rwCells_put _⟩⟩
  · rintro x W6 (⟨rfl, h1, h2, h3, h4⟩ | ⟨_, rfl, h1, r, h2, h3, h4⟩)
    · have k2 : rwCells (W6.kill W5.next) W2.next = some (zs) := by rw [rw_kill (by omega)]; exact h2
      have k3 : rwCells ((W6.kill W5.next).put W2.next (.cells (zs))) W3.next = some [.int .i64 0] := by rw [rwCells_put_ne _ (by omega), rw_kill (by omega)]; exact h3
      have p2 : ∀ x, rwCells (((W6.kill W5.next).put W2.next (.cells (zs))).put W3.next x) W2.next = some (zs) := fun x => by rw [rwCells_put_ne _ (by omega)]; exact rwCells_put _
      simp only [SX, bd92z, stV4i k2, stI k3, oRes_L2, oL92, oL28, ld4 (p2 _), ldI (rwCells_put _), Option.bind_some, find_no h4, Ok_some]
      exact ⟨rfl, (((l02.trans h1).kill (by omega)).put (by omega) _).put (by omega) _⟩
    · have k2 : rwCells (W6.kill W5.next) W2.next = some (rowC r) := by rw [rw_kill (by omega)]; exact h3
      have k3 : rwCells (W6.kill W5.next) W3.next = some [.int .i64 0] := by rw [rw_kill (by omega)]; exact h4
      simp only [SX, oRes_L2, oL92, oL28, ld4 k2, ldI k3, Option.bind_some, h2, Ok_some]
      exact ⟨trivial, (l02.trans h1).kill (by omega)⟩
def isSec (sec : Int) (r : RowT) : Bool := decide ((r.sec : Int) = sec)
def fstS : List RowT → Int
  | [] => 0
  | r :: _ => r.first
def ofE (v : Ven) (sec : Int) : Int × Int × Int := if (venE v).2 = 0 then
  if manyS ((rowsL v.secs).filter (isSec sec)) = 0 then (0, 0, 4) else (fstS ((rowsL v.secs).filter (isSec sec)), manyS ((rowsL v.secs).filter (isSec sec)), 0)
  else (0, 0, (venE v).2)
theorem filter_yes {α : Type} {p : α → Bool} {pre : List α} {r : α} (h : p r = true) : (pre ++ [r]).filter p = pre.filter p ++ [r] := by simp [List.filter_append, h]
theorem filter_not {α : Type} {p : α → Bool} {pre : List α} {r : α} (h : p r = false) : (pre ++ [r]).filter p = pre.filter p := by simp [List.filter_append, h]
theorem fstS_snoc {l : List RowT} {r : RowT} (h : l ≠ []) : fstS (l ++ [r]) = fstS l := by
  cases l with
  | nil => exact absurd rfl h
  | cons => rfl
theorem of_ok {v : Ven} {sv : Value} {W : AW} {sec : Int} (hs : SecsC W sv v.secs) (hv : v.secs.length < 1000) : omS (.func (.func 170) #[] #[]) [venV v sv, .int .i64 sec] W = some (.tuple #[.int .i64 (ofE v sec).1, .int .i64 (ofE v sec).2.1, .int .i64 (ofE v sec).2.2], W) := by
  refine om_drop rfl ?_ venue_Of_om
  unfold venue_Of ofE
  obtain ⟨W1, hB, hle, hn, c4, c0, c3⟩ := venBox v sv W
  obtain ⟨W2, b2, n2, l2, r2⟩ := boxI sec W1
  obtain ⟨W3, b3, n3, l3, r3⟩ := new3 W2
  obtain ⟨W4, b4, n4, l4, r4⟩ := new3 W3
  have r34 : rwCells W4 W2.next = some [.int .i64 0] := by rw [l4.rwCells (by omega)]; exact r3
  have l24 := l3.trans l4
  have l02 := hle.trans l2
  have hsn := hle.next
  have e2 : ∀ (W' : AW) a b, rwCells ((W'.put W2.next (.cells a)).put W3.next b) W2.next = some a := fun W' a b => by rw [rwCells_put_ne _ (by omega)]; exact rwCells_put _
  have e3 : ∀ (W' : AW) a, rwCells (W'.put W2.next a) W3.next = rwCells W' W3.next := fun W' a => rwCells_put_ne _ (by omega)
  simp only [SX, hB, b2, b3, b4, c4 _ (l2.trans l24), venCheck_ok (hs.mono (l02.trans l24)) hv]
  by_cases he : (venE v).2 = 0
  case neg =>
    simp only [SX, he, if_false, stI r34, stI ((e3 _ _).trans r4), oRes_L2n, oL3, ldI (e2 _ _ _), ldI (rwCells_put _), Option.bind_some, Ok_some]
    exact ⟨trivial, ((l02.trans l24).put (by omega) _).put (by omega) _⟩
  obtain ⟨hg, -⟩ := venE_good he
  obtain ⟨W5, q1, q2, q3, q4⟩ := rows_fn (v := v) (sv := sv) W4
  have hn5 := q2.next
  simp only [SX, decide_eq_true he, q1, if_pos he]
  refine Ok_rows (hs.mono l02).1 hg (q4 _ ((Le.refl _).add _)) rfl (fun pre W' => Le W2 W' ∧ rwCells W' W2.next = some [.int .i64 (fstS (pre.filter (isSec sec)))] ∧ rwCells W' W3.next = some [.int .i64 (manyS (pre.filter (isSec sec)))])
    (fun x W' => False)
    ⟨(l24.trans q2).add _, by rw [rwCells_add _ (by omega), q2.rwCells (by omega)]; exact r34, by rw [rwCells_add _ (by omega), q2.rwCells (by omega)]; exact r4⟩ (fun _ _ h => h.1)
    (fun pre W' cs h hl => ⟨h.1.add _, by rw [rwCells_add _ (by omega)]; exact h.2.1, by rw [rwCells_add _ (by omega)]; exact h.2.2⟩)
    (fun pre W' o h => ⟨h.1.put (by omega) _, by rw [rwCells_put_ne _ (by omega)]; exact h.2.1, by rw [rwCells_put_ne _ (by omega)]; exact h.2.2⟩)
    (fun x W' o h => h) 9 ?_ ?_ ?_
  · intro r W' R' hR
    have r17 : R' 20 = rowV r := by rw [hR]; rfl
    rw [venue_Of_Y1a_eq]
    unfold venue_Of_Y1a
    simp only [SX, al92, r17, stV4i rwCells_new, put_add_cells]
  · intro pre r W' b R' hR hpre ⟨h1, h2, h3⟩ hl hb hb1 hb2
    have f3 : R' 3 = .pointer (some ⟨W1.next, 0, none⟩) := by rw [hR]; rfl
    have f4 : R' 4 = .pointer (some ⟨W2.next, 0, none⟩) := by rw [hR]; rfl
    have f5 : R' 5 = .pointer (some ⟨W3.next, 0, none⟩) := by rw [hR]; rfl
    have f8 : R' 9 = .pointer (some ⟨b, 0, none⟩) := by rw [hR]; rfl
    clear hR
    rw [venue_Of_Y1b_eq]
    unfold venue_Of_Y1b
    obtain ⟨k1, k2, k3, k4, k5, k6, k7⟩ := row_next hg hpre
    have hse : rwCells W' W1.next = some [.int .i64 sec] := by rw [h1.rwCells (by omega)]; exact r2
    have hmp : ∀ x ∈ pre, 1 ≤ x.many := fun x hx => ((rows_mem (((List.prefix_append pre [r]).trans hpre).subset hx)).many hg).1
    have hms := manyS_pos (l := pre.filter (isSec sec)) (fun x hx => hmp x (List.mem_filter.1 hx).1)
    have hms2 : manyS (pre.filter (isSec sec)) ≤ manyS pre := by
      have : ∀ l : List RowT, (∀ x ∈ l, 1 ≤ x.many) → manyS (l.filter (isSec sec)) ≤ manyS l := by
        intro l
        induction l with
        | nil => intro _; exact Int.le_refl _
        | cons x l ih =>
          intro h
          have := ih fun y hy => h y (by simp [hy])
          have := h x (by simp)
          rw [List.filter_cons]
          split
          · rw [manyS_cons, manyS_cons]; omega
          · rw [manyS_cons]; omega
      exact this _ hmp
    have ea : ∀ W', oBin Tryz.prog .add 3 false false (.int .i64 (manyS (pre.filter (isSec sec)))) (.int .i64 r.many) W' = some (.int .i64 (manyS (pre.filter (isSec sec)) + r.many), W') := fun W' => oBin_add (by omega) (by omega)
    simp only [SX, f3, f8, ldI hse, ldRw (o := 0) hb rfl, Nat.zero_add]
    by_cases t1 : (r.sec : Int) = sec
    case neg =>
      have hin : isSec sec r = false := decide_eq_false t1
      simp only [SX, t1, Ok_some]
      exact ⟨Nat.le_refl _, trivial, .inl ⟨trivial, h1, by rw [filter_not hin]; exact h2, by rw [filter_not hin]; exact h3⟩⟩
    have hin : isSec sec r = true := decide_eq_true t1
    have hms3 : manyS (pre.filter (isSec sec) ++ [r]) = manyS (pre.filter (isSec sec)) + r.many := by rw [manyS_append, manyS_cons, manyS_nil, Int.add_zero]
    simp only [SX, decide_eq_true t1, f5, ldI h3]
    by_cases t2 : manyS (pre.filter (isSec sec)) = 0
    · have hnil : pre.filter (isSec sec) = [] := by
        rw [t2] at hms
        exact List.length_eq_zero_iff.1 (by omega)
      have hb' : rwCells (W'.put W2.next (.cells [.int .i64 r.first])) b = some (rowC r) := by rw [rwCells_put_ne _ (by omega)]; exact hb
      simp only [SX, decide_eq_true t2, f4, ldRw (o := 2) hb rfl, ldRw (o := 3) hb' rfl, stI h2, ldI ((e3 _ _).trans h3), ea, stI ((e3 _ _).trans h3), Ok_some]
      exact ⟨Nat.le_refl _, by rw [AW.get_put_ne _ _ (by omega), AW.get_put_ne _ _ (by omega)], .inl ⟨trivial, (h1.put (by omega) _).put (by omega) _, by rw [e2, filter_yes hin, hnil]; rfl, by rw [rwCells_put, filter_yes hin, hms3]⟩⟩
    · have hne : pre.filter (isSec sec) ≠ [] := fun e => t2 (by rw [e]; rfl)
      simp only [SX, t2, ldRw (o := 3) hb rfl, ea, stI h3, Ok_some]
      exact ⟨Nat.le_refl _, by rw [AW.get_put_ne _ _ (by omega)], .inl ⟨trivial, h1.put (by omega) _, by rw [rwCells_put_ne _ (by omega), filter_yes hin, fstS_snoc hne]; exact h2, by rw [rwCells_put, filter_yes hin, hms3]⟩⟩
  · rintro x W6 (⟨rfl, h1, h2, h3⟩ | ⟨_, h⟩)
    case inr => exact h.elim
    have k2 : rwCells (W6.kill W5.next) W2.next = some [.int .i64 (fstS ((rowsL v.secs).filter (isSec sec)))] := by rw [rw_kill (by omega)]; exact h2
    have k3 : rwCells (W6.kill W5.next) W3.next = some [.int .i64 (manyS ((rowsL v.secs).filter (isSec sec)))] := by rw [rw_kill (by omega)]; exact h3
    simp only [SX, ldI k3]
    by_cases t2 : manyS ((rowsL v.secs).filter (isSec sec)) = 0
    · simp only [SX, decide_eq_true t2, if_pos t2, stI k2, stI ((e3 _ _).trans k3), oRes_L2n, oL3, ldI (e2 _ _ _), ldI (rwCells_put _), Option.bind_some, Ok_some]
      exact ⟨trivial, (((l02.trans h1).kill (by omega)).put (by omega) _).put (by omega) _⟩
    · have hag : agV true (some (.int .i64 (manyS ((rowsL v.secs).filter (isSec sec))), (W6.kill W5.next).put W2.next (.cells [.int .i64 (fstS ((rowsL v.secs).filter (isSec sec)))]))) (.int .i64 (manyS ((rowsL v.secs).filter (isSec sec)))) = true := agV_true rfl (vsame_int _ _)
      simp only [SX, t2, ldI k2, ldI k3, stI k2, ldI ((e3 _ _).trans k3), hag, Bool.and_self, stI ((e3 _ _).trans k3), oRes_L2n, oL3, ldI (e2 _ _ _), ldI (rwCells_put _), Option.bind_some, Ok_some]
      exact ⟨by simp only [if_false], (((l02.trans h1).kill (by omega)).put (by omega) _).put (by omega) _⟩
theorem al65 (W : AW) : oAlloc Tryz.prog 160 W = some (.pointer (some ⟨W.next, 0, none⟩), W.add (.cells [.int .i64 0, .int .i64 0, .int .i64 0])) := Eq.trans (by kernel_rfl) rfl
theorem oL65 (x : Value) (W : AW) : oLoad Tryz.prog 160 x W = ldA 3 x W := by kernel_rfl
theorem bd65z (W : AW) : oBuild Tryz.prog 160 [] W = some (.agg #[.int .i64 0, .int .i64 0, .int .i64 0], W) := Eq.trans (by kernel_rfl) rfl
theorem new65 (W : AW) : ∃ W1, oAlloc Tryz.prog 160 W = some (.pointer (some ⟨W.next, 0, none⟩), W1) ∧ W1.next = W.next + 1 ∧ Le W W1 ∧ rwCells W1 W.next = some [.int .i64 0, .int .i64 0, .int .i64 0] := ⟨_, al65 W, AW.add_next _ _, (Le.refl W).add _, rwCells_new⟩
theorem ld3 {b : Nat} {x y z : Value} {W : AW} (h : rwCells W b = some [x, y, z]) : ldA 3 (.pointer (some ⟨b, 0, none⟩)) W = some (.agg #[x, y, z], W) := ldA_all (rwCells_cellsAt h) rfl
theorem stV3i {b : Nat} {a c d : Int} {x y z : Value} {W : AW} (h : rwCells W b = some [x, y, z]) : stV 3 (.pointer (some ⟨b, 0, none⟩)) (.agg #[.int .i64 a, .int .i64 c, .int .i64 d]) W = some (undef, W.put b (.cells [.int .i64 a, .int .i64 c, .int .i64 d])) := stV3 h rfl rfl rfl
theorem mem_pre {α : Type} {l : List α} {r : α} (h : r ∈ l) : ∃ pre, pre ++ [r] <+: l := by
  obtain ⟨a, b, rfl⟩ := List.append_of_mem h
  exact ⟨a, ⟨b, by simp⟩⟩
theorem row_mem {l : List Sec} (hg : Good l) {r : RowT} (h : r ∈ rowsL l) : RowOf l r ∧ 0 ≤ r.first ∧ r.first + r.many ≤ 8192 ∧ 1 ≤ r.many ∧ r.many ≤ 64 ∧ r.sec < 8 ∧ r.row < 16 := by
  obtain ⟨pre, hp⟩ := mem_pre h
  obtain ⟨k1, k2, k3, k4, k5, k6, k7⟩ := row_next hg hp
  have := k1.many hg
  exact ⟨k1, by omega, by omega, k5, k6, by omega, by omega⟩
theorem findE_zero {v : Ven} {seat : Int} (h : (findE v seat).2 = 0) : (venE v).2 = 0 ∧ (findE v seat).1 ∈ rowsL v.secs ∧ (rowsL v.secs).find? (inRow seat) = some (findE v seat).1 ∧ (findE v seat).1.first ≤ seat ∧ seat < (findE v seat).1.first + (findE v seat).1.many := by
  unfold findE at h ⊢
  by_cases he : (venE v).2 = 0
  · rw [if_pos he] at h ⊢
    cases hf : (rowsL v.secs).find? (inRow seat) with
    | none => rw [hf] at h; exact absurd h (by decide)
    | some r =>
      have hi := List.find?_some hf
      unfold inRow at hi
      simp only [Bool.and_eq_true, decide_eq_true_eq] at hi
      exact ⟨he, List.mem_of_find?_eq_some hf, rfl, hi.1, hi.2⟩
  · rw [if_neg he] at h
    exact absurd h he
def placeE (v : Ven) (seat : Int) : Plc × Int := if (findE v seat).2 = 0 then (((findE v seat).1.sec, (findE v seat).1.row, (seat - (findE v seat).1.first).toNat), 0) else ((0, 0, 0), (findE v seat).2)
abbrev plcV (p : Plc) : Value := .agg #[.int .i64 (p.1 : Int), .int .i64 (p.2.1 : Int), .int .i64 (p.2.2 : Int)]
theorem place_ok {v : Ven} {sv : Value} {W : AW} {seat : Int} (hs : SecsC W sv v.secs) (hv : v.secs.length < 1000) : omS (.func (.func 117) #[] #[]) [venV v sv, .int .i64 seat] W = some (.tuple #[plcV (placeE v seat).1, .int .i64 (placeE v seat).2], W) := by
  refine om_drop rfl ?_ venue_Place_om
  unfold venue_Place placeE
  obtain ⟨W1, hB, hle, hn, c4, c0, c3⟩ := venBox v sv W
  obtain ⟨W2, b2, n2, l2, r2⟩ := new65 W1
  obtain ⟨W3, b3, n3, l3, r3⟩ := new92 W2
  have r23 : ∀ x, rwCells (W3.put W2.next x) W1.next = some [.int .i64 0, .int .i64 0, .int .i64 0] := fun x => by rw [rwCells_put_ne _ (by omega), l3.rwCells (by omega)]; exact r2
  have hsn := hle.next
  have l03 := (hle.trans l2).trans l3
  simp only [SX, hB, b2, b3, c4 _ l2, find_ok (hs.mono (hle.trans l2)) hv, stV4i r3]
  by_cases he : (findE v seat).2 = 0
  case neg =>
    simp only [SX, he, if_false, bd65z, stV3i (r23 _), oRes_L1n, oL65, ld3 (rwCells_put _), Option.bind_some, Ok_some]
    exact ⟨rfl, (l03.put (by omega) _).put (by omega) _⟩
  obtain ⟨h1, h2, h3, h4, h5⟩ := findE_zero he
  obtain ⟨k1, k2, k3, k4, k5, -, -⟩ := row_mem (venE_good h1).1 h2
  have hb := rwCells_put (W := W3) (b := W2.next) (rowC (findE v seat).1)
  have ea : ∀ W', oBin Tryz.prog .sub 3 false false (.int .i64 seat) (.int .i64 (findE v seat).1.first) W' = some (.int .i64 (seat - (findE v seat).1.first), W') := fun W' => oBin_sub (by omega) (by omega)
  have et : ((seat - (findE v seat).1.first).toNat : Int) = seat - (findE v seat).1.first := Int.toNat_of_nonneg (by omega)
  simp only [SX, decide_eq_true he, if_pos he, Nat.zero_add, ldRw (o := 0) hb rfl, ldRw (o := 1) hb rfl, ldRw (o := 2) hb rfl, ea, bd65, stV3i (r23 _), oRes_L1n, oL65, ld3 (rwCells_put _), Option.bind_some, Ok_some]
  exact ⟨by simp only [plcV]; rw [et], (l03.put (by omega) _).put (by omega) _⟩
def shardE (v : Ven) (seat : Int) : Int × Int := if (findE v seat).2 = 0 then (seat % v.sh, 0) else (0, (findE v seat).2)
theorem headBad_sh {v : Ven} (h : headBad v = false) : 1 ≤ v.sh ∧ v.sh ≤ 16 := by
  unfold headBad outB at h
  simp only [Bool.or_eq_false_iff, decide_eq_false_iff_not] at h
  omega
theorem venE_sh {v : Ven} (h : (venE v).2 = 0) : 1 ≤ v.sh ∧ v.sh ≤ 16 := headBad_sh (venE_good h).2.1
theorem shard_ok {v : Ven} {sv : Value} {W : AW} {seat : Int} (hs : SecsC W sv v.secs) (hv : v.secs.length < 1000) : omS (.func (.func 119) #[] #[]) [venV v sv, .int .i64 seat] W = some (.tuple #[.int .i64 (shardE v seat).1, .int .i64 (shardE v seat).2], W) := by
  refine om_drop rfl ?_ venue_Shard_om
  unfold venue_Shard shardE
  obtain ⟨W1, hB, hle, hn, c4, c0, c3⟩ := venBox v sv W
  obtain ⟨W3, b3, n3, l3, r3⟩ := new92 W1
  have hsn := hle.next
  simp only [SX, hB, b3, c4 _ (.refl _), find_ok (hs.mono hle) hv, stV4i r3]
  by_cases he : (findE v seat).2 = 0
  case neg =>
    simp only [SX, he, if_false, Ok_some]
    exact ⟨trivial, (hle.trans l3).put (by omega) _⟩
  obtain ⟨h1, h2, h3, h4, h5⟩ := findE_zero he
  obtain ⟨k1, k2, k3, k4, k5, -, -⟩ := row_mem (venE_good h1).1 h2
  have hsh := venE_sh h1
  have ea : ∀ W', oBin Tryz.prog .rem 3 false false (.int .i64 seat) (.int .i64 v.sh) W' = some (.int .i64 (seat % v.sh), W') := fun W' => by
    rw [oBin_rem (by omega), Int.tmod_eq_emod_of_nonneg (by omega)]
  simp only [SX, decide_eq_true he, if_pos he, Nat.zero_add, c0 _ (l3.put (Nat.le_refl _) _), ea, Ok_some]
  exact ⟨trivial, (hle.trans l3).put (by omega) _⟩
def lockE (v : Ven) (sec : Int) : Int × Int := if (ofE v sec).2.2 = 0 then (v.sh + sec, 0) else (0, (ofE v sec).2.2)
theorem ofE_zero {v : Ven} {sec : Int} (h : (ofE v sec).2.2 = 0) : (venE v).2 = 0 ∧ 0 ≤ sec ∧ sec < v.secs.length ∧ ∃ r l, (rowsL v.secs).filter (isSec sec) = r :: l ∧ (ofE v sec) = (r.first, manyS ((rowsL v.secs).filter (isSec sec)), 0) := by
  unfold ofE at h ⊢
  by_cases he : (venE v).2 = 0
  · rw [if_pos he] at h ⊢
    by_cases h2 : manyS ((rowsL v.secs).filter (isSec sec)) = 0
    · rw [if_pos h2] at h; exact absurd h (by decide)
    · rw [if_neg h2]
      cases hf : (rowsL v.secs).filter (isSec sec) with
      | nil => rw [hf] at h2; exact absurd rfl h2
      | cons r l =>
        have hr : r ∈ (rowsL v.secs).filter (isSec sec) := by rw [hf]; simp
        obtain ⟨m1, m2⟩ := List.mem_filter.1 hr
        obtain ⟨hi, -, -⟩ := rows_mem m1
        have : (r.sec : Int) = sec := of_decide_eq_true m2
        exact ⟨he, by omega, by omega, r, l, rfl, rfl⟩
  · rw [if_neg he] at h
    exact absurd h he
theorem lock_ok {v : Ven} {sv : Value} {W : AW} {sec : Int} (hs : SecsC W sv v.secs) (hv : v.secs.length < 1000) : omS (.func (.func 118) #[] #[]) [venV v sv, .int .i64 sec] W = some (.tuple #[.int .i64 (lockE v sec).1, .int .i64 (lockE v sec).2], W) := by
  refine om_drop rfl ?_ venue_Lock_om
  unfold venue_Lock lockE
  obtain ⟨W1, hB, hle, hn, c4, c0, c3⟩ := venBox v sv W
  simp only [SX, hB, c4 _ (.refl _), of_ok (hs.mono hle) hv]
  by_cases he : (ofE v sec).2.2 = 0
  case neg =>
    simp only [SX, he, if_false, Ok_some]
    exact ⟨trivial, hle⟩
  obtain ⟨h1, h2, h3, -⟩ := ofE_zero he
  have hsh := venE_sh h1
  have ea : ∀ W', oBin Tryz.prog .add 3 false false (.int .i64 v.sh) (.int .i64 sec) W' = some (.int .i64 (v.sh + sec), W') := fun W' => oBin_add (by omega) (by omega)
  simp only [SX, decide_eq_true he, if_pos he, Nat.zero_add, c0 _ (.refl _), ea, Ok_some]
  exact ⟨trivial, hle⟩
theorem min_ok (a b : Int) (W : AW) : oBuiltin Tryz.prog .min #[3, 3] 3 #[false, false] [.int .i64 a, .int .i64 b] W = some (.int .i64 (min a b), W) := by
  have e : oBuiltin Tryz.prog .min #[3, 3] 3 #[false, false] [.int .i64 a, .int .i64 b] W = (pureS Tryz.prog ([Value.int .i64 a, .int .i64 b].all plain) (builtin .min #[3, 3] 3 #[false, false] #[.int .i64 a, .int .i64 b])).map fun v => (v, W) := by
    unfold oBuiltin
    rfl
  rw [e]
  have e2 : builtin .min #[3, 3] 3 #[false, false] #[.int .i64 a, .int .i64 b] = (do pure (.value (← Builtin.min_ #[3, 3] 3 #[.int .i64 a, .int .i64 b]))) := rfl
  rw [e2]
  refine pureV ?_ rfl _ rfl
  unfold Builtin.min_
  simp only [List.foldlM_cons, List.foldlM_nil, pureRun_bind, Builtin.min2, pureRun_pure, Option.bind_some]
  congr 2
  by_cases h : b < a
  · rw [if_pos h]; omega
  · rw [if_neg h]; omega
theorem bs38 (a : Int) (W : AW) : oBuildSlice Tryz.prog 40 1 [(0, .int .i64 a)] W = some (.slice (some ⟨W.next, 0, none⟩) 1 1, W.add (.cells [.int .i64 a])) := Eq.trans (by kernel_rfl) rfl
theorem ap38 : appOk Tryz.prog #[40, 40] 1 8 = true := by kernel_rfl
def covL (sh first : Int) (n : Nat) : List Int := (List.range n).map fun (i : Nat) => (first + (i : Int)) % sh
theorem covL_succ (sh first : Int) (n : Nat) : covL sh first (n + 1) = covL sh first n ++ [(first + (n : Int)) % sh] := by simp [covL, List.range_succ]
theorem covL_len (sh first : Int) (n : Nat) : (covL sh first n).length = n := by simp [covL]
def coverE (v : Ven) (sec : Int) : List Int × Int := if (ofE v sec).2.2 = 0 then (sortL (covL v.sh (ofE v sec).1 (min (ofE v sec).2.1 v.sh).toNat), 0) else ([], (ofE v sec).2.2)
theorem ofE_bound {v : Ven} {sec : Int} (h : (ofE v sec).2.2 = 0) : 0 ≤ (ofE v sec).1 ∧ (ofE v sec).1 ≤ 8192 ∧ 1 ≤ (ofE v sec).2.1 ∧ (ofE v sec).2.1 ≤ 8192 := by
  obtain ⟨h1, h2, h3, r, l, h4, h5⟩ := ofE_zero h
  have hg := (venE_good h1).1
  have hr : r ∈ (rowsL v.secs).filter (isSec sec) := by rw [h4]; simp
  obtain ⟨k1, k2, k3, k4, k5, -, -⟩ := row_mem hg (List.mem_filter.1 hr).1
  have hm : ∀ x ∈ rowsL v.secs, 1 ≤ x.many := fun x hx => ((rows_mem hx).many hg).1
  have hms2 : ∀ l : List RowT, (∀ x ∈ l, 1 ≤ x.many) → manyS (l.filter (isSec sec)) ≤ manyS l := by
    intro l
    induction l with
    | nil => intro _; exact Int.le_refl _
    | cons x l ih =>
      intro h
      have := ih fun y hy => h y (by simp [hy])
      have := h x (by simp)
      rw [List.filter_cons]
      split
      · rw [manyS_cons, manyS_cons]; omega
      · rw [manyS_cons]; omega
  have hle := hms2 _ hm
  rw [rows_sum] at hle
  have := total_max hg
  have hpos := manyS_pos (l := (rowsL v.secs).filter (isSec sec)) (fun x hx => hm x (List.mem_filter.1 hx).1)
  rw [h4, List.length_cons] at hpos
  rw [← h4] at hpos
  rw [h5]
  exact ⟨k2, by omega, by simp only; omega, by simp only; omega⟩
theorem cover_ok {v : Ven} {sv : Value} {W : AW} {sec : Int} (hs : SecsC W sv v.secs) (hv : v.secs.length < 1000) : ∃ u W2, omS (.func (.func 116) #[] #[]) [venV v sv, .int .i64 sec] W = some (.tuple #[u, .int .i64 (coverE v sec).2], W2) ∧ Le W W2 ∧ Ints W2 u (coverE v sec).1 := by
  refine om_row2 ?_ venue_Cover_om
  unfold venue_Cover coverE
  obtain ⟨W1, hB, hle, hn, c4, c0, c3⟩ := venBox v sv W
  have hsn := hle.next
  simp only [SX, hB, c4 _ (.refl _), of_ok (hs.mono hle) hv]
  by_cases he : (ofE v sec).2.2 = 0
  case neg =>
    simp only [SX, he, if_false, Ok_some]
    exact ⟨_, rfl, hle, Row.nil⟩
  obtain ⟨h1, h2, h3, -⟩ := ofE_zero he
  obtain ⟨b1, b2, b3, b4⟩ := ofE_bound he
  have hsh := venE_sh h1
  generalize hfm : ofE v sec = fm at *
  obtain ⟨fi, ma, er⟩ := fm
  simp only at he b1 b2 b3 b4 ⊢
  subst he
  simp only [SX, if_true, Nat.zero_add, c0 _ (.refl _), min_ok]
  obtain ⟨n, hn2⟩ : ∃ n : Nat, (n : Int) = min ma v.sh := ⟨(min ma v.sh).toNat, by omega⟩
  have hn3 : (min ma v.sh).toNat = n := by omega
  rw [← hn2]
  refine Ok_loop n (by omega) (fun i R W' => Le W1 W' ∧ R 2 = .pointer (some ⟨W.next, 0, none⟩) ∧ R 6 = .int .i64 fi ∧ R 24 = .int .i64 (n : Int) ∧ R 25 = .int .i64 (i : Int) ∧ ∃ u, R 9 = u ∧ Lst W1.next W' 1 intC u (covL v.sh fi i))
    (fun r => Le W1 r.2.2 ∧ r.1 = .exit 0 ∧ ∃ u, r.2.1 9 = u ∧ Lst W1.next r.2.2 1 intC u (covL v.sh fi n)) ⟨.refl _, rfl, rfl, rfl, rfl, _, rfl, .nil _ _ _ _⟩ ?_ ?_ ?_
  · rintro i R W' hi ⟨hl, f2, f6, f24, f25, u, f9, hL⟩
    unfold venue_Cover_L1
    have e1 : ((i : Int) < (n : Int)) := by omega
    have e2 : (i : Int) + 1 = ((i + 1 : Nat) : Int) := by omega
    have ea : ∀ W', oBin Tryz.prog .add 3 false false (.int .i64 fi) (.int .i64 (i : Int)) W' = some (.int .i64 (fi + (i : Int)), W') := fun W' => oBin_add (by omega) (by omega)
    have er : ∀ W', oBin Tryz.prog .rem 3 false false (.int .i64 (fi + (i : Int))) (.int .i64 v.sh) W' = some (.int .i64 ((fi + (i : Int)) % v.sh), W') := fun W' => by
      rw [oBin_rem (by omega), Int.tmod_eq_emod_of_nonneg (by omega)]
    have eb : ∀ W', oBin Tryz.prog .add 3 false true (.int .i64 (i : Int)) (.int .i64 1) W' = some (.int .i64 ((i + 1 : Nat) : Int), W') := fun W' => by rw [← e2]; exact oBin_add (by omega) (by omega)
    have hLm := hL.mono ((Le.refl W').add (.cells [.int .i64 ((fi + (i : Int)) % v.sh)]))
    obtain ⟨v', W2, q1, q2, q3, q4⟩ := Lst.push (P := Tryz.prog) (a := (fi + (i : Int)) % v.sh) (b := W'.next) (c := 1) ap38 intC_len intC_one hLm cellsAt_new (by rw [covL_len]; omega) (by rw [covL_len]; omega) (by rw [AW.add_next]; have := hl.next; omega)
    simp only [SX, f2, f6, f9, f24, f25, e1, ea, Nat.zero_add, c0 _ hl, er, bs38, q1, eb, Ok_some]
    refine .inl ⟨trivial, q4 _ (hl.add _) (Nat.le_refl _), f2, f6, f24, rfl, _, rfl, ?_⟩
    rw [covL_succ]
    exact q2
  · rintro R W' ⟨hl, f2, f6, f24, f25, u, f9, hL⟩
    unfold venue_Cover_L1
    have e1 : ¬ ((n : Int) < (n : Int)) := by omega
    simp only [SX, f24, f25, e1, Ok_some]
    exact ⟨by simp, hl, trivial, u, f9, hL⟩
  · rintro ⟨x, R, W'⟩ ⟨hl, hx, u, f9, hL⟩
    simp only at hl hx f9 hL
    subst hx
    have hne : covL v.sh fi n ≠ [] := fun e => by have := covL_len v.sh fi n; rw [e] at this; simp at this; omega
    obtain ⟨W2, s1, s2, s3, s4⟩ := hL.sort hne (by rw [covL_len]; omega)
    simp only [SX, f9, sort_ok s1, Ok_some]
    exact ⟨_, rfl, hle.trans (s4 _ hl (Nat.le_refl _)), by rw [Int.toNat_natCast]; exact s2.ints⟩
theorem Plcs.get {W : AW} {v : Value} {l : List Plc} (h : Plcs W v l) {i : Nat} (hi : i < l.length) : ∃ b o, (∀ W' k, ixS 3 v (.int k (i : Int)) W' = some (.pointer (some ⟨b, o, none⟩), W')) ∧
    ∀ W', Le W W' → ldC (.pointer (some ⟨b, o, none⟩)) W' = some (.int .i64 (l[i].1 : Int), W') ∧ ldC (.pointer (some ⟨b, o + 1, none⟩)) W' = some (.int .i64 (l[i].2.1 : Int), W') ∧ ldA 3 (.pointer (some ⟨b, o, none⟩)) W' = some (plcV l[i], W') := by
  obtain ⟨a, c, rfl, h⟩ := h
  rcases h with rfl | ⟨b, o, cs, rfl, hb, hc, hat⟩
  · simp at hi
  · refine ⟨b, o + i * 3, fun W' k => ixS_ok hi, fun W' hle => ?_⟩
    have hc' := (hle.cellsAt hb).trans hc
    obtain ⟨h1, h2, h3⟩ := hat i hi
    refine ⟨ldC_ok hc' h1, ldC_ok hc' h2, ?_⟩
    have := take3 h1 h2 h3
    rw [ldA_eq, hc', Option.bind_some, this]
    rfl
theorem wnt_undef (b : Bool) : wnt undef b = false := Eq.trans (by unfold wnt undef; rfl) rfl
def fidx {α : Type} (p : α → Bool) (l : List α) : Nat := if (l.filter p).length = 0 then 0 else l.findIdx p
theorem fidx_snoc {α : Type} {p : α → Bool} {l : List α} {a : α} : fidx p (l ++ [a]) = if p a = true ∧ (l.filter p).length = 0 then l.length else fidx p l := by
  unfold fidx
  cases ha : p a with
  | false => rw [filter_not ha]; simp only [Bool.false_eq_true, false_and, if_false]
             by_cases h : (l.filter p).length = 0
             · rw [if_pos h, if_pos h]
             · rw [if_neg h, if_neg h]
               have : l.findIdx p < l.length := by
                 rw [List.findIdx_lt_length]
                 obtain ⟨x, hx⟩ := List.exists_mem_of_length_pos (Nat.pos_of_ne_zero h)
                 exact ⟨x, (List.mem_filter.1 hx).1, (List.mem_filter.1 hx).2⟩
               rw [List.findIdx_append, if_pos this]
  | true =>
    rw [filter_yes ha]
    by_cases h : (l.filter p).length = 0
    · simp only [h, and_self, if_true, List.length_append, List.length_cons, List.length_nil]
      have hn : l.findIdx p = l.length := by
        rw [List.findIdx_eq_length]
        intro x hx
        cases hp : p x with
        | false => rfl
        | true =>
          have : x ∈ l.filter p := List.mem_filter.2 ⟨hx, hp⟩
          rw [List.length_eq_zero_iff.1 h] at this
          cases this
      rw [if_neg (by omega), List.findIdx_append, if_neg (by omega)]
      simp [List.findIdx_cons, ha]
    · simp only [h, and_false, if_false]
      have : l.findIdx p < l.length := by
        rw [List.findIdx_lt_length]
        obtain ⟨x, hx⟩ := List.exists_mem_of_length_pos (Nat.pos_of_ne_zero h)
        exact ⟨x, (List.mem_filter.1 hx).1, (List.mem_filter.1 hx).2⟩
      rw [if_neg (by rw [List.length_append]; simp), List.findIdx_append, if_pos this]
def isSecP (sec : Int) (q : Plc) : Bool := decide ((q.1 : Int) = sec)
def refOfE (v : Ven) (sec : Int) : Int × Int × Int := if (venE v).2 = 0 then
  if ((places v.secs).filter (isSecP sec)).length = 0 then (0, 0, 4) else ((fidx (isSecP sec) (places v.secs) : Nat), (((places v.secs).filter (isSecP sec)).length : Nat), 0)
  else (0, 0, (venE v).2)
theorem some21_ok {v : Ven} {sv : Value} {W : AW} {sec : Int} (hs : Secs W sv v.secs) (hv : v.secs.length < 1000) (hr : ∀ s ∈ v.secs, s.rows.length < 1000) : omS (.func (.func 233) #[] #[]) [venV v sv, .int .i64 sec, .int .i64 (-1)] W = some (.tuple #[.int .i64 (refOfE v sec).1, .int .i64 (refOfE v sec).2.1, .int .i64 (refOfE v sec).2.2], W) := by
  refine om_drop rfl ?_ ref15_some_om
  unfold ref15_some refOfE
  obtain ⟨W1, hB, hle, hn, c4, c0, c3⟩ := venBox v sv W
  simp only [SX, hB, c4 _ (.refl _), refVen_ok (hs.mono hle) hv hr]
  by_cases he : (venE v).2 = 0
  case neg =>
    simp only [SX, he, if_false, Ok_some]
    exact ⟨trivial, hle⟩
  obtain ⟨hg, -⟩ := venE_good he
  obtain ⟨r, W2, q1, q2, q3⟩ := Places_ok (hs.mono hle) hg
  have hpl := places_len hg
  have htm := total_max hg
  simp only [SX, decide_eq_true he, if_pos he, q1]
  have add1 : ∀ (k : Nat) (W' : AW), k < 1000000 → oBin Tryz.prog .add 3 false true (.int .i64 (k : Int)) (.int .i64 1) W' = some (.int .i64 ((k + 1 : Nat) : Int), W') := fun k W' hk => oBin_add (by omega) (by omega)
  generalize hl : places v.secs = l at *
  have hcb : ∀ i, ((l.take i).filter (isSecP sec)).length ≤ l.length := fun i => Nat.le_trans (List.length_filter_le _ _) (by rw [List.length_take]; omega)
  refine Ok_loop l.length (by omega) (fun i R W' => W' = W2 ∧ R 1 = .int .i64 sec ∧ R 2 = .int .i64 (-1) ∧ R 11 = .int .i64 ((fidx (isSecP sec) (l.take i) : Nat) : Int) ∧ R 12 = .int .i64 (((l.take i).filter (isSecP sec)).length : Int) ∧ R 13 = r ∧ R 14 = .int .i64 (i : Int))
    (fun q => q.2.2 = W2 ∧ q.1 = .exit 0 ∧ q.2.1 11 = .int .i64 ((fidx (isSecP sec) l : Nat) : Int) ∧ q.2.1 12 = .int .i64 ((l.filter (isSecP sec)).length : Int)) ⟨rfl, rfl, rfl, rfl, rfl, rfl, rfl⟩ ?_ ?_ ?_
  · rintro i R W' hi ⟨rfl, f1, f2, f11, f12, f13, f14⟩
    unfold ref15_some_L1
    have e1 : ((i : Int) < (l.length : Int)) := by omega
    obtain ⟨b, o, p1, p2⟩ := q3.get hi
    obtain ⟨p3, p4, p5⟩ := p2 W' (.refl _)
    have ht : l.take (i + 1) = l.take i ++ [l[i]] := by rw [List.take_add_one, List.getElem?_eq_getElem hi]; rfl
    have hti : (l.take i).length = i := by rw [List.length_take]; omega
    have hfs := fidx_snoc (p := isSecP sec) (l := l.take i) (a := l[i])
    rw [hti, ← ht] at hfs
    simp only [SX, f1, f2, f13, f14, q3.len lenP, e1, p1, Nat.add_zero, p3]
    by_cases t1 : (l[i].1 : Int) = sec
    case neg =>
      have hp : isSecP sec l[i] = false := decide_eq_false t1
      rw [hp] at hfs
      simp only [Bool.false_eq_true, false_and, if_false] at hfs
      simp only [SX, t1, wnt_undef, add1 i _ (by omega), Ok_some]
      exact .inl ⟨trivial, trivial, f1, f2, by rw [hfs]; exact f11, by rw [ht, filter_not hp]; exact f12, f13, rfl⟩
    have hp : isSecP sec l[i] = true := decide_eq_true t1
    rw [hp] at hfs
    simp only [true_and] at hfs
    have hc := hcb i
    simp only [SX, decide_eq_true t1, f12]
    by_cases t2 : ((l.take i).filter (isSecP sec)).length = 0
    · have t3 : (((l.take i).filter (isSecP sec)).length : Int) = 0 := by omega
      rw [if_pos t2] at hfs
      simp only [SX, decide_eq_true t3, add1 i _ (by omega), add1 ((l.take i).filter (isSecP sec)).length _ (by omega), Ok_some]
      refine .inl ⟨trivial, trivial, f1, f2, by rw [hfs]; rfl, ?_, f13, rfl⟩
      rw [ht, filter_yes hp, List.length_append]; rfl
    · have t3 : ¬ (((l.take i).filter (isSecP sec)).length : Int) = 0 := by omega
      rw [if_neg t2] at hfs
      simp only [SX, t3, add1 i _ (by omega), add1 ((l.take i).filter (isSecP sec)).length _ (by omega), Ok_some]
      refine .inl ⟨trivial, trivial, f1, f2, by rw [hfs]; exact f11, ?_, f13, rfl⟩
      rw [ht, filter_yes hp, List.length_append]; rfl
  · rintro R W' ⟨rfl, f1, f2, f11, f12, f13, f14⟩
    unfold ref15_some_L1
    have e1 : ¬ ((l.length : Int) < (l.length : Int)) := by omega
    rw [List.take_length] at f11 f12
    simp only [SX, f13, f14, q3.len lenP, e1, Ok_some]
    exact ⟨by simp, trivial, trivial, f11, f12⟩
  · rintro ⟨x, R, W'⟩ ⟨hW, hx, f11, f12⟩
    simp only at hW hx f11 f12
    subst hW; subst hx
    simp only [SX, f12]
    by_cases t2 : (l.filter (isSecP sec)).length = 0
    · have t3 : ((l.filter (isSecP sec)).length : Int) = 0 := by omega
      simp only [SX, decide_eq_true t3, if_pos t2, Ok_some]
      exact ⟨trivial, hle.trans q2⟩
    · have t3 : ¬ ((l.filter (isSecP sec)).length : Int) = 0 := by omega
      simp only [SX, t3, if_neg t2, f11, Ok_some]
      exact ⟨trivial, hle.trans q2⟩
theorem refOf_ok {v : Ven} {sv : Value} {W : AW} {sec : Int} (hs : Secs W sv v.secs) (hv : v.secs.length < 1000) (hr : ∀ s ∈ v.secs, s.rows.length < 1000) : omS (.func (.func 172) #[] #[]) [venV v sv, .int .i64 sec] W = some (.tuple #[.int .i64 (refOfE v sec).1, .int .i64 (refOfE v sec).2.1, .int .i64 (refOfE v sec).2.2], W) := by
  refine om_drop rfl ?_ ref15_Of_om
  unfold ref15_Of
  obtain ⟨W1, hB, hle, hn, c4, c0, c3⟩ := venBox v sv W
  simp only [SX, hB, c4 _ (.refl _), some21_ok (hs.mono hle) hv hr, Ok_some]
  exact ⟨trivial, hle⟩
end Go.Proofs.YthjakbhkmpdblaaGreatDoor
