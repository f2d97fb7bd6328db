/- A part: contracts and laws. -/
import Derived.Test.YtekljimefjclgaaGreatDoorPartB
set_option linter.unusedVariables false
set_option linter.unusedSimpArgs false
set_option linter.unusedSectionVars false
set_option linter.defProp false
noncomputable section
open Go renaming TypeId->ai,Value->ae,undef->ag
set_option maxRecDepth 100000
namespace Go.Proofs.YtekljimefjclgaaGreatDoor
open Go Go.Eng
instance opens:ak:=aaV (λid ops=>T.get (path (Hq id ops)) tab) [0]
def Sp(i:Nat):Code:=MS Tryz.prog i
def pL(c:UInt8):Bool:=decide (97<=c.toNat)&&decide (c.toNat<=122)||decide (48<=c.toNat)&&decide (c.toNat<=57)||c.toNat==45
def qc(l:List UInt8):Bool:=match l with
 |[]=>false
 |c::_=>decide (97<=c.toNat)&&decide (c.toNat<=122)&&decide (l.length<=16)&&l.all pL
def G4:List ae->Option ae
 |[]=>some (.bool true)
 |_=>none
def Us:List Nat:=[2,7,75,165,174,227]
def specs:Eng.Callee:=OW [(7,Cz 7 kT G4),(75,chk 75),(165,Eb 165)]
def bm:Eng.Callee:=om Tryz.prog Us specs
abbrev GW(W:AW):Prop:=Dg kT W
def GW.cells{W:AW}(h:GW W):aL W 0=some rz:=CR (h (0,rz) (by simp[kT])).1
def GW.pos{W:AW}(h:GW W):0<W.next:=(h (0,rz) (by simp[kT])).2
def Jq{W:AW}(h:GW W):bm (.func (.func 7) #[] #[]) [] W=some (.bool true,W):=by have h0:Cz 7 kT G4 (.func (.func 7) #[] #[]) [] W=some (.bool true,W):=S5 h rfl rfl rfl;have h1:specs (.func (.func 7) #[] #[]) [] W=some (.bool true,W):=h0;have h2:=G8 (P:=Tryz.prog) (bad:=Us) (spec:=specs) (i:=7) (by decide) h1;rw[wS (.refl _)]at h2;exact h2
def XM{W W':AW}{args:List ae}(h:mG W args W'):bm (.func (.func 165) #[] #[]) args W=some (.tuple #[],W'):=by have h0:Eb 165 (.func (.func 165) #[] #[]) args W=some (.tuple #[],W'):=WS h;have h1:specs (.func (.func 165) #[] #[]) args W=some (.tuple #[],W'):=h0;have h2:=G8 (P:=Tryz.prog) (bad:=Us) (spec:=specs) (i:=165) (by decide) h1;rw[wH rfl]at h2;exact h2
def sG(k ow un se sc n to t1 t2 t3 t4 nw:Int):Int:=if k<1\/12<k then 2 else JB ow un se sc n to t1 t2 t3 t4 nw (Nd.getD k.toNat 0)
def yn(k ow un se sc n to t1 t2 t3 t4 nw:Int){W:AW}(h:GW W):bm (.func (.func 75) #[] #[]) [.agg (fy k ow un se sc n to t1 t2 t3 t4 nw)] W=some (.af (sG k ow un se sc n to t1 t2 t3 t4 nw),W):=by
 have h1:specs (.func (.func 75) #[] #[]) [.agg (fy k ow un se sc n to t1 t2 t3 t4 nw)] W=some (.af (sG k ow un se sc n to t1 t2 t3 t4 nw),W):=by
  show chk 75 (.func (.func 75) #[] #[]) [.agg (fy k ow un se sc n to t1 t2 t3 t4 nw)] W=_;unfold chk fy;simp only[pX,Array.isEmpty_empty,uV,HP];unfold sG;by_cases hk:k<1\/12<k
  ·have hd:(decide (k<1)||decide (12<k))=true:=by simpa using hk
   rw[ax hk];simp only[hd]
  ·have hd:(decide (k<1)||decide (12<k))=false:=by simp;omega
   rw[ay hk];simp only[hd,(h (0,rz) (by simp[kT])).1];have HB:k.toNat<13:=by omega
   have:rz[k.toNat]? =some (.af (Nd.getD k.toNat 0)):=by unfold rz;rw[jh];have h13:Nd.length=13:=rfl;rw[cL (by omega),iz,cL (by omega)];rfl
   simp only[this]
 have h2:=G8 (P:=Tryz.prog) (bad:=Us) (spec:=specs) (i:=75) (by decide) h1;rw[adh (.refl _)]at h2;exact h2
def cQ(W:AW)(a b:Int)(h1: -9223372036854775808<=a+b:=by omega)(h2:a+b<9223372036854775808:=by omega):aw Tryz.prog .add 3 false true (.af a) (.af b) W=some (.af (a+b),W):=da h1 h2
def ud(W:AW)(a b:Int)(h1: -9223372036854775808<=a+b:=by omega)(h2:a+b<9223372036854775808:=by omega):aw Tryz.prog .add 3 false false (.af a) (.af b) W=some (.af (a+b),W):=da h1 h2
def UR(W:AW)(a b:Int)(h1: -9223372036854775808<=a-b:=by omega)(h2:a-b<9223372036854775808:=by omega):aw Tryz.prog .sub 3 false true (.af a) (.af b) W=some (.af (a-b),W):=mC h1 h2
def agx(W:AW)(a b:Int)(h1: -9223372036854775808<=a-b:=by omega)(h2:a-b<9223372036854775808:=by omega):aw Tryz.prog .sub 3 false false (.af a) (.af b) W=some (.af (a-b),W):=mC h1 h2
def dI(call:Eng.Callee)(J1 J3:ae)(W:AW):Option (ae×AW):=ah (bA 12 J3 W) λr9=>ah (bA 12 J1 r9.2) λbw=>ah (aw Tryz.prog .neq 41 false false r9.1 bw.1 bw.2) λbB=>bg bB.1 (aF Tryz.prog [((.af 2),none)] bB.2) (aF Tryz.prog [((.af 0),none)] bB.2)
def kI(call:Eng.Callee)(J1 J3 J8 J72:ae)(W:AW):Option (ae×AW):=bg J72 (ah (aO 1 J1 W) λHk=>ah (aK Hk.1 Hk.2) λFl=>ah (aO 2 J1 Fl.2) λIa=>ah (aK Ia.1 Ia.2) λID=>ah (aO 4 J1 ID.2) λE2=>ah (aK E2.1 E2.2) λH6=>ah (aO 1 J3 H6.2) λM8=>ah (bP 1 M8.1 Fl.1 M8.2) λIj=>aQ (rE true (aK E2.1 Ij.2) H6.1&&(rE true (aK Ia.1 Ij.2) ID.1&&true)) (ah (aO 2 J3 Ij.2) λPT=>ah (bP 1 PT.1 ID.1 PT.2) λOA=>aQ (rE true (aK E2.1 OA.2) H6.1&&true) (ah (aO 4 J3 OA.2) λRL=>ah (bP 1 RL.1 H6.1 RL.2) λr92=>dI call J1 J3 r92.2) none) none) (ah (aw Tryz.prog .eql 3 false true J8 (.af 12) W) λNJ=>bg NJ.1 (ah (aO 11 J1 NJ.2) λK9=>ah (aK K9.1 K9.2) λRm=>ah (aO 11 J3 Rm.2) λON=>ah (bP 1 ON.1 Rm.1 ON.2) λWV=>dI call J1 J3 WV.2) (aF Tryz.prog [((.af 2),none)] NJ.2))
def gT(call:Eng.Callee)(J1 J3 J8 J14:ae)(W:AW):Option (ae×AW):=bg J14 (ah (aO 1 J1 W) λcj=>ah (aK cj.1 cj.2) λcd=>ah (aO 2 J1 cd.2) λbO=>ah (aK bO.1 bO.2) λbW=>ah (aO 3 J1 bW.2) λcz=>ah (aK cz.1 cz.2) λcn=>ah (aO 1 J3 cn.2) λcx=>ah (bP 1 cx.1 cd.1 cx.2) λcE=>aQ (rE true (aK cz.1 cE.2) cn.1&&(rE true (aK bO.1 cE.2) bW.1&&true)) (ah (aO 2 J3 cE.2) λcH=>ah (bP 1 cH.1 bW.1 cH.2) λcZ=>aQ (rE true (aK cz.1 cZ.2) cn.1&&true) (ah (aO 3 J3 cZ.2) λcX=>ah (bP 1 cX.1 cn.1 cX.2) λdm=>dI call J1 J3 dm.2) none) none) (ah (aw Tryz.prog .eql 3 false true J8 (.af 3) W) λcU=>bg cU.1 (ah (aO 1 J1 cU.2) λdN=>ah (aK dN.1 dN.2) λdK=>ah (aO 2 J1 dK.2) λdY=>ah (aK dY.1 dY.2) λdC=>ah (aO 4 J1 dC.2) λdv=>ah (aK dv.1 dv.2) λdT=>ah (aO 5 J1 dT.2) λdU=>ah (aK dU.1 dU.2) λez=>ah (aO 1 J3 ez.2) λfU=>ah (bP 1 fU.1 dK.1 fU.2) λfB=>aQ (rE true (aK dU.1 fB.2) ez.1&&(rE true (aK dv.1 fB.2) dT.1&&(rE true (aK dY.1 fB.2) dC.1&&true))) (ah (aO 2 J3 fB.2) λfA=>ah (bP 1 fA.1 dC.1 fA.2) λgd=>aQ (rE true (aK dU.1 gd.2) ez.1&&(rE true (aK dv.1 gd.2) dT.1&&true)) (ah (aO 4 J3 gd.2) λfS=>ah (bP 1 fS.1 dT.1 fS.2) λgX=>aQ (rE true (aK dU.1 gX.2) ez.1&&true) (ah (aO 5 J3 gX.2) λgG=>ah (bP 1 gG.1 ez.1 gG.2) λfH=>dI call J1 J3 fH.2) none) none) none) (ah (aw Tryz.prog .eql 3 false true J8 (.af 6) cU.2) λiH=>bg iH.1 (ah (aO 1 J1 iH.2) λjB=>ah (aK jB.1 jB.2) λi9=>ah (aO 2 J1 i9.2) λkW=>ah (aK kW.1 kW.2) λj0=>ah (aO 6 J1 j0.2) λlq=>ah (aK lq.1 lq.2) λlT=>ah (aO 7 J1 lT.2) λkY=>ah (bA 4 kY.1 kY.2) λj6=>ah (aO 1 J3 j6.2) λpi=>ah (bP 1 pi.1 i9.1 pi.2) λlz=>aQ (rE true (bA 4 kY.1 lz.2) j6.1&&(rE true (aK lq.1 lz.2) lT.1&&(rE true (aK kW.1 lz.2) j0.1&&true))) (ah (aO 2 J3 lz.2) λoh=>ah (bP 1 oh.1 j0.1 oh.2) λo6=>aQ (rE true (bA 4 kY.1 o6.2) j6.1&&(rE true (aK lq.1 o6.2) lT.1&&true)) (ah (aO 6 J3 o6.2) λmR=>ah (bP 1 mR.1 lT.1 mR.2) λph=>aQ (rE true (bA 4 kY.1 ph.2) j6.1&&true) (ah (aO 7 J3 ph.2) λpe=>ah (bP 4 pe.1 j6.1 pe.2) λuu=>dI call J1 J3 uu.2) none) none) none) (ah (aw Tryz.prog .eql 3 false true J8 (.af 7) iH.2) λrF=>bg rF.1 (ah (aO 1 J1 rF.2) λwI=>ah (aK wI.1 wI.2) λBr=>ah (aO 2 J1 Br.2) λwP=>ah (aK wP.1 wP.2) λDe=>ah (aO 7 J1 De.2) λwt=>ah (bA 4 wt.1 wt.2) λAx=>ah (aO 1 J3 Ax.2) λzM=>ah (bP 1 zM.1 Br.1 zM.2) λqo=>aQ (rE true (bA 4 wt.1 qo.2) Ax.1&&(rE true (aK wP.1 qo.2) De.1&&true)) (ah (aO 2 J3 qo.2) λwN=>ah (bP 1 wN.1 De.1 wN.2) λDf=>aQ (rE true (bA 4 wt.1 Df.2) Ax.1&&true) (ah (aO 7 J3 Df.2) λyG=>ah (bP 4 yG.1 Ax.1 yG.2) λEw=>dI call J1 J3 Ew.2) none) none) (ah (aw Tryz.prog .eql 3 false true J8 (.af 9) rF.2) λxZ=>bg xZ.1 (ah (aO 7 J1 xZ.2) λEp=>ah (bA 4 Ep.1 Ep.2) λEl=>ah (aO 7 J3 El.2) λE1=>ah (bP 4 E1.1 El.1 E1.2) λIf=>dI call J1 J3 If.2) (ah (aw Tryz.prog .eql 3 false true J8 (.af 10) xZ.2) λR6=>bg R6.1 (kI call J1 J3 J8 R6.1 R6.2) (ah (aw Tryz.prog .eql 3 false true J8 (.af 11) R6.2) λXf=>kI call J1 J3 J8 Xf.1 Xf.2))))))
def pv(call:Eng.Callee)(x0:ae)(W:AW):Option (ae×AW):=ah (cD x0 W) λr1=>ah (aO 0 r1.1 r1.2) λr2=>ah (aK r2.1 r2.2) λr3=>ah (bD Tryz.prog 41 [(0,r3.1)] r3.2) λr4=>ah (aY Tryz.prog 41 r4.2) λr5=>ah (bP 12 r5.1 r4.1 r5.2) λr6=>ah (aO 0 r1.1 r6.2) λr7=>ah (aK r7.1 r7.2) λr8=>ah (aw Tryz.prog .eql 3 false true r8.1 (.af 1) r8.2) λbQ=>bg bQ.1 (ah (aO 1 r1.1 bQ.2) λbS=>ah (aK bS.1 bS.2) λcm=>ah (aO 1 r5.1 cm.2) λbN=>ah (bP 1 bN.1 cm.1 bN.2) λbV=>dI call r1.1 r5.1 bV.2) (ah (aw Tryz.prog .eql 3 false true r8.1 (.af 2) bQ.2) λxr=>bg xr.1 (gT call r1.1 r5.1 r8.1 xr.1 xr.2) (ah (aw Tryz.prog .eql 3 false true r8.1 (.af 5) xr.2) λyp=>bg yp.1 (gT call r1.1 r5.1 r8.1 yp.1 yp.2) (ah (aw Tryz.prog .eql 3 false true r8.1 (.af 4) yp.2) λzT=>bg zT.1 (gT call r1.1 r5.1 r8.1 zT.1 zT.2) (ah (aw Tryz.prog .eql 3 false true r8.1 (.af 8) zT.2) λCP=>gT call r1.1 r5.1 r8.1 CP.1 CP.2))))
def CI{x0:ae}{W:AW}{r:ae×AW}(h:pv bm x0 W=some r):bm (.func (.func 79) #[] #[]) [x0] W=some (gc W r):=bH (nt:=92) (n:=1) (by kernel_rfl) (by kernel_rfl) rfl (aJ (by kernel_rfl) h)
def jx(call:Eng.Callee)(J1 J28:ae)(W:AW):Option (ae×AW):=bg J28 (ah (aO 4 J1 W) λbS=>ah (aK bS.1 bS.2) λcm=>aF Tryz.prog [((.af (-1)),none),(cm.1,none),((.af 0),none)] cm.2) (aF Tryz.prog [((.af (-1)),none),((.af (-1)),none),((.af 0),none)] W)
def jz(call:Eng.Callee)(J1 WX J20:ae)(W:AW):Option (ae×AW):=bg J20 (ah (aO 7 J1 W) λr9=>ah (aO 0 r9.1 r9.2) λbw=>ah (aK bw.1 bw.2) λbB=>ah (FT Tryz.prog 36 3 bB.1 bB.2) λbQ=>aF Tryz.prog [(bQ.1,none),((.af (-1)),none),((.af 0),none)] bQ.2) (ah (aw Tryz.prog .eql 3 false true WX (.af 3) W) λbN=>bg bN.1 (jx call J1 bN.1 bN.2) (ah (aw Tryz.prog .eql 3 false true WX (.af 10) bN.2) λbV=>bg bV.1 (jx call J1 bV.1 bV.2) (ah (aw Tryz.prog .eql 3 false true WX (.af 11) bV.2) λcj=>jx call J1 cj.1 cj.2)))
def ii(call:Eng.Callee)(J1 WX J13:ae)(W:AW):Option (ae×AW):=bg J13 (ah (aO 3 J1 W) λr7=>ah (aK r7.1 r7.2) λr8=>aF Tryz.prog [(r8.1,none),((.af (-1)),none),((.af 0),none)] r8.2) (ah (aw Tryz.prog .eql 3 false true WX (.af 6) W) λcd=>bg cd.1 (jz call J1 WX cd.1 cd.2) (ah (aw Tryz.prog .eql 3 false true WX (.af 7) cd.2) λbO=>bg bO.1 (jz call J1 WX bO.1 bO.2) (ah (aw Tryz.prog .eql 3 false true WX (.af 9) bO.2) λbW=>jz call J1 WX bW.1 bW.2)))
def xK(call:Eng.Callee)(x0:ae)(W:AW):Option (ae×AW):=ah (cD x0 W) λr1=>ah (bA 12 r1.1 r1.2) λr2=>ah (call (cO 79) [r2.1] r2.2) λr3=>ah (aw Tryz.prog .neq 30 false true r3.1 (.af 0) r3.2) λr4=>bg r4.1 (aF Tryz.prog [((.af 0),none),((.af 0),none),(r3.1,none)] r4.2) (ah (aO 0 r1.1 r4.2) λr5=>ah (aK r5.1 r5.2) λr6=>ah (aw Tryz.prog .eql 3 false true r6.1 (.af 2) r6.2) λcz=>bg cz.1 (ii call r1.1 r6.1 cz.1 cz.2) (ah (aw Tryz.prog .eql 3 false true r6.1 (.af 5) cz.2) λcn=>bg cn.1 (ii call r1.1 r6.1 cn.1 cn.2) (ah (aw Tryz.prog .eql 3 false true r6.1 (.af 4) cn.2) λcx=>bg cx.1 (ii call r1.1 r6.1 cx.1 cx.2) (ah (aw Tryz.prog .eql 3 false true r6.1 (.af 8) cx.2) λcE=>ii call r1.1 r6.1 cE.1 cE.2))))
def Bw{x0:ae}{W:AW}{r:ae×AW}(h:xK bm x0 W=some r):bm (.func (.func 104) #[] #[]) [x0] W=some (gc W r):=bH (nt:=34) (n:=1) (by kernel_rfl) (by kernel_rfl) rfl (aJ (by kernel_rfl) h)
def kJ(call:Eng.Callee)(R:Nat->ae)(W:AW):Option LT:=ah (aw Tryz.prog .lss 3 false false (R 55) (R 54) W) λfU=>bg fU.1 (ah (gn 1 (R 53) (R 55) fU.2) λfB=>ah (aK fB.1 fB.2) λfA=>ah (aw Tryz.prog .add 3 false false (R 4) fA.1 fA.2) λgd=>ah (aw Tryz.prog .add 3 false true (R 55) (.af 1) gd.2) λfS=>some (X.normal,(bi R [(56,fU.1),(57,fB.1),(58,fA.1),(9,fA.1),(59,(R 4)),(60,fA.1),(61,gd.1),(4,gd.1),(62,fS.1),(55,fS.1)]),fS.2)) (some (X.exit 3,(eP R (some 56) fU.1),fU.2))
def oZ(call:Eng.Callee)(R:Nat->ae)(W:AW):Option LT:=ah (aw Tryz.prog .lss 3 false false (R 37) (R 36) W) λcE=>bg cE.1 (ah (gn 3 (R 35) (R 37) cE.2) λcH=>ah (bA 3 cH.1 cH.2) λcZ=>ah (aY Tryz.prog 66 cZ.2) λcX=>ah (bP 3 cX.1 cZ.1 cX.2) λdm=>ah (bA 3 cX.1 dm.2) λcU=>ah (aO 3 (R 1) cU.2) λdN=>ah (aK dN.1 dN.2) λdK=>ah (fh Tryz.prog 22 dK.1 none (some (R 37)) none dK.2) λdY=>ah (call (cO 47) [cU.1,dY.1] dY.2) λdC=>ah (aw Tryz.prog .neq 30 false true dC.1 (.af 0) dC.2) λdv=>bg dv.1 (some (X.ret,(bi R [(38,cE.1),(39,(R 37)),(40,cH.1),(41,cZ.1),(6,cX.1),(5,(R 37)),(42,cU.1),(43,dN.1),(44,dK.1),(45,(R 37)),(46,dY.1),(47,dC.1),(7,dC.1),(48,dC.1),(49,dv.1),(50,(R 37)),(51,dC.1),(2,(R 37)),(3,dC.1)]),dv.2)) (ah (aO 1 cX.1 dv.2) λdT=>ah (aK dT.1 dT.2) λdU=>ah (aB Tryz.prog .len #[64] 3 #[false] [dU.1] dU.2) λez=>ah (cW (kJ call) (bi R [(38,cE.1),(39,(R 37)),(40,cH.1),(41,cZ.1),(6,cX.1),(5,(R 37)),(42,cU.1),(43,dN.1),(44,dK.1),(45,(R 37)),(46,dY.1),(47,dC.1),(7,dC.1),(48,dC.1),(49,dv.1),(52,dT.1),(53,dU.1),(54,ez.1),(55,(.af 0))]) ez.2) λgX=>di 3 gX.1 (ah (aw Tryz.prog .add 3 false true (gX.2.1 37) (.af 1) gX.2.2) λgG=>some (X.normal,(bi gX.2.1 [(63,gG.1),(37,gG.1)]),gG.2)) (none))) (some (X.exit 1,(eP R (some 38) cE.1),cE.2))
def AE(call:Eng.Callee)(x0:ae)(W:AW):Option (ae×AW):=ah (cD x0 W) λr1=>ah (aO 0 r1.1 r1.2) λr2=>ah (aK r2.1 r2.2) λr3=>ah (call (cO 45) [r3.1,(.af 1),(.af 16)] r3.2) λr4=>ah (aQ (aU r4.1 false) (aO 1 r1.1 r4.2) (some (ag,r4.2))) λr5=>ah (aQ (aU r4.1 false) (aK r5.1 r5.2) (some (ag,r5.2))) λr6=>ah (aQ (aU r4.1 false) (call (cO 46) [r6.1,(.af 1),(.af 1000000000)] r6.2) (some (ag,r6.2))) λr7=>ah (bu r4.1 (.bool true) r7.1 r7.2) λr8=>ah (aQ (aU r8.1 false) (aO 2 r1.1 r8.2) (some (ag,r8.2))) λr9=>ah (aQ (aU r8.1 false) (aK r9.1 r9.2) (some (ag,r9.2))) λbw=>ah (aQ (aU r8.1 false) (call (cO 46) [bw.1,(.af 1),(.af 1000000000)] bw.2) (some (ag,bw.2))) λbB=>ah (bu r8.1 (.bool true) bB.1 bB.2) λbQ=>bg bQ.1 (aF Tryz.prog [((.af (-1)),none),((.af 7),none)] bQ.2) (ah (aO 3 r1.1 bQ.2) λbS=>ah (aK bS.1 bS.2) λcm=>ah (aB Tryz.prog .len #[22] 3 #[false] [cm.1] cm.2) λbN=>ah (aw Tryz.prog .eql 3 false true bN.1 (.af 0) bN.2) λbV=>bg bV.1 (aF Tryz.prog [((.af (-1)),none),((.af 6),none)] bV.2) (ah (aO 3 r1.1 bV.2) λcj=>ah (aK cj.1 cj.2) λcd=>ah (aB Tryz.prog .len #[22] 3 #[false] [cd.1] cd.2) λbO=>ah (aw Tryz.prog .gtr 3 false true bO.1 (.af 8) bO.2) λbW=>bg bW.1 (aF Tryz.prog [((.af (-1)),none),((.af 3),none)] bW.2) (ah (aO 3 r1.1 bW.2) λcz=>ah (aK cz.1 cz.2) λcn=>ah (aB Tryz.prog .len #[22] 3 #[false] [cn.1] cn.2) λcx=>ah (cW (oZ call) (bi (dp 0 [x0] ak.blank) [(1,r1.1),(2,(.af 0)),(3,(.af 0)),(11,r2.1),(12,r3.1),(13,r4.1),(14,r4.1),(15,r5.1),(16,r6.1),(17,r7.1),(18,r8.1),(19,r8.1),(20,r9.1),(21,bw.1),(22,bB.1),(23,bQ.1),(10,bQ.1),(25,bS.1),(26,cm.1),(27,bN.1),(28,bV.1),(24,bV.1),(30,cj.1),(31,cd.1),(32,bO.1),(33,bW.1),(29,bW.1),(4,(.af 0)),(34,cz.1),(35,cn.1),(36,cx.1),(37,(.af 0))]) cx.2) λfH=>di 1 fH.1 (ah (aw Tryz.prog .gtr 3 false true (fH.2.1 4) (.af 4096) fH.2.2) λiH=>bg iH.1 (aF Tryz.prog [((.af (-1)),none),((.af 3),none)] iH.2) (aF Tryz.prog [((.af 0),none),((.af 0),none)] iH.2)) (iq fH.1 (aF Tryz.prog [((fH.2.1 2),none),((fH.2.1 3),none)] fH.2.2)))))
def Dt{x0:ae}{W:AW}{r:ae×AW}(h:AE bm x0 W=some r):bm (.func (.func 33) #[] #[]) [x0] W=some (gc W r):=bH (nt:=66) (n:=1) (by kernel_rfl) (by kernel_rfl) rfl (aJ (by kernel_rfl) h)
def oS(call:Eng.Callee)(R:Nat->ae)(W:AW):Option LT:=ah (aO 3 (R 1) W) λcE=>ah (aK cE.1 cE.2) λcH=>ah (aB Tryz.prog .len #[22] 3 #[false] [cH.1] cH.2) λcZ=>ah (aw Tryz.prog .lss 3 false false (R 4) cZ.1 cZ.2) λcX=>bg cX.1 (ah (bA 4 (R 1) cX.2) λdm=>ah (call (cO 55) [dm.1,(R 4)] dm.2) λcU=>ah (aw Tryz.prog .neq 30 false true cU.1 (.af 0) cU.2) λdN=>bg dN.1 (some (X.ret,(bi R [(30,(R 4)),(31,cE.1),(32,cH.1),(33,cZ.1),(34,cX.1),(37,dm.1),(38,(R 4)),(39,cU.1),(5,cU.1),(40,cU.1),(41,dN.1),(42,(R 4)),(43,cU.1),(2,(R 4)),(3,cU.1)]),dN.2)) (ah (aw Tryz.prog .add 3 false true (R 4) (.af 1) dN.2) λdK=>some (X.normal,(bi R [(30,(R 4)),(31,cE.1),(32,cH.1),(33,cZ.1),(34,cX.1),(37,dm.1),(38,(R 4)),(39,cU.1),(5,cU.1),(40,cU.1),(41,dN.1),(35,(R 4)),(36,dK.1),(4,dK.1)]),dK.2))) (some (X.exit 0,(bi R [(30,(R 4)),(31,cE.1),(32,cH.1),(33,cZ.1),(34,cX.1)]),cX.2))
def AN(call:Eng.Callee)(x0:ae)(W:AW):Option (ae×AW):=ah (cD x0 W) λr1=>ah (aO 0 r1.1 r1.2) λr2=>ah (aK r2.1 r2.2) λr3=>ah (call (cO 54) [r3.1,(.af 1),(.af 16)] r3.2) λr4=>ah (BS Tryz.prog .not r4.1 r4.2) λr5=>ah (aQ (aU r5.1 false) (aO 1 r1.1 r5.2) (some (ag,r5.2))) λr6=>ah (aQ (aU r5.1 false) (aK r6.1 r6.2) (some (ag,r6.2))) λr7=>ah (aQ (aU r5.1 false) (call (cO 54) [r7.1,(.af 1),(.af 1000000000)] r7.2) (some (ag,r7.2))) λr8=>ah (aQ (aU r5.1 false) (BS Tryz.prog .not r8.1 r8.2) (some (ag,r8.2))) λr9=>ah (bu r5.1 (.bool true) r9.1 r9.2) λbw=>ah (aQ (aU bw.1 false) (aO 2 r1.1 bw.2) (some (ag,bw.2))) λbB=>ah (aQ (aU bw.1 false) (aK bB.1 bB.2) (some (ag,bB.2))) λbQ=>ah (aQ (aU bw.1 false) (call (cO 54) [bQ.1,(.af 1),(.af 1000000000)] bQ.2) (some (ag,bQ.2))) λbS=>ah (aQ (aU bw.1 false) (BS Tryz.prog .not bS.1 bS.2) (some (ag,bS.2))) λcm=>ah (bu bw.1 (.bool true) cm.1 cm.2) λbN=>bg bN.1 (aF Tryz.prog [((.af (-1)),none),((.af 7),none)] bN.2) (ah (aO 3 r1.1 bN.2) λbV=>ah (aK bV.1 bV.2) λcj=>ah (aB Tryz.prog .len #[22] 3 #[false] [cj.1] cj.2) λcd=>ah (aw Tryz.prog .eql 3 false true cd.1 (.af 0) cd.2) λbO=>bg bO.1 (aF Tryz.prog [((.af (-1)),none),((.af 6),none)] bO.2) (ah (aO 3 r1.1 bO.2) λbW=>ah (aK bW.1 bW.2) λcz=>ah (aB Tryz.prog .len #[22] 3 #[false] [cz.1] cz.2) λcn=>ah (aw Tryz.prog .gtr 3 false true cn.1 (.af 8) cn.2) λcx=>bg cx.1 (aF Tryz.prog [((.af (-1)),none),((.af 3),none)] cx.2) (ah (cW (oS call) (bi (dp 0 [x0] ak.blank) [(1,r1.1),(2,(.af 0)),(3,(.af 0)),(6,r2.1),(7,r3.1),(8,r4.1),(9,r5.1),(10,r5.1),(11,r6.1),(12,r7.1),(13,r8.1),(14,r9.1),(15,bw.1),(16,bw.1),(17,bB.1),(18,bQ.1),(19,bS.1),(20,cm.1),(21,bN.1),(22,bV.1),(23,cj.1),(24,cd.1),(25,bO.1),(26,bW.1),(27,cz.1),(28,cn.1),(29,cx.1),(4,(.af 0))]) cx.2) λdY=>di 0 dY.1 (ah (bA 4 (dY.2.1 1) dY.2.2) λdC=>ah (call (cO 56) [dC.1] dC.2) λdv=>ah (aB Tryz.prog .len #[127] 3 #[false] [dv.1] dv.2) λdT=>ah (aw Tryz.prog .gtr 3 false true dT.1 (.af 4096) dT.2) λdU=>bg dU.1 (aF Tryz.prog [((.af (-1)),none),((.af 3),none)] dU.2) (aF Tryz.prog [((.af 0),none),((.af 0),none)] dU.2)) (iq dY.1 (aF Tryz.prog [((dY.2.1 2),none),((dY.2.1 3),none)] dY.2.2)))))
def D6{x0:ae}{W:AW}{r:ae×AW}(h:AN bm x0 W=some r):bm (.func (.func 36) #[] #[]) [x0] W=some (gc W r):=bH (nt:=48) (n:=1) (by kernel_rfl) (by kernel_rfl) rfl (aJ (by kernel_rfl) h)
def qn(call:Eng.Callee)(R:Nat->ae)(W:AW):Option LT:=ah (aB Tryz.prog .len #[64] 3 #[false] [(R 0)] W) λr4=>ah (aw Tryz.prog .lss 3 false false (R 5) r4.1 r4.2) λr5=>bg r5.1 (ah (gn 1 (R 0) (R 5) r5.2) λr6=>ah (aK r6.1 r6.2) λr7=>ah (gn 1 (R 1) (R 5) r7.2) λr8=>ah (aK r8.1 r8.2) λr9=>ah (aw Tryz.prog .neq 3 false false r7.1 r9.1 r9.2) λbw=>bg bw.1 (some (X.ret,(bi R [(11,(R 5)),(12,(R 0)),(13,r4.1),(14,r5.1),(17,(R 0)),(18,(R 5)),(19,r6.1),(20,r7.1),(21,(R 1)),(22,(R 5)),(23,r8.1),(24,r9.1),(25,bw.1),(4,(.bool false))]),bw.2)) (ah (aw Tryz.prog .add 3 false true (R 5) (.af 1) bw.2) λbB=>some (X.normal,(bi R [(11,(R 5)),(12,(R 0)),(13,r4.1),(14,r5.1),(17,(R 0)),(18,(R 5)),(19,r6.1),(20,r7.1),(21,(R 1)),(22,(R 5)),(23,r8.1),(24,r9.1),(25,bw.1),(15,(R 5)),(16,bB.1),(5,bB.1)]),bB.2))) (some (X.exit 0,(bi R [(11,(R 5)),(12,(R 0)),(13,r4.1),(14,r5.1)]),r5.2))
def CU(call:Eng.Callee)(x0 x1:ae)(W:AW):Option (ae×AW):=ah (aB Tryz.prog .len #[64] 3 #[false] [x0] W) λr1=>ah (aB Tryz.prog .len #[64] 3 #[false] [x1] r1.2) λr2=>ah (aw Tryz.prog .neq 3 false false r1.1 r2.1 r2.2) λr3=>bg r3.1 (aF Tryz.prog [((.bool false),none)] r3.2) (ah (cW (qn call) (bi (dp 0 [x0,x1] ak.blank) [(4,(.bool false)),(6,x0),(7,r1.1),(8,x1),(9,r2.1),(10,r3.1),(5,(.af 0))]) r3.2) λbQ=>di 0 bQ.1 (aF Tryz.prog [((.bool true),none)] bQ.2.2) (iq bQ.1 (aF Tryz.prog [((bQ.2.1 4),none)] bQ.2.2)))
def E4{x0 x1:ae}{W:AW}{r:ae×AW}(h:CU bm x0 x1 W=some r):bm (.func (.func 41) #[] #[]) [x0,x1] W=some (gc W r):=bH (nt:=26) (n:=2) (by kernel_rfl) (by kernel_rfl) rfl (aJ (by kernel_rfl) h)
def lZ(call:Eng.Callee)(x0 x1 x2:ae)(W:AW):Option (ae×AW):=ah (aw Tryz.prog .lss 3 false false x0 x1 W) λr1=>ah (aQ (aU r1.1 false) (iT x0 r1.2) (some (ag,r1.2))) λr2=>ah (aQ (aU r1.1 false) (iT x2 r2.2) (some (ag,r2.2))) λr3=>ah (aQ (aU r1.1 false) (aw Tryz.prog .gtr 3 false false r2.1 r3.1 r3.2) (some (ag,r3.2))) λr4=>ah (bu r1.1 (.bool true) r4.1 r4.2) λr5=>aF Tryz.prog [(r5.1,none)] r5.2
def vE{x0 x1 x2:ae}{W:AW}{r:ae×AW}(h:lZ bm x0 x1 x2 W=some r):bm (.func (.func 45) #[] #[]) [x0,x1,x2] W=some (gc W r):=bH (nt:=15) (n:=3) (by kernel_rfl) (by kernel_rfl) rfl (aJ (by kernel_rfl) h)
def jF(call:Eng.Callee)(x0 x1 x2:ae)(W:AW):Option (ae×AW):=ah (aw Tryz.prog .lss 2 false false x0 x1 W) λr1=>ah (aQ (aU r1.1 false) (iT x0 r1.2) (some (ag,r1.2))) λr2=>ah (aQ (aU r1.1 false) (iT x2 r2.2) (some (ag,r2.2))) λr3=>ah (aQ (aU r1.1 false) (aw Tryz.prog .gtr 2 false false r2.1 r3.1 r3.2) (some (ag,r3.2))) λr4=>ah (bu r1.1 (.bool true) r4.1 r4.2) λr5=>aF Tryz.prog [(r5.1,none)] r5.2
def te{x0 x1 x2:ae}{W:AW}{r:ae×AW}(h:jF bm x0 x1 x2 W=some r):bm (.func (.func 46) #[] #[]) [x0,x1,x2] W=some (gc W r):=bH (nt:=15) (n:=3) (by kernel_rfl) (by kernel_rfl) rfl (aJ (by kernel_rfl) h)
def Ao(call:Eng.Callee)(x0 x1:ae)(W:AW):Option (ae×AW):=ah (cD x0 W) λr1=>ah (aO 0 r1.1 r1.2) λr2=>ah (aK r2.1 r2.2) λr3=>ah (call (cO 70) [r3.1] r3.2) λr4=>ah (BS Tryz.prog .not r4.1 r4.2) λr5=>bg r5.1 (aF Tryz.prog [((.af 6),none)] r5.2) (ah (xN (.func 72) #[] #[r1.1] r5.2) λr6=>ah (call (cO 71) [x1,r6.1] r6.2) λr7=>bg r7.1 (aF Tryz.prog [((.af 8),none)] r7.2) (ah (aO 1 r1.1 r7.2) λr8=>ah (aK r8.1 r8.2) λr9=>ah (aB Tryz.prog .len #[64] 3 #[false] [r9.1] r9.2) λbw=>ah (aw Tryz.prog .eql 3 false true bw.1 (.af 0) bw.2) λbB=>bg bB.1 (aF Tryz.prog [((.af 6),none)] bB.2) (ah (aO 1 r1.1 bB.2) λbQ=>ah (aK bQ.1 bQ.2) λbS=>ah (aB Tryz.prog .len #[64] 3 #[false] [bS.1] bS.2) λcm=>ah (aw Tryz.prog .gtr 3 false true cm.1 (.af 16) cm.2) λbN=>bg bN.1 (aF Tryz.prog [((.af 3),none)] bN.2) (ah (aO 1 r1.1 bN.2) λbV=>ah (aK bV.1 bV.2) λcj=>ah (call (cO 73) [cj.1,(cO 74)] cj.2) λcd=>bg cd.1 (aF Tryz.prog [((.af 7),none)] cd.2) (ah (aO 2 r1.1 cd.2) λbO=>ah (aK bO.1 bO.2) λbW=>ah (call (cO 45) [bW.1,(.af 0),(.af 64)] bW.2) λcz=>bg cz.1 (aF Tryz.prog [((.af 7),none)] cz.2) (aF Tryz.prog [((.af 0),none)] cz.2))))))
def DQ{x0 x1:ae}{W:AW}{r:ae×AW}(h:Ao bm x0 x1 W=some r):bm (.func (.func 47) #[] #[]) [x0,x1] W=some (gc W r):=bH (nt:=32) (n:=2) (by kernel_rfl) (by kernel_rfl) rfl (aJ (by kernel_rfl) h)
def sA(call:Eng.Callee)(x0 x1 x2:ae)(W:AW):Option (ae×AW):=ah (aw Tryz.prog .geq 2 false false x0 x1 W) λr1=>ah (aQ (aU r1.1 true) (iT x0 r1.2) (some (ag,r1.2))) λr2=>ah (aQ (aU r1.1 true) (iT x2 r2.2) (some (ag,r2.2))) λr3=>ah (aQ (aU r1.1 true) (aw Tryz.prog .leq 2 false false r2.1 r3.1 r3.2) (some (ag,r3.2))) λr4=>ah (bu r1.1 r4.1 (.bool false) r4.2) λr5=>aF Tryz.prog [(r5.1,none)] r5.2
def Bc{x0 x1 x2:ae}{W:AW}{r:ae×AW}(h:sA bm x0 x1 x2 W=some r):bm (.func (.func 54) #[] #[]) [x0,x1,x2] W=some (gc W r):=bH (nt:=15) (n:=3) (by kernel_rfl) (by kernel_rfl) rfl (aJ (by kernel_rfl) h)
def lV(call:Eng.Callee)(R:Nat->ae)(W:AW):Option LT:=ah (aw Tryz.prog .lss 3 false false (R 6) (R 1) W) λbQ=>bg bQ.1 (ah (aO 3 (R 2) bQ.2) λbS=>ah (aK bS.1 bS.2) λcm=>ah (gn 3 cm.1 (R 6) cm.2) λbN=>ah (aO 0 bN.1 bN.2) λbV=>ah (aK bV.1 bV.2) λcj=>ah (aO 0 (R 5) cj.2) λcd=>ah (aK cd.1 cd.2) λbO=>ah (aw Tryz.prog .eql 9 false false cj.1 bO.1 bO.2) λbW=>bg bW.1 (some (X.ret,(bi R [(17,(R 6)),(18,(R 1)),(19,bQ.1),(22,bS.1),(23,cm.1),(24,(R 6)),(25,bN.1),(26,bV.1),(27,cj.1),(28,cd.1),(29,bO.1),(30,bW.1),(4,(.af 8))]),bW.2)) (ah (aw Tryz.prog .add 3 false true (R 6) (.af 1) bW.2) λcz=>some (X.normal,(bi R [(17,(R 6)),(18,(R 1)),(19,bQ.1),(22,bS.1),(23,cm.1),(24,(R 6)),(25,bN.1),(26,bV.1),(27,cj.1),(28,cd.1),(29,bO.1),(30,bW.1),(20,(R 6)),(21,cz.1),(6,cz.1)]),cz.2))) (some (X.exit 0,(bi R [(17,(R 6)),(18,(R 1)),(19,bQ.1)]),bQ.2))
def mc(call:Eng.Callee)(R:Nat->ae)(W:AW):Option LT:=ah (aO 1 (R 5) W) λdK=>ah (aK dK.1 dK.2) λdY=>ah (aB Tryz.prog .len #[64] 3 #[false] [dY.1] dY.2) λdC=>ah (aw Tryz.prog .lss 3 false false (R 7) dC.1 dC.2) λdv=>bg dv.1 (ah (aO 1 (R 5) dv.2) λdT=>ah (aK dT.1 dT.2) λdU=>ah (gn 1 dU.1 (R 7) dU.2) λez=>ah (aK ez.1 ez.2) λfU=>ah (call (cO 54) [fU.1,(.af 1),(.af 64)] fU.2) λfB=>ah (BS Tryz.prog .not fB.1 fB.2) λfA=>bg fA.1 (some (X.ret,(bi R [(39,(R 7)),(40,dK.1),(41,dY.1),(42,dC.1),(43,dv.1),(46,dT.1),(47,dU.1),(48,(R 7)),(49,ez.1),(50,fU.1),(51,fB.1),(52,fA.1),(4,(.af 7))]),fA.2)) (ah (aw Tryz.prog .add 3 false true (R 7) (.af 1) fA.2) λgd=>some (X.normal,(bi R [(39,(R 7)),(40,dK.1),(41,dY.1),(42,dC.1),(43,dv.1),(46,dT.1),(47,dU.1),(48,(R 7)),(49,ez.1),(50,fU.1),(51,fB.1),(52,fA.1),(44,(R 7)),(45,gd.1),(7,gd.1)]),gd.2))) (some (X.exit 2,(bi R [(39,(R 7)),(40,dK.1),(41,dY.1),(42,dC.1),(43,dv.1)]),dv.2))
def vW(call:Eng.Callee)(x0 x1:ae)(W:AW):Option (ae×AW):=ah (cD x0 W) λr1=>ah (aO 3 r1.1 r1.2) λr2=>ah (aK r2.1 r2.2) λr3=>ah (gn 3 r3.1 x1 r3.2) λr4=>ah (bA 3 r4.1 r4.2) λr5=>ah (aY Tryz.prog 66 r5.2) λr6=>ah (bP 3 r6.1 r5.1 r6.2) λr7=>ah (aO 0 r6.1 r7.2) λr8=>ah (aK r8.1 r8.2) λr9=>ah (call (cO 78) [r9.1] r9.2) λbw=>ah (BS Tryz.prog .not bw.1 bw.2) λbB=>bg bB.1 (aF Tryz.prog [((.af 6),none)] bB.2) (ah (cW (lV call) (bi (dp 0 [x0,x1] ak.blank) [(2,r1.1),(4,(.af 0)),(8,r2.1),(9,r3.1),(10,x1),(11,r4.1),(12,r5.1),(5,r6.1),(13,r8.1),(14,r9.1),(15,bw.1),(16,bB.1),(6,(.af 0))]) bB.2) λcn=>di 0 cn.1 (ah (aO 1 (cn.2.1 5) cn.2.2) λcx=>ah (aK cx.1 cx.2) λcE=>ah (aB Tryz.prog .len #[64] 3 #[false] [cE.1] cE.2) λcH=>ah (aw Tryz.prog .eql 3 false true cH.1 (.af 0) cH.2) λcZ=>bg cZ.1 (aF Tryz.prog [((.af 6),none)] cZ.2) (ah (aO 1 (cn.2.1 5) cZ.2) λcX=>ah (aK cX.1 cX.2) λdm=>ah (aB Tryz.prog .len #[64] 3 #[false] [dm.1] dm.2) λcU=>ah (aw Tryz.prog .gtr 3 false true cU.1 (.af 16) cU.2) λdN=>bg dN.1 (aF Tryz.prog [((.af 3),none)] dN.2) (ah (cW (mc call) (bi cn.2.1 [(31,cx.1),(32,cE.1),(33,cH.1),(34,cZ.1),(35,cX.1),(36,dm.1),(37,cU.1),(38,dN.1),(7,(.af 0))]) dN.2) λfS=>di 2 fS.1 (ah (aO 2 (fS.2.1 5) fS.2.2) λgX=>ah (aK gX.1 gX.2) λgG=>ah (call (cO 54) [gG.1,(.af 0),(.af 64)] gG.2) λfH=>ah (BS Tryz.prog .not fH.1 fH.2) λiH=>bg iH.1 (aF Tryz.prog [((.af 7),none)] iH.2) (aF Tryz.prog [((.af 0),none)] iH.2)) (iq fS.1 (aF Tryz.prog [((fS.2.1 4),none)] fS.2.2))))) (iq cn.1 (aF Tryz.prog [((cn.2.1 4),none)] cn.2.2)))
def zX{x0 x1:ae}{W:AW}{r:ae×AW}(h:vW bm x0 x1 W=some r):bm (.func (.func 55) #[] #[]) [x0,x1] W=some (gc W r):=bH (nt:=57) (n:=2) (by kernel_rfl) (by kernel_rfl) rfl (aJ (by kernel_rfl) h)
def iA(call:Eng.Callee)(R:Nat->ae)(W:AW):Option LT:=ah (aO 3 (R 1) W) λbS=>ah (aK bS.1 bS.2) λcm=>ah (gn 3 cm.1 (R 4) cm.2) λbN=>ah (aO 1 bN.1 bN.2) λbV=>ah (aK bV.1 bV.2) λcj=>ah (gn 1 cj.1 (R 5) cj.2) λcd=>ah (aK cd.1 cd.2) λbO=>ah (aw Tryz.prog .lss 3 false false (R 6) bO.1 bO.2) λbW=>bg bW.1 (ah (bD Tryz.prog 167 [(0,(R 4)),(1,(R 5)),(2,(R 6))] bW.2) λcz=>ah (aD Tryz.prog 127 1 [(0,cz.1)] cz.2) λcn=>ah (aN Tryz.prog cn.2 #[127,127] (R 3) cn.1) λcx=>ah (aw Tryz.prog .add 3 false true (R 6) (.af 1) cx.2) λcE=>some (X.normal,(bi R [(25,(R 6)),(26,bS.1),(27,cm.1),(28,(R 4)),(29,bN.1),(30,bV.1),(31,cj.1),(32,(R 5)),(33,cd.1),(34,bO.1),(35,bW.1),(38,(R 3)),(39,(R 4)),(40,(R 5)),(41,(R 6)),(42,cz.1),(43,cn.1),(44,cx.1),(3,cx.1),(36,(R 6)),(37,cE.1),(6,cE.1)]),cE.2)) (some (X.exit 4,(bi R [(25,(R 6)),(26,bS.1),(27,cm.1),(28,(R 4)),(29,bN.1),(30,bV.1),(31,cj.1),(32,(R 5)),(33,cd.1),(34,bO.1),(35,bW.1)]),bW.2))
def jN(call:Eng.Callee)(R:Nat->ae)(W:AW):Option LT:=ah (aO 3 (R 1) W) λr6=>ah (aK r6.1 r6.2) λr7=>ah (gn 3 r7.1 (R 4) r7.2) λr8=>ah (aO 1 r8.1 r8.2) λr9=>ah (aK r9.1 r9.2) λbw=>ah (aB Tryz.prog .len #[64] 3 #[false] [bw.1] bw.2) λbB=>ah (aw Tryz.prog .lss 3 false false (R 5) bB.1 bB.2) λbQ=>bg bQ.1 (ah (cW (iA call) (bi R [(14,(R 5)),(15,r6.1),(16,r7.1),(17,(R 4)),(18,r8.1),(19,r9.1),(20,bw.1),(21,bB.1),(22,bQ.1),(6,(.af 0))]) bQ.2) λcH=>di 4 cH.1 (ah (aw Tryz.prog .add 3 false true (cH.2.1 5) (.af 1) cH.2.2) λcZ=>some (X.normal,(bi cH.2.1 [(23,(cH.2.1 5)),(24,cZ.1),(5,cZ.1)]),cZ.2)) (none)) (some (X.exit 2,(bi R [(14,(R 5)),(15,r6.1),(16,r7.1),(17,(R 4)),(18,r8.1),(19,r9.1),(20,bw.1),(21,bB.1),(22,bQ.1)]),bQ.2))
def mN(call:Eng.Callee)(R:Nat->ae)(W:AW):Option LT:=ah (aO 3 (R 1) W) λr2=>ah (aK r2.1 r2.2) λr3=>ah (aB Tryz.prog .len #[22] 3 #[false] [r3.1] r3.2) λr4=>ah (aw Tryz.prog .lss 3 false false (R 4) r4.1 r4.2) λr5=>bg r5.1 (ah (cW (jN call) (bi R [(7,(R 4)),(8,r2.1),(9,r3.1),(10,r4.1),(11,r5.1),(5,(.af 0))]) r5.2) λcX=>di 2 cX.1 (ah (aw Tryz.prog .add 3 false true (cX.2.1 4) (.af 1) cX.2.2) λdm=>some (X.normal,(bi cX.2.1 [(12,(cX.2.1 4)),(13,dm.1),(4,dm.1)]),dm.2)) (none)) (some (X.exit 0,(bi R [(7,(R 4)),(8,r2.1),(9,r3.1),(10,r4.1),(11,r5.1)]),r5.2))
def yy(call:Eng.Callee)(x0:ae)(W:AW):Option (ae×AW):=ah (cD x0 W) λr1=>ah (cW (mN call) (bi (dp 0 [x0] ak.blank) [(1,r1.1),(2,(.slice none 0 0)),(3,(.slice none 0 0)),(4,(.af 0))]) r1.2) λcU=>di 0 cU.1 (aF Tryz.prog [((cU.2.1 3),none)] cU.2.2) (none)
def Bm{x0:ae}{W:AW}{r:ae×AW}(h:yy bm x0 W=some r):bm (.func (.func 56) #[] #[]) [x0] W=some (gc W r):=bH (nt:=46) (n:=1) (by kernel_rfl) (by kernel_rfl) rfl (aJ (by kernel_rfl) h)
def rQ(call:Eng.Callee)(R:Nat->ae)(W:AW):Option LT:=ah (aB Tryz.prog .len #[64] 3 #[false] [(R 6)] W) λr9=>ah (aw Tryz.prog .lss 3 false false (R 9) r9.1 r9.2) λbw=>bg bw.1 (ah (gn 1 (R 6) (R 9) bw.2) λbB=>ah (aK bB.1 bB.2) λbQ=>ah (bD Tryz.prog 135 [(0,(.af 1)),(1,bQ.1)] bQ.2) λbS=>ah (aD Tryz.prog 130 1 [(0,bS.1)] bS.2) λcm=>ah (aN Tryz.prog cm.2 #[130,130] (R 8) cm.1) λbN=>ah (aw Tryz.prog .add 3 false true (R 9) (.af 1) bN.2) λbV=>some (X.normal,(bi R [(20,(R 9)),(21,(R 6)),(22,r9.1),(23,bw.1),(26,(R 8)),(27,(R 6)),(28,(R 9)),(29,bB.1),(30,bQ.1),(31,bS.1),(32,cm.1),(33,bN.1),(8,bN.1),(24,(R 9)),(25,bV.1),(9,bV.1)]),bV.2)) (some (X.exit 0,(bi R [(20,(R 9)),(21,(R 6)),(22,r9.1),(23,bw.1)]),bw.2))
def sH(call:Eng.Callee)(R:Nat->ae)(W:AW):Option LT:=ah (aw Tryz.prog .geq 3 false true (R 10) (.af 0) W) λcx=>bg cx.1 (ah (gn 1 (R 6) (R 10) cx.2) λcE=>ah (aK cE.1 cE.2) λcH=>ah (bD Tryz.prog 135 [(0,(.af 3)),(1,cH.1)] cH.2) λcZ=>ah (aD Tryz.prog 130 1 [(0,cZ.1)] cZ.2) λcX=>ah (aN Tryz.prog cX.2 #[130,130] (R 8) cX.1) λdm=>ah (aw Tryz.prog .sub 3 false true (R 10) (.af 1) dm.2) λcU=>some (X.normal,(bi R [(41,(R 10)),(42,cx.1),(45,(R 8)),(46,(R 6)),(47,(R 10)),(48,cE.1),(49,cH.1),(50,cZ.1),(51,cX.1),(52,dm.1),(8,dm.1),(43,(R 10)),(44,cU.1),(10,cU.1)]),cU.2)) (some (X.exit 2,(bi R [(41,(R 10)),(42,cx.1)]),cx.2))
def FF(call:Eng.Callee)(x0 x1:ae)(W:AW):Option (ae×AW):=ah (cD x0 W) λr1=>ah (cD x1 r1.2) λr2=>ah (bA 4 r1.1 r2.2) λr3=>ah (bA 12 r2.1 r3.2) λr4=>ah (call (cO 80) [r3.1,r4.1] r4.2) λr5=>ah (ap r5.1 0 r5.2) λr6=>ah (ap r5.1 1 r6.2) λr7=>ah (aw Tryz.prog .neq 30 false true r7.1 (.af 0) r7.2) λr8=>bg r8.1 (aF Tryz.prog [((.slice none 0 0),none),(r7.1,none)] r8.2) (ah (cW (rQ call) (bi (dp 0 [x0,x1] ak.blank) [(2,r1.1),(3,r2.1),(4,(.slice none 0 0)),(5,(.af 0)),(12,r3.1),(13,r4.1),(14,r5.1),(11,r5.1),(15,r6.1),(16,r7.1),(6,r6.1),(7,r7.1),(17,r7.1),(18,r8.1),(8,(.slice none 0 0)),(9,(.af 0))]) r8.2) λcj=>di 0 cj.1 (ah (bD Tryz.prog 135 [(0,(.af 2))] cj.2.2) λcd=>ah (aD Tryz.prog 130 1 [(0,cd.1)] cd.2) λbO=>ah (aN Tryz.prog bO.2 #[130,130] (cj.2.1 8) bO.1) λbW=>ah (aB Tryz.prog .len #[64] 3 #[false] [(cj.2.1 6)] bW.2) λcz=>ah (aw Tryz.prog .sub 3 false true cz.1 (.af 1) cz.2) λcn=>ah (cW (sH call) (bi cj.2.1 [(34,(cj.2.1 8)),(35,cd.1),(36,bO.1),(37,bW.1),(8,bW.1),(38,(cj.2.1 6)),(39,cz.1),(40,cn.1),(10,cn.1)]) cn.2) λdN=>di 2 dN.1 (aF Tryz.prog [((dN.2.1 8),none),((.af 0),none)] dN.2.2) (none)) (none))
def Gl{x0 x1:ae}{W:AW}{r:ae×AW}(h:FF bm x0 x1 W=some r):bm (.func (.func 60) #[] #[]) [x0,x1] W=some (gc W r):=bH (nt:=54) (n:=2) (by kernel_rfl) (by kernel_rfl) rfl (aJ (by kernel_rfl) h)
def wn(call:Eng.Callee)(x0:ae)(W:AW):Option (ae×AW):=ah (cD x0 W) λr1=>ah (xN (.func 81) #[] #[r1.1] r1.2) λr2=>aF Tryz.prog [(r2.1,none)] r2.2
def E8{x0:ae}{W:AW}{r:ae×AW}(h:wn bm x0 W=some r):bm (.func (.func 62) #[] #[]) [x0] W=some (gc W r):=bH (nt:=4) (n:=1) (by kernel_rfl) (by kernel_rfl) rfl (aJ (by kernel_rfl) h)
def w7(call:Eng.Callee)(x0:ae)(W:AW):Option (ae×AW):=ah (cD x0 W) λr1=>ah (bA 12 r1.1 r1.2) λr2=>ah (call (cO 75) [r2.1] r2.2) λr3=>ah (aw Tryz.prog .neq 30 false true r3.1 (.af 0) r3.2) λr4=>bg r4.1 (aF Tryz.prog [((.af 0),none),((.af 0),none),(r3.1,none)] r4.2) (ah (aO 0 r1.1 r4.2) λr5=>ah (aK r5.1 r5.2) λr6=>ah (Gt 13 1 (ajy 0) r6.1 r6.2) λr7=>ah (aK r7.1 r7.2) λr8=>ah (aw Tryz.prog .and 3 false true r8.1 (.af 4) r8.2) λr9=>ah (aw Tryz.prog .neq 3 false true r9.1 (.af 0) r9.2) λbw=>bg bw.1 (ah (aO 3 r1.1 bw.2) λbB=>ah (aK bB.1 bB.2) λbQ=>aF Tryz.prog [(bQ.1,none),((.af (-1)),none),((.af 0),none)] bQ.2) (ah (aw Tryz.prog .and 3 false true r8.1 (.af 64) bw.2) λbS=>ah (aw Tryz.prog .neq 3 false true bS.1 (.af 0) bS.2) λcm=>bg cm.1 (ah (aO 7 r1.1 cm.2) λbN=>ah (aO 0 bN.1 bN.2) λbV=>ah (aK bV.1 bV.2) λcj=>ah (FT Tryz.prog 36 3 cj.1 cj.2) λcd=>aF Tryz.prog [(cd.1,none),((.af (-1)),none),((.af 0),none)] cd.2) (ah (aw Tryz.prog .and 3 false true r8.1 (.af 8) cm.2) λbO=>ah (aw Tryz.prog .neq 3 false true bO.1 (.af 0) bO.2) λbW=>bg bW.1 (ah (aO 4 r1.1 bW.2) λcz=>ah (aK cz.1 cz.2) λcn=>aF Tryz.prog [((.af (-1)),none),(cn.1,none),((.af 0),none)] cn.2) (aF Tryz.prog [((.af (-1)),none),((.af (-1)),none),((.af 0),none)] bW.2))))
def Bq{x0:ae}{W:AW}{r:ae×AW}(h:w7 bm x0 W=some r):bm (.func (.func 66) #[] #[]) [x0] W=some (gc W r):=bH (nt:=38) (n:=1) (by kernel_rfl) (by kernel_rfl) rfl (aJ (by kernel_rfl) h)
def CD(call:Eng.Callee)(x0:ae)(W:AW):Option (ae×AW):=ah (aw Tryz.prog .eql 9 false true x0 (C7 []) W) λr1=>ah (aQ (aU r1.1 false) (iT x0 r1.2) (some (ag,r1.2))) λr2=>ah (aQ (aU r1.1 false) (aB Tryz.prog .len #[9] 3 #[false] [r2.1] r2.2) (some (ag,r2.2))) λr3=>ah (aQ (aU r1.1 false) (aw Tryz.prog .gtr 3 false true r3.1 (.af 16) r3.2) (some (ag,r3.2))) λr4=>ah (bu r1.1 (.bool true) r4.1 r4.2) λr5=>ah (aQ (aU r5.1 false) (iT x0 r5.2) (some (ag,r5.2))) λr6=>ah (aQ (aU r5.1 false) (eH Tryz.prog 9 r6.1 (.af 0) r6.2) (some (ag,r6.2))) λr7=>ah (aQ (aU r5.1 false) (aw Tryz.prog .lss 5 false true r7.1 (.int .u8 97) r7.2) (some (ag,r7.2))) λr8=>ah (bu r5.1 (.bool true) r8.1 r8.2) λr9=>ah (aQ (aU r9.1 false) (iT x0 r9.2) (some (ag,r9.2))) λbw=>ah (aQ (aU r9.1 false) (eH Tryz.prog 9 bw.1 (.af 0) bw.2) (some (ag,bw.2))) λbB=>ah (aQ (aU r9.1 false) (aw Tryz.prog .gtr 5 false true bB.1 (.int .u8 122) bB.2) (some (ag,bB.2))) λbQ=>ah (bu r9.1 (.bool true) bQ.1 bQ.2) λbS=>bg bS.1 (aF Tryz.prog [((.bool false),none)] bS.2) (ah (call (cO 97) [x0,(C7 [97,98,99,100,101,102,103,104,105,106,107,108,109,110,111,112,113,114,115,116,117,118,119,120,121,122,48,49,50,51,52,53,54,55,56,57,45])] bS.2) λcm=>ah (aw Tryz.prog .eql 9 false true cm.1 (C7 []) cm.2) λbN=>aF Tryz.prog [(bN.1,none)] bN.2)
def Ff{x0:ae}{W:AW}{r:ae×AW}(h:CD bm x0 W=some r):bm (.func (.func 70) #[] #[]) [x0] W=some (gc W r):=bH (nt:=23) (n:=1) (by kernel_rfl) (by kernel_rfl) rfl (aJ (by kernel_rfl) h)
def dR(call:Eng.Callee)(x0 x1:ae)(W:AW):Option (ae×AW):=ah (call (cO 98) [x0,x1] W) λr1=>ah (aw Tryz.prog .geq 3 false true r1.1 (.af 0) r1.2) λr2=>aF Tryz.prog [(r2.1,none)] r2.2
def fL{x0 x1:ae}{W:AW}{r:ae×AW}(h:dR bm x0 x1 W=some r):bm (.func (.func 71) #[] #[]) [x0,x1] W=some (gc W r):=bH (nt:=9) (n:=2) (by kernel_rfl) (by kernel_rfl) rfl (aJ (by kernel_rfl) h)
def vV(call:Eng.Callee)(x0 x1:ae)(W:AW):Option (ae×AW):=ah (cD x0 W) λr1=>ah (aO 0 r1.1 r1.2) λr2=>ah (aK r2.1 r2.2) λr3=>ah (aO 0 x1 r3.2) λr4=>ah (aK r4.1 r4.2) λr5=>ah (aw Tryz.prog .eql 9 false false r3.1 r5.1 r5.2) λr6=>aF Tryz.prog [(r6.1,none)] r6.2
def za{x0 x1:ae}{W:AW}{r:ae×AW}(h:vV bm x0 x1 W=some r):bm (.func (.func 72) #[] #[x1]) [x0] W=some (gc W r):=bH (nt:=9) (n:=2) (by kernel_rfl) (by kernel_rfl) rfl (aJ (by kernel_rfl) h)
def jb(call:Eng.Callee)(x0 x1:ae)(W:AW):Option (ae×AW):=ah (call (cO 99) [x0,x1] W) λr1=>ah (aw Tryz.prog .geq 3 false true r1.1 (.af 0) r1.2) λr2=>aF Tryz.prog [(r2.1,none)] r2.2
def mZ{x0 x1:ae}{W:AW}{r:ae×AW}(h:jb bm x0 x1 W=some r):bm (.func (.func 73) #[] #[]) [x0,x1] W=some (gc W r):=bH (nt:=9) (n:=2) (by kernel_rfl) (by kernel_rfl) rfl (aJ (by kernel_rfl) h)
def vK(call:Eng.Callee)(x0:ae)(W:AW):Option (ae×AW):=ah (call (cO 45) [x0,(.af 1),(.af 64)] W) λr1=>aF Tryz.prog [(r1.1,none)] r1.2
def zP{x0:ae}{W:AW}{r:ae×AW}(h:vK bm x0 W=some r):bm (.func (.func 74) #[] #[]) [x0] W=some (gc W r):=bH (nt:=5) (n:=1) (by kernel_rfl) (by kernel_rfl) rfl (aJ (by kernel_rfl) h)
def AU(call:Eng.Callee)(x0 x1:ae)(W:AW):Option (ae×AW):=ah (cD x0 W) λr1=>ah (cD x1 r1.2) λr2=>ah (bA 4 r1.1 r2.2) λr3=>ah (bA 12 r2.1 r3.2) λr4=>ah (call (cO 101) [r3.1,r4.1] r4.2) λr5=>ah (ap r5.1 0 r5.2) λr6=>ah (ap r5.1 1 r6.2) λr7=>ah (aw Tryz.prog .neq 30 false true r7.1 (.af 0) r7.2) λr8=>bg r8.1 (aF Tryz.prog [((.af 0),none),(r7.1,none)] r8.2) (ah (aB Tryz.prog .len #[64] 3 #[false] [r6.1] r8.2) λr9=>ah (aw Tryz.prog .mul 3 true false (.af 2) r9.1 r9.2) λbw=>ah (aw Tryz.prog .add 3 false true bw.1 (.af 1) bw.2) λbB=>aF Tryz.prog [(bB.1,none),((.af 0),none)] bB.2)
def Cp{x0 x1:ae}{W:AW}{r:ae×AW}(h:AU bm x0 x1 W=some r):bm (.func (.func 77) #[] #[]) [x0,x1] W=some (gc W r):=bH (nt:=21) (n:=2) (by kernel_rfl) (by kernel_rfl) rfl (aJ (by kernel_rfl) h)
def qp(call:Eng.Callee)(R:Nat->ae)(W:AW):Option LT:=ah (aB Tryz.prog .len #[9] 3 #[false] [(R 0)] W) λbQ=>ah (aw Tryz.prog .lss 3 false false (R 3) bQ.1 bQ.2) λbS=>bg bS.1 (ah (eH Tryz.prog 9 (R 0) (R 3) bS.2) λcm=>ah (call (cO 102) [cm.1] cm.2) λbN=>ah (BS Tryz.prog .not bN.1 bN.2) λbV=>ah (aQ (aU bV.1 true) (iT (R 0) bV.2) (some (ag,bV.2))) λcj=>ah (aQ (aU bV.1 true) (iT (R 3) cj.2) (some (ag,cj.2))) λcd=>ah (aQ (aU bV.1 true) (eH Tryz.prog 9 cj.1 cd.1 cd.2) (some (ag,cd.2))) λbO=>ah (aQ (aU bV.1 true) (call (cO 103) [bO.1] bO.2) (some (ag,bO.2))) λbW=>ah (aQ (aU bV.1 true) (BS Tryz.prog .not bW.1 bW.2) (some (ag,bW.2))) λcz=>ah (bu bV.1 cz.1 (.bool false) cz.2) λcn=>ah (aQ (aU cn.1 true) (iT (R 0) cn.2) (some (ag,cn.2))) λcx=>ah (aQ (aU cn.1 true) (iT (R 3) cx.2) (some (ag,cx.2))) λcE=>ah (aQ (aU cn.1 true) (eH Tryz.prog 9 cx.1 cE.1 cE.2) (some (ag,cE.2))) λcH=>ah (aQ (aU cn.1 true) (aw Tryz.prog .neq 5 false true cH.1 (.int .u8 45) cH.2) (some (ag,cH.2))) λcZ=>ah (bu cn.1 cZ.1 (.bool false) cZ.2) λcX=>bg cX.1 (some (X.ret,(bi R [(18,(R 3)),(19,(R 0)),(20,bQ.1),(21,bS.1),(24,(R 0)),(25,(R 3)),(26,cm.1),(27,bN.1),(28,bV.1),(29,bV.1),(30,cj.1),(31,cd.1),(32,bO.1),(33,bW.1),(34,cz.1),(35,cn.1),(36,cn.1),(37,cx.1),(38,cE.1),(39,cH.1),(40,cZ.1),(41,cX.1),(2,(.bool false))]),cX.2)) (ah (aw Tryz.prog .add 3 false true (R 3) (.af 1) cX.2) λdm=>some (X.normal,(bi R [(18,(R 3)),(19,(R 0)),(20,bQ.1),(21,bS.1),(24,(R 0)),(25,(R 3)),(26,cm.1),(27,bN.1),(28,bV.1),(29,bV.1),(30,cj.1),(31,cd.1),(32,bO.1),(33,bW.1),(34,cz.1),(35,cn.1),(36,cn.1),(37,cx.1),(38,cE.1),(39,cH.1),(40,cZ.1),(41,cX.1),(22,(R 3)),(23,dm.1),(3,dm.1)]),dm.2))) (some (X.exit 0,(bi R [(18,(R 3)),(19,(R 0)),(20,bQ.1),(21,bS.1)]),bS.2))
def CY(call:Eng.Callee)(x0:ae)(W:AW):Option (ae×AW):=ah (aB Tryz.prog .len #[9] 3 #[false] [x0] W) λr1=>ah (aw Tryz.prog .lss 3 false true r1.1 (.af 1) r1.2) λr2=>ah (aQ (aU r2.1 false) (iT x0 r2.2) (some (ag,r2.2))) λr3=>ah (aQ (aU r2.1 false) (aB Tryz.prog .len #[9] 3 #[false] [r3.1] r3.2) (some (ag,r3.2))) λr4=>ah (aQ (aU r2.1 false) (aw Tryz.prog .gtr 3 false true r4.1 (.af 16) r4.2) (some (ag,r4.2))) λr5=>ah (bu r2.1 (.bool true) r5.1 r5.2) λr6=>ah (aQ (aU r6.1 false) (iT x0 r6.2) (some (ag,r6.2))) λr7=>ah (aQ (aU r6.1 false) (eH Tryz.prog 9 r7.1 (.af 0) r7.2) (some (ag,r7.2))) λr8=>ah (aQ (aU r6.1 false) (call (cO 102) [r8.1] r8.2) (some (ag,r8.2))) λr9=>ah (aQ (aU r6.1 false) (BS Tryz.prog .not r9.1 r9.2) (some (ag,r9.2))) λbw=>ah (bu r6.1 (.bool true) bw.1 bw.2) λbB=>bg bB.1 (aF Tryz.prog [((.bool false),none)] bB.2) (ah (cW (qp call) (bi (dp 0 [x0] ak.blank) [(2,(.bool false)),(4,x0),(5,r1.1),(6,r2.1),(7,r2.1),(8,r3.1),(9,r4.1),(10,r5.1),(11,r6.1),(12,r6.1),(13,r7.1),(14,r8.1),(15,r9.1),(16,bw.1),(17,bB.1),(3,(.af 0))]) bB.2) λcU=>di 0 cU.1 (aF Tryz.prog [((.bool true),none)] cU.2.2) (iq cU.1 (aF Tryz.prog [((cU.2.1 2),none)] cU.2.2)))
def EG{x0:ae}{W:AW}{r:ae×AW}(h:CY bm x0 W=some r):bm (.func (.func 78) #[] #[]) [x0] W=some (gc W r):=bH (nt:=42) (n:=1) (by kernel_rfl) (by kernel_rfl) rfl (aJ (by kernel_rfl) h)
def oF(call:Eng.Callee)(R:Nat->ae)(W:AW):Option LT:=ah (aO 0 (R 2) W) λcj=>ah (aK cj.1 cj.2) λcd=>ah (aO 3 (R 2) cd.2) λbO=>ah (aK bO.1 bO.2) λbW=>ah (aB Tryz.prog .len #[22] 3 #[false] [bW.1] bW.2) λcz=>ah (aw Tryz.prog .add 3 false false cd.1 cz.1 cz.2) λcn=>ah (aw Tryz.prog .lss 3 false false (R 11) cn.1 cn.2) λcx=>bg cx.1 (ah (aD Tryz.prog 64 1 [(0,(R 11))] cx.2) λcE=>ah (aN Tryz.prog cE.2 #[64,64] (R 10) cE.1) λcH=>ah (aw Tryz.prog .add 3 false true (R 11) (.af 1) cH.2) λcZ=>some (X.normal,(bi R [(39,(R 11)),(40,cj.1),(41,cd.1),(42,bO.1),(43,bW.1),(44,cz.1),(45,cn.1),(46,cx.1),(49,(R 10)),(50,(R 11)),(51,cE.1),(52,cH.1),(10,cH.1),(47,(R 11)),(48,cZ.1),(11,cZ.1)]),cZ.2)) (some (X.exit 0,(bi R [(39,(R 11)),(40,cj.1),(41,cd.1),(42,bO.1),(43,bW.1),(44,cz.1),(45,cn.1),(46,cx.1)]),cx.2))
def Aw(call:Eng.Callee)(x0 x1:ae)(W:AW):Option (ae×AW):=ah (cD x0 W) λr1=>ah (cD x1 r1.2) λr2=>ah (bA 4 r1.1 r2.2) λr3=>ah (call (cO 36) [r3.1] r3.2) λr4=>ah (ap r4.1 0 r4.2) λr5=>ah (ap r4.1 1 r5.2) λr6=>ah (aw Tryz.prog .neq 30 false true r6.1 (.af 0) r6.2) λr7=>bg r7.1 (aF Tryz.prog [((.slice none 0 0),none),(r6.1,none)] r7.2) (ah (bA 12 r2.1 r7.2) λr8=>ah (call (cO 104) [r8.1] r8.2) λr9=>ah (ap r9.1 0 r9.2) λbw=>ah (ap r9.1 1 bw.2) λbB=>ah (ap r9.1 2 bB.2) λbQ=>ah (aw Tryz.prog .neq 30 false true bQ.1 (.af 0) bQ.2) λbS=>bg bS.1 (aF Tryz.prog [((.slice none 0 0),none),(bQ.1,none)] bS.2) (ah (aO 0 r2.1 bS.2) λcm=>ah (aK cm.1 cm.2) λbN=>ah (aw Tryz.prog .eql 3 false true bN.1 (.af 12) bN.2) λbV=>bg bV.1 (ah (cW (oF call) (bi (dp 0 [x0,x1] ak.blank) [(2,r1.1),(3,r2.1),(4,(.slice none 0 0)),(5,(.af 0)),(20,r3.1),(21,r4.1),(19,r4.1),(22,r5.1),(23,r6.1),(6,r5.1),(7,r6.1),(24,r6.1),(25,r7.1),(28,r8.1),(29,r9.1),(27,r9.1),(30,bw.1),(31,bB.1),(32,bQ.1),(8,bw.1),(9,bB.1),(7,bQ.1),(33,bQ.1),(34,bS.1),(36,cm.1),(37,bN.1),(38,bV.1),(10,(.slice none 0 0)),(11,(.af 0))]) bV.2) λcX=>di 0 cX.1 (aF Tryz.prog [((cX.2.1 10),none),((.af 0),none)] cX.2.2) (none)) (ah (aO 0 r2.1 bV.2) λdm=>ah (aK dm.1 dm.2) λcU=>ah (aw Tryz.prog .eql 3 false true cU.1 (.af 1) cU.2) λdN=>bg dN.1 (aF Tryz.prog [((.slice none 0 0),none),((.af 0),none)] dN.2) (ah (aw Tryz.prog .geq 3 false true bB.1 (.af 0) dN.2) λdK=>ah (aQ (aU dK.1 false) (aO 0 r2.1 dK.2) (some (ag,dK.2))) λdY=>ah (aQ (aU dK.1 false) (aK dY.1 dY.2) (some (ag,dY.2))) λdC=>ah (aQ (aU dK.1 false) (aw Tryz.prog .eql 3 false true dC.1 (.af 3) dC.2) (some (ag,dC.2))) λdv=>ah (bu dK.1 (.bool true) dv.1 dv.2) λdT=>ah (aQ (aU dT.1 false) (aO 0 r2.1 dT.2) (some (ag,dT.2))) λdU=>ah (aQ (aU dT.1 false) (aK dU.1 dU.2) (some (ag,dU.2))) λez=>ah (aQ (aU dT.1 false) (aw Tryz.prog .eql 3 false true ez.1 (.af 10) ez.2) (some (ag,ez.2))) λfU=>ah (bu dT.1 (.bool true) fU.1 fU.2) λfB=>ah (aQ (aU fB.1 false) (aO 0 r2.1 fB.2) (some (ag,fB.2))) λfA=>ah (aQ (aU fB.1 false) (aK fA.1 fA.2) (some (ag,fA.2))) λgd=>ah (aQ (aU fB.1 false) (aw Tryz.prog .eql 3 false true gd.1 (.af 11) gd.2) (some (ag,gd.2))) λfS=>ah (bu fB.1 (.bool true) fS.1 fS.2) λgX=>bg gX.1 (ah (bA 4 r1.1 gX.2) λgG=>ah (call (cO 105) [gG.1,bB.1] gG.2) λfH=>ah (ap fH.1 0 fH.2) λiH=>ah (ap fH.1 1 iH.2) λjB=>ah (aw Tryz.prog .neq 30 false true jB.1 (.af 0) jB.2) λi9=>bg i9.1 (aF Tryz.prog [((.slice none 0 0),none),((.af 0),none)] i9.2) (ah (aO 0 r2.1 i9.2) λkW=>ah (aK kW.1 kW.2) λj0=>ah (aw Tryz.prog .neq 3 false true j0.1 (.af 3) j0.2) λlq=>bg lq.1 (ah (aD Tryz.prog 64 1 [(0,iH.1)] lq.2) λlT=>aF Tryz.prog [(lT.1,none),((.af 0),none)] lT.2) (ah (bA 4 r1.1 lq.2) λkY=>ah (call (cO 106) [kY.1,bB.1] kY.2) λj6=>ah (ap j6.1 0 j6.2) λpi=>ah (ap j6.1 1 pi.2) λlz=>aF Tryz.prog [(pi.1,none),(lz.1,none)] lz.2))) (ah (bA 4 r1.1 gX.2) λoh=>ah (call (cO 107) [oh.1,bw.1] oh.2) λo6=>ah (ap o6.1 0 o6.2) λmR=>ah (ap o6.1 1 mR.2) λph=>ah (aY Tryz.prog 167 ph.2) λpe=>ah (bP 3 pe.1 mR.1 pe.2) λuu=>ah (aw Tryz.prog .neq 30 false true ph.1 (.af 0) uu.2) λrF=>bg rF.1 (aF Tryz.prog [((.slice none 0 0),none),((.af 0),none)] rF.2) (ah (bA 4 r1.1 rF.2) λwI=>ah (call (cO 108) [wI.1,bw.1] wI.2) λBr=>ah (ap Br.1 0 Br.2) λwP=>ah (ap Br.1 1 wP.2) λDe=>ah (aO 0 r2.1 De.2) λwt=>ah (aK wt.1 wt.2) λAx=>ah (aw Tryz.prog .eql 3 false true Ax.1 (.af 4) Ax.2) λzM=>ah (aQ (aU zM.1 false) (aO 0 r2.1 zM.2) (some (ag,zM.2))) λqo=>ah (aQ (aU zM.1 false) (aK qo.1 qo.2) (some (ag,qo.2))) λwN=>ah (aQ (aU zM.1 false) (aw Tryz.prog .eql 3 false true wN.1 (.af 8) wN.2) (some (ag,wN.2))) λDf=>ah (bu zM.1 (.bool true) Df.1 Df.2) λyG=>ah (aQ (aU yG.1 false) (aO 0 r2.1 yG.2) (some (ag,yG.2))) λEw=>ah (aQ (aU yG.1 false) (aK Ew.1 Ew.2) (some (ag,Ew.2))) λxZ=>ah (aQ (aU yG.1 false) (aw Tryz.prog .eql 3 false true xZ.1 (.af 7) xZ.2) (some (ag,xZ.2))) λEp=>ah (bu yG.1 (.bool true) Ep.1 Ep.2) λEl=>bg El.1 (ah (bA 4 r1.1 El.2) λE1=>ah (aO 0 pe.1 E1.2) λIf=>ah (aK If.1 If.2) λHk=>ah (call (cO 105) [E1.1,Hk.1] Hk.2) λFl=>ah (ap Fl.1 0 Fl.2) λIa=>ah (ap Fl.1 1 Ia.2) λID=>ah (aD Tryz.prog 64 2 [(0,wP.1),(1,Ia.1)] ID.2) λE2=>aF Tryz.prog [(E2.1,none),((.af 0),none)] E2.2) (ah (aD Tryz.prog 64 1 [(0,wP.1)] El.2) λH6=>aF Tryz.prog [(H6.1,none),((.af 0),none)] H6.2)))))))
def D7{x0 x1:ae}{W:AW}{r:ae×AW}(h:Aw bm x0 x1 W=some r):bm (.func (.func 80) #[] #[]) [x0,x1] W=some (gc W r):=bH (nt:=131) (n:=2) (by kernel_rfl) (by kernel_rfl) rfl (aJ (by kernel_rfl) h)
def jC(call:Eng.Callee)(R:Nat->ae)(W:AW):Option LT:=ah (aw Tryz.prog .lss 3 false false (R 19) (R 18) W) λbQ=>bg bQ.1 (ah (gn 1 (R 17) (R 19) bQ.2) λbS=>ah (aK bS.1 bS.2) λcm=>ah (bD Tryz.prog 140 [(0,(R 4)),(1,(R 19)),(2,(R 3)),(3,cm.1)] cm.2) λbN=>ah (call (R 0) [bN.1] bN.2) λbV=>ah (BS Tryz.prog .not bV.1 bV.2) λcj=>bg cj.1 (some (X.ret,(bi R [(20,bQ.1),(21,(R 19)),(22,bS.1),(23,cm.1),(6,(R 19)),(7,cm.1),(24,(R 0)),(25,(R 4)),(26,(R 19)),(27,(R 3)),(28,cm.1),(29,bN.1),(30,bV.1),(31,cj.1)]),cj.2)) (ah (aw Tryz.prog .add 3 false false (R 3) cm.1 cj.2) λcd=>ah (aw Tryz.prog .add 3 false true (R 19) (.af 1) cd.2) λbO=>some (X.normal,(bi R [(20,bQ.1),(21,(R 19)),(22,bS.1),(23,cm.1),(6,(R 19)),(7,cm.1),(24,(R 0)),(25,(R 4)),(26,(R 19)),(27,(R 3)),(28,cm.1),(29,bN.1),(30,bV.1),(31,cj.1),(32,(R 3)),(33,cm.1),(34,cd.1),(3,cd.1),(35,bO.1),(19,bO.1)]),bO.2))) (some (X.exit 2,(eP R (some 20) bQ.1),bQ.2))
def mP(call:Eng.Callee)(R:Nat->ae)(W:AW):Option LT:=ah (aw Tryz.prog .lss 3 false false (R 11) (R 10) W) λr4=>bg r4.1 (ah (gn 3 (R 9) (R 11) r4.2) λr5=>ah (bA 3 r5.1 r5.2) λr6=>ah (aY Tryz.prog 66 r6.2) λr7=>ah (bP 3 r7.1 r6.1 r7.2) λr8=>ah (aO 1 r7.1 r8.2) λr9=>ah (aK r9.1 r9.2) λbw=>ah (aB Tryz.prog .len #[64] 3 #[false] [bw.1] bw.2) λbB=>ah (cW (jC call) (bi R [(12,r4.1),(13,(R 11)),(14,r5.1),(15,r6.1),(5,r7.1),(4,(R 11)),(16,r9.1),(17,bw.1),(18,bB.1),(19,(.af 0))]) bB.2) λbW=>di 2 bW.1 (ah (aw Tryz.prog .add 3 false true (bW.2.1 11) (.af 1) bW.2.2) λcz=>some (X.normal,(bi bW.2.1 [(36,cz.1),(11,cz.1)]),cz.2)) (iq bW.1 (some (X.ret,bW.2.1,bW.2.2)))) (some (X.exit 0,(eP R (some 12) r4.1),r4.2))
def sF(call:Eng.Callee)(x0 x1:ae)(W:AW):Option (ae×AW):=ah (aO 3 x1 W) λr1=>ah (aK r1.1 r1.2) λr2=>ah (aB Tryz.prog .len #[22] 3 #[false] [r2.1] r2.2) λr3=>ah (cW (mP call) (bi (dp 0 [x0,x1] ak.blank) [(3,(.af 0)),(8,r1.1),(9,r2.1),(10,r3.1),(11,(.af 0))]) r3.2) λcn=>di 0 cn.1 (aF Tryz.prog [] cn.2.2) (iq cn.1 (aF Tryz.prog [] cn.2.2))
def Bs{x0 x1:ae}{W:AW}{r:ae×AW}(h:sF bm x0 x1 W=some r):bm (.func (.func 81) #[] #[x1]) [x0] W=some (gc W r):=bH (nt:=37) (n:=2) (by kernel_rfl) (by kernel_rfl) rfl (aJ (by kernel_rfl) h)
def xg(call:Eng.Callee)(x0 x1:ae)(W:AW):Option (ae×AW):=ah (aw Tryz.prog .eql 9 false true x0 (C7 []) W) λr1=>ah (aQ (aU r1.1 false) (iT x1 r1.2) (some (ag,r1.2))) λr2=>ah (aQ (aU r1.1 false) (aw Tryz.prog .eql 9 false true r2.1 (C7 []) r2.2) (some (ag,r2.2))) λr3=>ah (bu r1.1 (.bool true) r3.1 r3.2) λr4=>bg r4.1 (aF Tryz.prog [(x0,none)] r4.2) (ah (aB Tryz.prog .len #[9] 3 #[false] [x1] r4.2) λr5=>ah (aw Tryz.prog .eql 3 false true r5.1 (.af 1) r5.2) λr6=>ah (aQ (aU r6.1 true) (iT x1 r6.2) (some (ag,r6.2))) λr7=>ah (aQ (aU r6.1 true) (eH Tryz.prog 9 r7.1 (.af 0) r7.2) (some (ag,r7.2))) λr8=>ah (aQ (aU r6.1 true) (aw Tryz.prog .lss 5 false true r8.1 (.int .u8 128) r8.2) (some (ag,r8.2))) λr9=>ah (bu r6.1 r9.1 (.bool false) r9.2) λbw=>bg bw.1 (ah (eH Tryz.prog 9 x1 (.af 0) bw.2) λbB=>ah (eH Tryz.prog 9 x1 (.af 0) bB.2) λbQ=>ah (call (cO 131) [x0,bB.1] bQ.2) λbS=>ah (call (cO 130) [bS.1,bQ.1] bS.2) λcm=>aF Tryz.prog [(cm.1,none)] cm.2) (ah (call (cO 132) [x1] bw.2) λbN=>ah (ap bN.1 0 bN.2) λbV=>ah (ap bN.1 1 bV.2) λcj=>ah (aY Tryz.prog 212 cj.2) λcd=>ah (bP 256 cd.1 bV.1 cd.2) λbO=>bg cj.1 (ah (call (cO 134) [x0,cd.1] bO.2) λbW=>ah (call (cO 133) [bW.1,cd.1] bW.2) λcz=>aF Tryz.prog [(cz.1,none)] cz.2) (ah (call (cO 136) [x0,x1] bO.2) λcn=>ah (call (cO 135) [cn.1,x1] cn.2) λcx=>aF Tryz.prog [(cx.1,none)] cx.2)))
def Bx{x0 x1:ae}{W:AW}{r:ae×AW}(h:xg bm x0 x1 W=some r):bm (.func (.func 97) #[] #[]) [x0,x1] W=some (gc W r):=bH (nt:=43) (n:=2) (by kernel_rfl) (by kernel_rfl) rfl (aJ (by kernel_rfl) h)
def cN(call:Eng.Callee)(R:Nat->ae)(W:AW):Option LT:=ah (aw Tryz.prog .lss 3 false false (R 8) (R 7) W) λr2=>bg r2.1 (ah (gn 3 (R 0) (R 8) r2.2) λr3=>ah (bA 3 r3.1 r3.2) λr4=>ah (call (R 1) [r4.1] r4.2) λr5=>bg r5.1 (some (X.ret,(bi R [(9,r2.1),(10,(R 8)),(5,(R 8)),(11,(R 1)),(12,(R 0)),(13,(R 8)),(14,r3.1),(15,r4.1),(16,r5.1),(17,(R 8)),(4,(R 8))]),r5.2)) (ah (aw Tryz.prog .add 3 false true (R 8) (.af 1) r5.2) λr6=>some (X.normal,(bi R [(9,r2.1),(10,(R 8)),(5,(R 8)),(11,(R 1)),(12,(R 0)),(13,(R 8)),(14,r3.1),(15,r4.1),(16,r5.1),(18,r6.1),(8,r6.1)]),r6.2))) (some (X.exit 0,(eP R (some 9) r2.1),r2.2))
def eg(call:Eng.Callee)(x0 x1:ae)(W:AW):Option (ae×AW):=ah (aB Tryz.prog .len #[22] 3 #[false] [x0] W) λr1=>ah (cW (cN call) (bi (dp 0 [x0,x1] ak.blank) [(4,(.af 0)),(6,x0),(7,r1.1),(8,(.af 0))]) r1.2) λr7=>di 0 r7.1 (aF Tryz.prog [((.af (-1)),none)] r7.2.2) (iq r7.1 (aF Tryz.prog [((r7.2.1 4),none)] r7.2.2))
def gp{x0 x1:ae}{W:AW}{r:ae×AW}(h:eg bm x0 x1 W=some r):bm (.func (.func 98) #[] #[]) [x0,x1] W=some (gc W r):=bH (nt:=19) (n:=2) (by kernel_rfl) (by kernel_rfl) rfl (aJ (by kernel_rfl) h)
def fO(call:Eng.Callee)(R:Nat->ae)(W:AW):Option LT:=ah (aw Tryz.prog .lss 3 false false (R 8) (R 7) W) λr2=>bg r2.1 (ah (gn 1 (R 0) (R 8) r2.2) λr3=>ah (aK r3.1 r3.2) λr4=>ah (call (R 1) [r4.1] r4.2) λr5=>bg r5.1 (some (X.ret,(bi R [(9,r2.1),(10,(R 8)),(5,(R 8)),(11,(R 1)),(12,(R 0)),(13,(R 8)),(14,r3.1),(15,r4.1),(16,r5.1),(17,(R 8)),(4,(R 8))]),r5.2)) (ah (aw Tryz.prog .add 3 false true (R 8) (.af 1) r5.2) λr6=>some (X.normal,(bi R [(9,r2.1),(10,(R 8)),(5,(R 8)),(11,(R 1)),(12,(R 0)),(13,(R 8)),(14,r3.1),(15,r4.1),(16,r5.1),(18,r6.1),(8,r6.1)]),r6.2))) (some (X.exit 0,(eP R (some 9) r2.1),r2.2))
def kH(call:Eng.Callee)(x0 x1:ae)(W:AW):Option (ae×AW):=ah (aB Tryz.prog .len #[64] 3 #[false] [x0] W) λr1=>ah (cW (fO call) (bi (dp 0 [x0,x1] ak.blank) [(4,(.af 0)),(6,x0),(7,r1.1),(8,(.af 0))]) r1.2) λr7=>di 0 r7.1 (aF Tryz.prog [((.af (-1)),none)] r7.2.2) (iq r7.1 (aF Tryz.prog [((r7.2.1 4),none)] r7.2.2))
def pm{x0 x1:ae}{W:AW}{r:ae×AW}(h:kH bm x0 x1 W=some r):bm (.func (.func 99) #[] #[]) [x0,x1] W=some (gc W r):=bH (nt:=19) (n:=2) (by kernel_rfl) (by kernel_rfl) rfl (aJ (by kernel_rfl) h)
def ui(call:Eng.Callee)(R:Nat->ae)(W:AW):Option LT:=ah (aY Tryz.prog 135 W) λbV=>ah (bP 2 bV.1 (R 25) bV.2) λcj=>some (X.normal,(bi R [(10,(R 24)),(11,bV.1)]),cj.2)
def w4(call:Eng.Callee)(R:Nat->ae)(W:AW):gH Tryz.prog call false 31 (Ih [1,1,1,0,1,0,0] (Sp 100)) LT R W nB=ui call R W:=by kernel_rfl
def tF(call:Eng.Callee)(R:Nat->ae)(W:AW):Option LT:=ah (aK (R 5) W) λcd=>ah (aw Tryz.prog .eql 3 false false (R 10) cd.1 cd.2) λbO=>bg bO.1 (ah (bA 2 (R 11) bO.2) λbW=>ah (bP 2 (R 6) bW.1 bW.2) λcz=>ah (bP 1 (R 7) (.af 0) cz.2) λcn=>some (X.ret,(bi R [(26,(R 10)),(27,cd.1),(28,bO.1),(29,bW.1)]),cn.2)) (some (X.normal,(bi R [(26,(R 10)),(27,cd.1),(28,bO.1)]),bO.2))
def xT(call:Eng.Callee)(R:Nat->ae)(W:AW):gH Tryz.prog call false 31 (Ih [1,1,1,0,1,0,1] (Sp 100)) LT R W nB=tF call R W:=by kernel_rfl
def DU(call:Eng.Callee)(x0 x1 x2:ae)(W:AW):Option (ae×AW):=ah (cD x0 W) λr1=>ah (cD x1 r1.2) λr2=>ah (cD x2 r2.2) λr3=>ah (aY Tryz.prog 135 r3.2) λr4=>ah (aY Tryz.prog 30 r4.2) λr5=>ah (bA 4 r1.1 r5.2) λr6=>ah (bA 12 r2.1 r6.2) λr7=>ah (call (cO 101) [r6.1,r7.1] r7.2) λr8=>ah (ap r8.1 0 r8.2) λr9=>ah (ap r8.1 1 r9.2) λbw=>ah (aw Tryz.prog .neq 30 false true bw.1 (.af 0) bw.2) λbB=>bg bB.1 (ah (bD Tryz.prog 135 [] bB.2) λbQ=>ah (bP 2 r4.1 bQ.1 bQ.2) λbS=>ah (bP 1 r5.1 bw.1 bS.2) λcm=>aF Tryz.prog [(r4.1,some 135),(r5.1,some 30)] cm.2) (ah (call (cO 137) [r9.1] bB.2) λbN=>ah (jP call bN.1 (.loop .ready none (bi (dp 0 [x0,x1,x2] ak.blank) [(3,r1.1),(4,r2.1),(5,r3.1),(6,r4.1),(7,r5.1),(13,r6.1),(14,r7.1),(15,r8.1),(12,r8.1),(16,r9.1),(17,bw.1),(8,r9.1),(9,bw.1),(18,bw.1),(19,bB.1),(22,r9.1),(23,bN.1)]) 31 #[24,25] (Ih [1,1,1,0,1,0,0] (Sp 100)) (Ih [1,1,1,0,1,0,1] (Sp 100))) bN.2) λcx=>sU cx.1 (ah (bD Tryz.prog 135 [] cx.2) λcE=>ah (bP 2 r4.1 cE.1 cE.2) λcH=>ah (bP 1 r5.1 (.af 7) cH.2) λcZ=>aF Tryz.prog [(r4.1,some 135),(r5.1,some 30)] cZ.2) (iq cx.1 (aF Tryz.prog [(r4.1,some 135),(r5.1,some 30)] cx.2)))
def EZ{x0 x1 x2:ae}{W:AW}{r:ae×AW}(h:DU bm x0 x1 x2 W=some r):bm (.func (.func 100) #[] #[]) [x0,x1,x2] W=some (gc W r):=bH (nt:=31) (n:=3) (by kernel_rfl) (by kernel_rfl) rfl (aJ (by kernel_rfl) h)
def oP(call:Eng.Callee)(R:Nat->ae)(W:AW):Option LT:=ah (aw Tryz.prog .lss 3 false false (R 64) (R 63) W) λcx=>bg cx.1 (ah (aD Tryz.prog 64 1 [(0,(R 64))] cx.2) λcE=>ah (aN Tryz.prog cE.2 #[64,64] (R 11) cE.1) λcH=>ah (aw Tryz.prog .add 3 false true (R 64) (.af 1) cH.2) λcZ=>some (X.normal,(bi R [(65,cx.1),(66,(R 64)),(12,(R 64)),(67,(R 11)),(68,(R 64)),(69,cE.1),(70,cH.1),(11,cH.1),(71,cZ.1),(64,cZ.1)]),cZ.2)) (some (X.exit 6,(eP R (some 65) cx.1),cx.2))
def AV(call:Eng.Callee)(x0 x1:ae)(W:AW):Option (ae×AW):=ah (cD x0 W) λr1=>ah (cD x1 r1.2) λr2=>ah (bA 4 r1.1 r2.2) λr3=>ah (call (cO 33) [r3.1] r3.2) λr4=>ah (ap r4.1 0 r4.2) λr5=>ah (ap r4.1 1 r5.2) λr6=>ah (aw Tryz.prog .neq 30 false true r6.1 (.af 0) r6.2) λr7=>bg r7.1 (aF Tryz.prog [((.slice none 0 0),none),(r6.1,none)] r7.2) (ah (bA 12 r2.1 r7.2) λr8=>ah (call (cO 66) [r8.1] r8.2) λr9=>ah (ap r9.1 0 r9.2) λbw=>ah (ap r9.1 1 bw.2) λbB=>ah (ap r9.1 2 bB.2) λbQ=>ah (aw Tryz.prog .neq 30 false true bQ.1 (.af 0) bQ.2) λbS=>bg bS.1 (aF Tryz.prog [((.slice none 0 0),none),(bQ.1,none)] bS.2) (ah (aO 0 r2.1 bS.2) λcm=>ah (aK cm.1 cm.2) λbN=>ah (aw Tryz.prog .eql 3 false true bN.1 (.af 12) bN.2) λbV=>bg bV.1 (ah (aO 0 r1.1 bV.2) λcj=>ah (aK cj.1 cj.2) λcd=>ah (aO 3 r1.1 cd.2) λbO=>ah (aK bO.1 bO.2) λbW=>ah (aB Tryz.prog .len #[22] 3 #[false] [bW.1] bW.2) λcz=>ah (aw Tryz.prog .add 3 false false cd.1 cz.1 cz.2) λcn=>ah (cW (oP call) (bi (dp 0 [x0,x1] ak.blank) [(2,r1.1),(3,r2.1),(4,(.slice none 0 0)),(5,(.af 0)),(24,r3.1),(25,r4.1),(23,r4.1),(26,r5.1),(27,r6.1),(6,r5.1),(7,r6.1),(28,r6.1),(29,r7.1),(32,r8.1),(33,r9.1),(31,r9.1),(34,bw.1),(35,bB.1),(36,bQ.1),(8,bw.1),(9,bB.1),(10,bQ.1),(37,bQ.1),(38,bS.1),(11,(.slice none 0 0)),(40,cm.1),(41,bN.1),(43,bV.1),(42,bV.1),(58,cj.1),(59,cd.1),(60,bO.1),(61,bW.1),(62,cz.1),(63,cn.1),(64,(.af 0))]) cn.2) λcX=>di 6 cX.1 (aF Tryz.prog [((cX.2.1 11),none),((.af 0),none)] cX.2.2) (none)) (ah (aw Tryz.prog .eql 3 false true bN.1 (.af 3) bV.2) λdm=>bg dm.1 (ah (bA 4 r1.1 dm.2) λcU=>ah (call (cO 138) [cU.1,bB.1] cU.2) λdN=>ah (ap dN.1 0 dN.2) λdK=>ah (ap dN.1 1 dK.2) λdY=>ah (aw Tryz.prog .eql 30 false true dY.1 (.af 0) dY.2) λdC=>bg dC.1 (aF Tryz.prog [(dK.1,none),((.af 0),none)] dC.2) (aF Tryz.prog [((.slice none 0 0),none),((.af 0),none)] dC.2)) (ah (aw Tryz.prog .eql 3 false true bN.1 (.af 4) dm.2) λdv=>bg dv.1 (bg dv.1 (ah (bA 4 r1.1 dv.2) λdT=>ah (call (cO 139) [dT.1,bw.1] dT.2) λdU=>ah (ap dU.1 0 dU.2) λez=>ah (ap dU.1 1 ez.2) λfU=>ah (aY Tryz.prog 167 fU.2) λfB=>ah (bP 3 fB.1 ez.1 fB.2) λfA=>ah (aw Tryz.prog .eql 30 false true fU.1 (.af 0) fA.2) λgd=>bg gd.1 (ah (bA 4 r1.1 gd.2) λfS=>ah (aO 0 fB.1 fS.2) λgX=>ah (aK gX.1 gX.2) λgG=>ah (call (cO 140) [fS.1,gG.1] gG.2) λfH=>ah (ap fH.1 0 fH.2) λiH=>ah (ap fH.1 1 iH.2) λjB=>ah (aD Tryz.prog 64 1 [(0,iH.1)] jB.2) λi9=>ah (aN Tryz.prog i9.2 #[64,64] (.slice none 0 0) i9.1) λkW=>ah (bA 4 r1.1 kW.2) λj0=>ah (call (cO 141) [j0.1,bw.1] j0.2) λlq=>ah (ap lq.1 0 lq.2) λlT=>ah (ap lq.1 1 lT.2) λkY=>ah (aw Tryz.prog .eql 30 false true kY.1 (.af 0) kY.2) λj6=>bg j6.1 (ah (aD Tryz.prog 64 1 [(0,lT.1)] j6.2) λpi=>ah (aN Tryz.prog pi.2 #[64,64] pi.1 kW.1) λlz=>aF Tryz.prog [(lz.1,none),((.af 0),none)] lz.2) (aF Tryz.prog [(kW.1,none),((.af 0),none)] j6.2)) (ah (bA 4 r1.1 gd.2) λoh=>ah (call (cO 141) [oh.1,bw.1] oh.2) λo6=>ah (ap o6.1 0 o6.2) λmR=>ah (ap o6.1 1 mR.2) λph=>ah (aw Tryz.prog .eql 30 false true ph.1 (.af 0) ph.2) λpe=>bg pe.1 (ah (aD Tryz.prog 64 1 [(0,mR.1)] pe.2) λuu=>ah (aN Tryz.prog uu.2 #[64,64] uu.1 (.slice none 0 0)) λrF=>aF Tryz.prog [(rF.1,none),((.af 0),none)] rF.2) (aF Tryz.prog [((.slice none 0 0),none),((.af 0),none)] pe.2))) (ah (aw Tryz.prog .eql 3 false true bN.1 (.af 2) dv.2) λwI=>bg wI.1 (bg wI.1 (ah (bA 4 r1.1 wI.2) λBr=>ah (call (cO 141) [Br.1,bw.1] Br.2) λwP=>ah (ap wP.1 0 wP.2) λDe=>ah (ap wP.1 1 De.2) λwt=>ah (aw Tryz.prog .eql 30 false true wt.1 (.af 0) wt.2) λAx=>bg Ax.1 (ah (aD Tryz.prog 64 1 [(0,De.1)] Ax.2) λzM=>ah (aN Tryz.prog zM.2 #[64,64] zM.1 (.slice none 0 0)) λqo=>aF Tryz.prog [(qo.1,none),((.af 0),none)] qo.2) (aF Tryz.prog [((.slice none 0 0),none),((.af 0),none)] Ax.2)) (ah (aw Tryz.prog .eql 3 false true bN.1 (.af 10) wI.2) λwN=>bg wN.1 (bg wN.1 (ah (bA 4 r1.1 wN.2) λDf=>ah (call (cO 140) [Df.1,bB.1] Df.2) λyG=>ah (ap yG.1 0 yG.2) λEw=>ah (ap yG.1 1 Ew.2) λxZ=>ah (aw Tryz.prog .eql 30 false true xZ.1 (.af 0) xZ.2) λEp=>bg Ep.1 (ah (aD Tryz.prog 64 1 [(0,Ew.1)] Ep.2) λEl=>ah (aN Tryz.prog El.2 #[64,64] (.slice none 0 0) El.1) λE1=>aF Tryz.prog [(E1.1,none),((.af 0),none)] E1.2) (aF Tryz.prog [((.slice none 0 0),none),((.af 0),none)] Ep.2)) (aF Tryz.prog [((.slice none 0 0),none),((.af 0),none)] wN.2)) (ah (aw Tryz.prog .eql 3 false true bN.1 (.af 11) wN.2) λIf=>bg If.1 (ah (bA 4 r1.1 If.2) λHk=>ah (call (cO 140) [Hk.1,bB.1] Hk.2) λFl=>ah (ap Fl.1 0 Fl.2) λIa=>ah (ap Fl.1 1 Ia.2) λID=>ah (aw Tryz.prog .eql 30 false true ID.1 (.af 0) ID.2) λE2=>bg E2.1 (ah (aD Tryz.prog 64 1 [(0,Ia.1)] E2.2) λH6=>ah (aN Tryz.prog H6.2 #[64,64] (.slice none 0 0) H6.1) λM8=>aF Tryz.prog [(M8.1,none),((.af 0),none)] M8.2) (aF Tryz.prog [((.slice none 0 0),none),((.af 0),none)] E2.2)) (aF Tryz.prog [((.slice none 0 0),none),((.af 0),none)] If.2)))) (ah (aw Tryz.prog .eql 3 false true bN.1 (.af 5) wI.2) λIj=>bg Ij.1 (bg Ij.1 (ah (bA 4 r1.1 Ij.2) λPT=>ah (call (cO 141) [PT.1,bw.1] PT.2) λOA=>ah (ap OA.1 0 OA.2) λRL=>ah (ap OA.1 1 RL.2) λr92=>ah (aw Tryz.prog .eql 30 false true r92.1 (.af 0) r92.2) λNJ=>bg NJ.1 (ah (aD Tryz.prog 64 1 [(0,RL.1)] NJ.2) λK9=>ah (aN Tryz.prog K9.2 #[64,64] K9.1 (.slice none 0 0)) λRm=>aF Tryz.prog [(Rm.1,none),((.af 0),none)] Rm.2) (aF Tryz.prog [((.slice none 0 0),none),((.af 0),none)] NJ.2)) (ah (aw Tryz.prog .eql 3 false true bN.1 (.af 10) Ij.2) λON=>bg ON.1 (bg ON.1 (ah (bA 4 r1.1 ON.2) λWV=>ah (call (cO 140) [WV.1,bB.1] WV.2) λR6=>ah (ap R6.1 0 R6.2) λXf=>ah (ap R6.1 1 Xf.2) λxr=>ah (aw Tryz.prog .eql 30 false true xr.1 (.af 0) xr.2) λyp=>bg yp.1 (ah (aD Tryz.prog 64 1 [(0,Xf.1)] yp.2) λzT=>ah (aN Tryz.prog zT.2 #[64,64] (.slice none 0 0) zT.1) λCP=>aF Tryz.prog [(CP.1,none),((.af 0),none)] CP.2) (aF Tryz.prog [((.slice none 0 0),none),((.af 0),none)] yp.2)) (aF Tryz.prog [((.slice none 0 0),none),((.af 0),none)] ON.2)) (ah (aw Tryz.prog .eql 3 false true bN.1 (.af 11) ON.2) λIF=>bg IF.1 (ah (bA 4 r1.1 IF.2) λJP=>ah (call (cO 140) [JP.1,bB.1] JP.2) λrD=>ah (ap rD.1 0 rD.2) λHM=>ah (ap rD.1 1 HM.2) λIL=>ah (aw Tryz.prog .eql 30 false true IL.1 (.af 0) IL.2) λEm=>bg Em.1 (ah (aD Tryz.prog 64 1 [(0,HM.1)] Em.2) λHD=>ah (aN Tryz.prog HD.2 #[64,64] (.slice none 0 0) HD.1) λG3=>aF Tryz.prog [(G3.1,none),((.af 0),none)] G3.2) (aF Tryz.prog [((.slice none 0 0),none),((.af 0),none)] Em.2)) (aF Tryz.prog [((.slice none 0 0),none),((.af 0),none)] IF.2)))) (ah (aw Tryz.prog .eql 3 false true bN.1 (.af 6) Ij.2) λA8=>bg A8.1 (bg A8.1 (ah (bA 4 r1.1 A8.2) λKZ=>ah (call (cO 141) [KZ.1,bw.1] KZ.2) λBj=>ah (ap Bj.1 0 Bj.2) λGV=>ah (ap Bj.1 1 GV.2) λUt=>ah (aw Tryz.prog .eql 30 false true Ut.1 (.af 0) Ut.2) λMw=>bg Mw.1 (ah (aD Tryz.prog 64 1 [(0,GV.1)] Mw.2) λWk=>ah (aN Tryz.prog Wk.2 #[64,64] Wk.1 (.slice none 0 0)) λY1=>aF Tryz.prog [(Y1.1,none),((.af 0),none)] Y1.2) (aF Tryz.prog [((.slice none 0 0),none),((.af 0),none)] Mw.2)) (ah (aw Tryz.prog .eql 3 false true bN.1 (.af 10) A8.2) λJc=>bg Jc.1 (bg Jc.1 (ah (bA 4 r1.1 Jc.2) λU8=>ah (call (cO 140) [U8.1,bB.1] U8.2) λRw=>ah (ap Rw.1 0 Rw.2) λUZ=>ah (ap Rw.1 1 UZ.2) λUJ=>ah (aw Tryz.prog .eql 30 false true UJ.1 (.af 0) UJ.2) λWr=>bg Wr.1 (ah (aD Tryz.prog 64 1 [(0,UZ.1)] Wr.2) λTW=>ah (aN Tryz.prog TW.2 #[64,64] (.slice none 0 0) TW.1) λRO=>aF Tryz.prog [(RO.1,none),((.af 0),none)] RO.2) (aF Tryz.prog [((.slice none 0 0),none),((.af 0),none)] Wr.2)) (aF Tryz.prog [((.slice none 0 0),none),((.af 0),none)] Jc.2)) (ah (aw Tryz.prog .eql 3 false true bN.1 (.af 11) Jc.2) λRG=>bg RG.1 (ah (bA 4 r1.1 RG.2) λUS=>ah (call (cO 140) [US.1,bB.1] US.2) λQh=>ah (ap Qh.1 0 Qh.2) λWg=>ah (ap Qh.1 1 Wg.2) λSQ=>ah (aw Tryz.prog .eql 30 false true SQ.1 (.af 0) SQ.2) λPY=>bg PY.1 (ah (aD Tryz.prog 64 1 [(0,Wg.1)] PY.2) λWe=>ah (aN Tryz.prog We.2 #[64,64] (.slice none 0 0) We.1) λVs=>aF Tryz.prog [(Vs.1,none),((.af 0),none)] Vs.2) (aF Tryz.prog [((.slice none 0 0),none),((.af 0),none)] PY.2)) (aF Tryz.prog [((.slice none 0 0),none),((.af 0),none)] RG.2)))) (ah (aw Tryz.prog .eql 3 false true bN.1 (.af 9) A8.2) λVr=>bg Vr.1 (ah (bA 4 r1.1 Vr.2) λUV=>ah (call (cO 141) [UV.1,bw.1] UV.2) λUY=>ah (ap UY.1 0 UY.2) λVt=>ah (ap UY.1 1 Vt.2) λQo=>ah (aw Tryz.prog .eql 30 false true Qo.1 (.af 0) Qo.2) λLI=>bg LI.1 (ah (aD Tryz.prog 64 1 [(0,Vt.1)] LI.2) λTL=>ah (aN Tryz.prog TL.2 #[64,64] TL.1 (.slice none 0 0)) λVd=>aF Tryz.prog [(Vd.1,none),((.af 0),none)] Vd.2) (aF Tryz.prog [((.slice none 0 0),none),((.af 0),none)] LI.2)) (ah (aw Tryz.prog .eql 3 false true bN.1 (.af 10) Vr.2) λJx=>bg Jx.1 (bg Jx.1 (ah (bA 4 r1.1 Jx.2) λVx=>ah (call (cO 140) [Vx.1,bB.1] Vx.2) λPK=>ah (ap PK.1 0 PK.2) λSU=>ah (ap PK.1 1 SU.2) λPO=>ah (aw Tryz.prog .eql 30 false true PO.1 (.af 0) PO.2) λR5=>bg R5.1 (ah (aD Tryz.prog 64 1 [(0,SU.1)] R5.2) λXR=>ah (aN Tryz.prog XR.2 #[64,64] (.slice none 0 0) XR.1) λUq=>aF Tryz.prog [(Uq.1,none),((.af 0),none)] Uq.2) (aF Tryz.prog [((.slice none 0 0),none),((.af 0),none)] R5.2)) (aF Tryz.prog [((.slice none 0 0),none),((.af 0),none)] Jx.2)) (ah (aw Tryz.prog .eql 3 false true bN.1 (.af 11) Jx.2) λPz=>bg Pz.1 (ah (bA 4 r1.1 Pz.2) λUC=>ah (call (cO 140) [UC.1,bB.1] UC.2) λQm=>ah (ap Qm.1 0 Qm.2) λUN=>ah (ap Qm.1 1 UN.2) λVJ=>ah (aw Tryz.prog .eql 30 false true VJ.1 (.af 0) VJ.2) λRD=>bg RD.1 (ah (aD Tryz.prog 64 1 [(0,UN.1)] RD.2) λYr=>ah (aN Tryz.prog Yr.2 #[64,64] (.slice none 0 0) Yr.1) λQs=>aF Tryz.prog [(Qs.1,none),((.af 0),none)] Qs.2) (aF Tryz.prog [((.slice none 0 0),none),((.af 0),none)] RD.2)) (aF Tryz.prog [((.slice none 0 0),none),((.af 0),none)] Pz.2)))))))) (ah (aw Tryz.prog .eql 3 false true bN.1 (.af 8) dv.2) λIZ=>bg IZ.1 (bg IZ.1 (ah (bA 4 r1.1 IZ.2) λUg=>ah (call (cO 139) [Ug.1,bw.1] Ug.2) λPW=>ah (ap PW.1 0 PW.2) λTp=>ah (ap PW.1 1 Tp.2) λVT=>ah (aY Tryz.prog 167 VT.2) λVo=>ah (bP 3 Vo.1 Tp.1 Vo.2) λXV=>ah (aw Tryz.prog .eql 30 false true VT.1 (.af 0) XV.2) λPI=>bg PI.1 (ah (bA 4 r1.1 PI.2) λWN=>ah (aO 0 Vo.1 WN.2) λVB=>ah (aK VB.1 VB.2) λQO=>ah (call (cO 140) [WN.1,QO.1] QO.2) λLw=>ah (ap Lw.1 0 Lw.2) λQQ=>ah (ap Lw.1 1 QQ.2) λVK=>ah (aD Tryz.prog 64 1 [(0,QQ.1)] VK.2) λP2=>ah (aN Tryz.prog P2.2 #[64,64] (.slice none 0 0) P2.1) λLH=>ah (bA 4 r1.1 LH.2) λWa=>ah (call (cO 141) [Wa.1,bw.1] Wa.2) λQB=>ah (ap QB.1 0 QB.2) λML=>ah (ap QB.1 1 ML.2) λWH=>ah (aw Tryz.prog .eql 30 false true WH.1 (.af 0) WH.2) λQn=>bg Qn.1 (ah (aD Tryz.prog 64 1 [(0,ML.1)] Qn.2) λZt=>ah (aN Tryz.prog Zt.2 #[64,64] Zt.1 LH.1) λSZ=>aF Tryz.prog [(SZ.1,none),((.af 0),none)] SZ.2) (aF Tryz.prog [(LH.1,none),((.af 0),none)] Qn.2)) (ah (bA 4 r1.1 PI.2) λPn=>ah (call (cO 141) [Pn.1,bw.1] Pn.2) λRT=>ah (ap RT.1 0 RT.2) λWL=>ah (ap RT.1 1 WL.2) λWK=>ah (aw Tryz.prog .eql 30 false true WK.1 (.af 0) WK.2) λS9=>bg S9.1 (ah (aD Tryz.prog 64 1 [(0,WL.1)] S9.2) λyN=>ah (aN Tryz.prog yN.2 #[64,64] yN.1 (.slice none 0 0)) λRc=>aF Tryz.prog [(Rc.1,none),((.af 0),none)] Rc.2) (aF Tryz.prog [((.slice none 0 0),none),((.af 0),none)] S9.2))) (ah (aw Tryz.prog .eql 3 false true bN.1 (.af 2) IZ.2) λG7=>bg G7.1 (bg G7.1 (ah (bA 4 r1.1 G7.2) λRN=>ah (call (cO 141) [RN.1,bw.1] RN.2) λMZ=>ah (ap MZ.1 0 MZ.2) λRP=>ah (ap MZ.1 1 RP.2) λEP=>ah (aw Tryz.prog .eql 30 false true EP.1 (.af 0) EP.2) λMl=>bg Ml.1 (ah (aD Tryz.prog 64 1 [(0,RP.1)] Ml.2) λRq=>ah (aN Tryz.prog Rq.2 #[64,64] Rq.1 (.slice none 0 0)) λC2=>aF Tryz.prog [(C2.1,none),((.af 0),none)] C2.2) (aF Tryz.prog [((.slice none 0 0),none),((.af 0),none)] Ml.2)) (ah (aw Tryz.prog .eql 3 false true bN.1 (.af 10) G7.2) λGG=>bg GG.1 (bg GG.1 (ah (bA 4 r1.1 GG.2) λRA=>ah (call (cO 140) [RA.1,bB.1] RA.2) λMG=>ah (ap MG.1 0 MG.2) λQj=>ah (ap MG.1 1 Qj.2) λRs=>ah (aw Tryz.prog .eql 30 false true Rs.1 (.af 0) Rs.2) λMz=>bg Mz.1 (ah (aD Tryz.prog 64 1 [(0,Qj.1)] Mz.2) λS3=>ah (aN Tryz.prog S3.2 #[64,64] (.slice none 0 0) S3.1) λPP=>aF Tryz.prog [(PP.1,none),((.af 0),none)] PP.2) (aF Tryz.prog [((.slice none 0 0),none),((.af 0),none)] Mz.2)) (aF Tryz.prog [((.slice none 0 0),none),((.af 0),none)] GG.2)) (ah (aw Tryz.prog .eql 3 false true bN.1 (.af 11) GG.2) λvA=>bg vA.1 (ah (bA 4 r1.1 vA.2) λSa=>ah (call (cO 140) [Sa.1,bB.1] Sa.2) λLr=>ah (ap Lr.1 0 Lr.2) λPl=>ah (ap Lr.1 1 Pl.2) λH2=>ah (aw Tryz.prog .eql 30 false true H2.1 (.af 0) H2.2) λLG=>bg LG.1 (ah (aD Tryz.prog 64 1 [(0,Pl.1)] LG.2) λQp=>ah (aN Tryz.prog Qp.2 #[64,64] (.slice none 0 0) Qp.1) λQZ=>aF Tryz.prog [(QZ.1,none),((.af 0),none)] QZ.2) (aF Tryz.prog [((.slice none 0 0),none),((.af 0),none)] LG.2)) (aF Tryz.prog [((.slice none 0 0),none),((.af 0),none)] vA.2)))) (ah (aw Tryz.prog .eql 3 false true bN.1 (.af 5) G7.2) λGK=>bg GK.1 (bg GK.1 (ah (bA 4 r1.1 GK.2) λGJ=>ah (call (cO 141) [GJ.1,bw.1] GJ.2) λMC=>ah (ap MC.1 0 MC.2) λSf=>ah (ap MC.1 1 Sf.2) λQS=>ah (aw Tryz.prog .eql 30 false true QS.1 (.af 0) QS.2) λNr=>bg Nr.1 (ah (aD Tryz.prog 64 1 [(0,Sf.1)] Nr.2) λHU=>ah (aN Tryz.prog HU.2 #[64,64] HU.1 (.slice none 0 0)) λQF=>aF Tryz.prog [(QF.1,none),((.af 0),none)] QF.2) (aF Tryz.prog [((.slice none 0 0),none),((.af 0),none)] Nr.2)) (ah (aw Tryz.prog .eql 3 false true bN.1 (.af 10) GK.2) λHu=>bg Hu.1 (bg Hu.1 (ah (bA 4 r1.1 Hu.2) λQ6=>ah (call (cO 140) [Q6.1,bB.1] Q6.2) λRh=>ah (ap Rh.1 0 Rh.2) λRp=>ah (ap Rh.1 1 Rp.2) λagH=>ah (aw Tryz.prog .eql 30 false true agH.1 (.af 0) agH.2) λaaR=>bg aaR.1 (ah (aD Tryz.prog 64 1 [(0,Rp.1)] aaR.2) λajA=>ah (aN Tryz.prog ajA.2 #[64,64] (.slice none 0 0) ajA.1) λaf1=>aF Tryz.prog [(af1.1,none),((.af 0),none)] af1.2) (aF Tryz.prog [((.slice none 0 0),none),((.af 0),none)] aaR.2)) (aF Tryz.prog [((.slice none 0 0),none),((.af 0),none)] Hu.2)) (ah (aw Tryz.prog .eql 3 false true bN.1 (.af 11) Hu.2) λacv=>bg acv.1 (ah (bA 4 r1.1 acv.2) λaht=>ah (call (cO 140) [aht.1,bB.1] aht.2) λacr=>ah (ap acr.1 0 acr.2) λahp=>ah (ap acr.1 1 ahp.2) λajd=>ah (aw Tryz.prog .eql 30 false true ajd.1 (.af 0) ajd.2) λac1=>bg ac1.1 (ah (aD Tryz.prog 64 1 [(0,ahp.1)] ac1.2) λaic=>ah (aN Tryz.prog aic.2 #[64,64] (.slice none 0 0) aic.1) λajg=>aF Tryz.prog [(ajg.1,none),((.af 0),none)] ajg.2) (aF Tryz.prog [((.slice none 0 0),none),((.af 0),none)] ac1.2)) (aF Tryz.prog [((.slice none 0 0),none),((.af 0),none)] acv.2)))) (ah (aw Tryz.prog .eql 3 false true bN.1 (.af 6) GK.2) λWx=>bg Wx.1 (bg Wx.1 (ah (bA 4 r1.1 Wx.2) λafh=>ah (call (cO 141) [afh.1,bw.1] afh.2) λaa6=>ah (ap aa6.1 0 aa6.2) λajc=>ah (ap aa6.1 1 ajc.2) λahV=>ah (aw Tryz.prog .eql 30 false true ahV.1 (.af 0) ahV.2) λabb=>bg abb.1 (ah (aD Tryz.prog 64 1 [(0,ajc.1)] abb.2) λaiB=>ah (aN Tryz.prog aiB.2 #[64,64] aiB.1 (.slice none 0 0)) λaeR=>aF Tryz.prog [(aeR.1,none),((.af 0),none)] aeR.2) (aF Tryz.prog [((.slice none 0 0),none),((.af 0),none)] abb.2)) (ah (aw Tryz.prog .eql 3 false true bN.1 (.af 10) Wx.2) λTA=>bg TA.1 (bg TA.1 (ah (bA 4 r1.1 TA.2) λajs=>ah (call (cO 140) [ajs.1,bB.1] ajs.2) λabA=>ah (ap abA.1 0 abA.2) λafA=>ah (ap abA.1 1 afA.2) λai3=>ah (aw Tryz.prog .eql 30 false true ai3.1 (.af 0) ai3.2) λabg=>bg abg.1 (ah (aD Tryz.prog 64 1 [(0,afA.1)] abg.2) λajt=>ah (aN Tryz.prog ajt.2 #[64,64] (.slice none 0 0) ajt.1) λafi=>aF Tryz.prog [(afi.1,none),((.af 0),none)] afi.2) (aF Tryz.prog [((.slice none 0 0),none),((.af 0),none)] abg.2)) (aF Tryz.prog [((.slice none 0 0),none),((.af 0),none)] TA.2)) (ah (aw Tryz.prog .eql 3 false true bN.1 (.af 11) TA.2) λacm=>bg acm.1 (ah (bA 4 r1.1 acm.2) λagn=>ah (call (cO 140) [agn.1,bB.1] agn.2) λab4=>ah (ap ab4.1 0 ab4.2) λahR=>ah (ap ab4.1 1 ahR.2) λahD=>ah (aw Tryz.prog .eql 30 false true ahD.1 (.af 0) ahD.2) λack=>bg ack.1 (ah (aD Tryz.prog 64 1 [(0,ahR.1)] ack.2) λai2=>ah (aN Tryz.prog ai2.2 #[64,64] (.slice none 0 0) ai2.1) λaiw=>aF Tryz.prog [(aiw.1,none),((.af 0),none)] aiw.2) (aF Tryz.prog [((.slice none 0 0),none),((.af 0),none)] ack.2)) (aF Tryz.prog [((.slice none 0 0),none),((.af 0),none)] acm.2)))) (ah (aw Tryz.prog .eql 3 false true bN.1 (.af 9) Wx.2) λach=>bg ach.1 (ah (bA 4 r1.1 ach.2) λagd=>ah (call (cO 141) [agd.1,bw.1] agd.2) λabM=>ah (ap abM.1 0 abM.2) λag6=>ah (ap abM.1 1 ag6.2) λagR=>ah (aw Tryz.prog .eql 30 false true agR.1 (.af 0) agR.2) λabr=>bg abr.1 (ah (aD Tryz.prog 64 1 [(0,ag6.1)] abr.2) λaeE=>ah (aN Tryz.prog aeE.2 #[64,64] aeE.1 (.slice none 0 0)) λag0=>aF Tryz.prog [(ag0.1,none),((.af 0),none)] ag0.2) (aF Tryz.prog [((.slice none 0 0),none),((.af 0),none)] abr.2)) (ah (aw Tryz.prog .eql 3 false true bN.1 (.af 10) ach.2) λT1=>bg T1.1 (bg T1.1 (ah (bA 4 r1.1 T1.2) λahe=>ah (call (cO 140) [ahe.1,bB.1] ahe.2) λab8=>ah (ap ab8.1 0 ab8.2) λafe=>ah (ap ab8.1 1 afe.2) λafG=>ah (aw Tryz.prog .eql 30 false true afG.1 (.af 0) afG.2) λacj=>bg acj.1 (ah (aD Tryz.prog 64 1 [(0,afe.1)] acj.2) λagA=>ah (aN Tryz.prog agA.2 #[64,64] (.slice none 0 0) agA.1) λaiW=>aF Tryz.prog [(aiW.1,none),((.af 0),none)] aiW.2) (aF Tryz.prog [((.slice none 0 0),none),((.af 0),none)] acj.2)) (aF Tryz.prog [((.slice none 0 0),none),((.af 0),none)] T1.2)) (ah (aw Tryz.prog .eql 3 false true bN.1 (.af 11) T1.2) λabP=>bg abP.1 (ah (bA 4 r1.1 abP.2) λaiR=>ah (call (cO 140) [aiR.1,bB.1] aiR.2) λabI=>ah (ap abI.1 0 abI.2) λajh=>ah (ap abI.1 1 ajh.2) λaf8=>ah (aw Tryz.prog .eql 30 false true af8.1 (.af 0) af8.2) λads=>bg ads.1 (ah (aD Tryz.prog 64 1 [(0,ajh.1)] ads.2) λagO=>ah (aN Tryz.prog agO.2 #[64,64] (.slice none 0 0) agO.1) λafj=>aF Tryz.prog [(afj.1,none),((.af 0),none)] afj.2) (aF Tryz.prog [((.slice none 0 0),none),((.af 0),none)] ads.2)) (aF Tryz.prog [((.slice none 0 0),none),((.af 0),none)] abP.2)))))))) (ah (aw Tryz.prog .eql 3 false true bN.1 (.af 7) IZ.2) λaba=>bg aba.1 (ah (bA 4 r1.1 aba.2) λafZ=>ah (call (cO 139) [afZ.1,bw.1] afZ.2) λadx=>ah (ap adx.1 0 adx.2) λaiH=>ah (ap adx.1 1 aiH.2) λah5=>ah (aY Tryz.prog 167 ah5.2) λaaK=>ah (bP 3 aaK.1 aiH.1 aaK.2) λala=>ah (aw Tryz.prog .eql 30 false true ah5.1 (.af 0) ala.2) λacY=>bg acY.1 (ah (bA 4 r1.1 acY.2) λaiY=>ah (aO 0 aaK.1 aiY.2) λaeS=>ah (aK aeS.1 aeS.2) λahK=>ah (call (cO 140) [aiY.1,ahK.1] ahK.2) λabz=>ah (ap abz.1 0 abz.2) λaiA=>ah (ap abz.1 1 aiA.2) λakT=>ah (aD Tryz.prog 64 1 [(0,aiA.1)] akT.2) λah7=>ah (aN Tryz.prog ah7.2 #[64,64] (.slice none 0 0) ah7.1) λac5=>ah (bA 4 r1.1 ac5.2) λafz=>ah (call (cO 141) [afz.1,bw.1] afz.2) λabm=>ah (ap abm.1 0 abm.2) λafL=>ah (ap abm.1 1 afL.2) λafP=>ah (aw Tryz.prog .eql 30 false true afP.1 (.af 0) afP.2) λace=>bg ace.1 (ah (aD Tryz.prog 64 1 [(0,afL.1)] ace.2) λahk=>ah (aN Tryz.prog ahk.2 #[64,64] ahk.1 ac5.1) λahf=>aF Tryz.prog [(ahf.1,none),((.af 0),none)] ahf.2) (aF Tryz.prog [(ac5.1,none),((.af 0),none)] ace.2)) (ah (bA 4 r1.1 acY.2) λai8=>ah (call (cO 141) [ai8.1,bw.1] ai8.2) λaci=>ah (ap aci.1 0 aci.2) λaiu=>ah (ap aci.1 1 aiu.2) λagi=>ah (aw Tryz.prog .eql 30 false true agi.1 (.af 0) agi.2) λaaE=>bg aaE.1 (ah (aD Tryz.prog 64 1 [(0,aiu.1)] aaE.2) λaeI=>ah (aN Tryz.prog aeI.2 #[64,64] aeI.1 (.slice none 0 0)) λah4=>aF Tryz.prog [(ah4.1,none),((.af 0),none)] ah4.2) (aF Tryz.prog [((.slice none 0 0),none),((.af 0),none)] aaE.2))) (ah (aw Tryz.prog .eql 3 false true bN.1 (.af 2) aba.2) λSN=>bg SN.1 (bg SN.1 (ah (bA 4 r1.1 SN.2) λaf9=>ah (call (cO 141) [af9.1,bw.1] af9.2) λab0=>ah (ap ab0.1 0 ab0.2) λajm=>ah (ap ab0.1 1 ajm.2) λae3=>ah (aw Tryz.prog .eql 30 false true ae3.1 (.af 0) ae3.2) λacH=>bg acH.1 (ah (aD Tryz.prog 64 1 [(0,ajm.1)] acH.2) λaik=>ah (aN Tryz.prog aik.2 #[64,64] aik.1 (.slice none 0 0)) λafH=>aF Tryz.prog [(afH.1,none),((.af 0),none)] afH.2) (aF Tryz.prog [((.slice none 0 0),none),((.af 0),none)] acH.2)) (ah (aw Tryz.prog .eql 3 false true bN.1 (.af 10) SN.2) λT7=>bg T7.1 (bg T7.1 (ah (bA 4 r1.1 T7.2) λags=>ah (call (cO 140) [ags.1,bB.1] ags.2) λaa7=>ah (ap aa7.1 0 aa7.2) λafd=>ah (ap aa7.1 1 afd.2) λafv=>ah (aw Tryz.prog .eql 30 false true afv.1 (.af 0) afv.2) λacG=>bg acG.1 (ah (aD Tryz.prog 64 1 [(0,afd.1)] acG.2) λafo=>ah (aN Tryz.prog afo.2 #[64,64] (.slice none 0 0) afo.1) λafN=>aF Tryz.prog [(afN.1,none),((.af 0),none)] afN.2) (aF Tryz.prog [((.slice none 0 0),none),((.af 0),none)] acG.2)) (aF Tryz.prog [((.slice none 0 0),none),((.af 0),none)] T7.2)) (ah (aw Tryz.prog .eql 3 false true bN.1 (.af 11) T7.2) λaa0=>bg aa0.1 (ah (bA 4 r1.1 aa0.2) λagI=>ah (call (cO 140) [agI.1,bB.1] agI.2) λaa4=>ah (ap aa4.1 0 aa4.2) λage=>ah (ap aa4.1 1 age.2) λajv=>ah (aw Tryz.prog .eql 30 false true ajv.1 (.af 0) ajv.2) λadu=>bg adu.1 (ah (aD Tryz.prog 64 1 [(0,age.1)] adu.2) λag8=>ah (aN Tryz.prog ag8.2 #[64,64] (.slice none 0 0) ag8.1) λafk=>aF Tryz.prog [(afk.1,none),((.af 0),none)] afk.2) (aF Tryz.prog [((.slice none 0 0),none),((.af 0),none)] adu.2)) (aF Tryz.prog [((.slice none 0 0),none),((.af 0),none)] aa0.2)))) (ah (aw Tryz.prog .eql 3 false true bN.1 (.af 5) SN.2) λSL=>bg SL.1 (bg SL.1 (ah (bA 4 r1.1 SL.2) λafV=>ah (call (cO 141) [afV.1,bw.1] afV.2) λadA=>ah (ap adA.1 0 adA.2) λajz=>ah (ap adA.1 1 ajz.2) λaeT=>ah (aw Tryz.prog .eql 30 false true aeT.1 (.af 0) aeT.2) λadS=>bg adS.1 (ah (aD Tryz.prog 64 1 [(0,ajz.1)] adS.2) λahv=>ah (aN Tryz.prog ahv.2 #[64,64] ahv.1 (.slice none 0 0)) λag4=>aF Tryz.prog [(ag4.1,none),((.af 0),none)] ag4.2) (aF Tryz.prog [((.slice none 0 0),none),((.af 0),none)] adS.2)) (ah (aw Tryz.prog .eql 3 false true bN.1 (.af 10) SL.2) λVE=>bg VE.1 (bg VE.1 (ah (bA 4 r1.1 VE.2) λaiM=>ah (call (cO 140) [aiM.1,bB.1] aiM.2) λabc=>ah (ap abc.1 0 abc.2) λagD=>ah (ap abc.1 1 agD.2) λagp=>ah (aw Tryz.prog .eql 30 false true agp.1 (.af 0) agp.2) λabF=>bg abF.1 (ah (aD Tryz.prog 64 1 [(0,agD.1)] abF.2) λag1=>ah (aN Tryz.prog ag1.2 #[64,64] (.slice none 0 0) ag1.1) λafB=>aF Tryz.prog [(afB.1,none),((.af 0),none)] afB.2) (aF Tryz.prog [((.slice none 0 0),none),((.af 0),none)] abF.2)) (aF Tryz.prog [((.slice none 0 0),none),((.af 0),none)] VE.2)) (ah (aw Tryz.prog .eql 3 false true bN.1 (.af 11) VE.2) λabt=>bg abt.1 (ah (bA 4 r1.1 abt.2) λai0=>ah (call (cO 140) [ai0.1,bB.1] ai0.2) λacZ=>ah (ap acZ.1 0 acZ.2) λahq=>ah (ap acZ.1 1 ahq.2) λagJ=>ah (aw Tryz.prog .eql 30 false true agJ.1 (.af 0) agJ.2) λabp=>bg abp.1 (ah (aD Tryz.prog 64 1 [(0,ahq.1)] abp.2) λago=>ah (aN Tryz.prog ago.2 #[64,64] (.slice none 0 0) ago.1) λah9=>aF Tryz.prog [(ah9.1,none),((.af 0),none)] ah9.2) (aF Tryz.prog [((.slice none 0 0),none),((.af 0),none)] abp.2)) (aF Tryz.prog [((.slice none 0 0),none),((.af 0),none)] abt.2)))) (ah (aw Tryz.prog .eql 3 false true bN.1 (.af 6) SL.2) λSS=>bg SS.1 (bg SS.1 (ah (bA 4 r1.1 SS.2) λaia=>ah (call (cO 141) [aia.1,bw.1] aia.2) λab1=>ah (ap ab1.1 0 ab1.2) λaip=>ah (ap ab1.1 1 aip.2) λaih=>ah (aw Tryz.prog .eql 30 false true aih.1 (.af 0) aih.2) λacN=>bg acN.1 (ah (aD Tryz.prog 64 1 [(0,aip.1)] acN.2) λafY=>ah (aN Tryz.prog afY.2 #[64,64] afY.1 (.slice none 0 0)) λafE=>aF Tryz.prog [(afE.1,none),((.af 0),none)] afE.2) (aF Tryz.prog [((.slice none 0 0),none),((.af 0),none)] acN.2)) (ah (aw Tryz.prog .eql 3 false true bN.1 (.af 10) SS.2) λWA=>bg WA.1 (bg WA.1 (ah (bA 4 r1.1 WA.2) λae0=>ah (call (cO 140) [ae0.1,bB.1] ae0.2) λabY=>ah (ap abY.1 0 abY.2) λaev=>ah (ap abY.1 1 aev.2) λaiC=>ah (aw Tryz.prog .eql 30 false true aiC.1 (.af 0) aiC.2) λabv=>bg abv.1 (ah (aD Tryz.prog 64 1 [(0,aev.1)] abv.2) λaeu=>ah (aN Tryz.prog aeu.2 #[64,64] (.slice none 0 0) aeu.1) λajr=>aF Tryz.prog [(ajr.1,none),((.af 0),none)] ajr.2) (aF Tryz.prog [((.slice none 0 0),none),((.af 0),none)] abv.2)) (aF Tryz.prog [((.slice none 0 0),none),((.af 0),none)] WA.2)) (ah (aw Tryz.prog .eql 3 false true bN.1 (.af 11) WA.2) λabd=>bg abd.1 (ah (bA 4 r1.1 abd.2) λail=>ah (call (cO 140) [ail.1,bB.1] ail.2) λabD=>ah (ap abD.1 0 abD.2) λaid=>ah (ap abD.1 1 aid.2) λahM=>ah (aw Tryz.prog .eql 30 false true ahM.1 (.af 0) ahM.2) λab5=>bg ab5.1 (ah (aD Tryz.prog 64 1 [(0,aid.1)] ab5.2) λahJ=>ah (aN Tryz.prog ahJ.2 #[64,64] (.slice none 0 0) ahJ.1) λahy=>aF Tryz.prog [(ahy.1,none),((.af 0),none)] ahy.2) (aF Tryz.prog [((.slice none 0 0),none),((.af 0),none)] ab5.2)) (aF Tryz.prog [((.slice none 0 0),none),((.af 0),none)] abd.2)))) (ah (aw Tryz.prog .eql 3 false true bN.1 (.af 9) SS.2) λacD=>bg acD.1 (ah (bA 4 r1.1 acD.2) λaga=>ah (call (cO 141) [aga.1,bw.1] aga.2) λacu=>ah (ap acu.1 0 acu.2) λahz=>ah (ap acu.1 1 ahz.2) λahc=>ah (aw Tryz.prog .eql 30 false true ahc.1 (.af 0) ahc.2) λaco=>bg aco.1 (ah (aD Tryz.prog 64 1 [(0,ahz.1)] aco.2) λahO=>ah (aN Tryz.prog ahO.2 #[64,64] ahO.1 (.slice none 0 0)) λagy=>aF Tryz.prog [(agy.1,none),((.af 0),none)] agy.2) (aF Tryz.prog [((.slice none 0 0),none),((.af 0),none)] aco.2)) (ah (aw Tryz.prog .eql 3 false true bN.1 (.af 10) acD.2) λWc=>bg Wc.1 (bg Wc.1 (ah (bA 4 r1.1 Wc.2) λaiV=>ah (call (cO 140) [aiV.1,bB.1] aiV.2) λab7=>ah (ap ab7.1 0 ab7.2) λajk=>ah (ap ab7.1 1 ajk.2) λahU=>ah (aw Tryz.prog .eql 30 false true ahU.1 (.af 0) ahU.2) λacE=>bg acE.1 (ah (aD Tryz.prog 64 1 [(0,ajk.1)] acE.2) λaf7=>ah (aN Tryz.prog af7.2 #[64,64] (.slice none 0 0) af7.1) λae1=>aF Tryz.prog [(ae1.1,none),((.af 0),none)] ae1.2) (aF Tryz.prog [((.slice none 0 0),none),((.af 0),none)] acE.2)) (aF Tryz.prog [((.slice none 0 0),none),((.af 0),none)] Wc.2)) (ah (aw Tryz.prog .eql 3 false true bN.1 (.af 11) Wc.2) λac6=>bg ac6.1 (ah (bA 4 r1.1 ac6.2) λafs=>ah (call (cO 140) [afs.1,bB.1] afs.2) λabW=>ah (ap abW.1 0 abW.2) λahs=>ah (ap abW.1 1 ahs.2) λahl=>ah (aw Tryz.prog .eql 30 false true ahl.1 (.af 0) ahl.2) λadK=>bg adK.1 (ah (aD Tryz.prog 64 1 [(0,ahs.1)] adK.2) λajn=>ah (aN Tryz.prog ajn.2 #[64,64] (.slice none 0 0) ajn.1) λah2=>aF Tryz.prog [(ah2.1,none),((.af 0),none)] ah2.2) (aF Tryz.prog [((.slice none 0 0),none),((.af 0),none)] adK.2)) (aF Tryz.prog [((.slice none 0 0),none),((.af 0),none)] ac6.2)))))))))))))
def Dk{x0 x1:ae}{W:AW}{r:ae×AW}(h:AV bm x0 x1 W=some r):bm (.func (.func 101) #[] #[]) [x0,x1] W=some (gc W r):=bH (nt:=125) (n:=2) (by kernel_rfl) (by kernel_rfl) rfl (aJ (by kernel_rfl) h)
def As(call:Eng.Callee)(x0:ae)(W:AW):Option (ae×AW):=ah (aw Tryz.prog .geq 5 false true x0 (.int .u8 97) W) λr1=>ah (aQ (aU r1.1 true) (iT x0 r1.2) (some (ag,r1.2))) λr2=>ah (aQ (aU r1.1 true) (aw Tryz.prog .leq 5 false true r2.1 (.int .u8 122) r2.2) (some (ag,r2.2))) λr3=>ah (bu r1.1 r3.1 (.bool false) r3.2) λr4=>aF Tryz.prog [(r4.1,none)] r4.2
def Ci{x0:ae}{W:AW}{r:ae×AW}(h:As bm x0 W=some r):bm (.func (.func 102) #[] #[]) [x0] W=some (gc W r):=bH (nt:=9) (n:=1) (by kernel_rfl) (by kernel_rfl) rfl (aJ (by kernel_rfl) h)
def Al(call:Eng.Callee)(x0:ae)(W:AW):Option (ae×AW):=ah (aw Tryz.prog .geq 5 false true x0 (.int .u8 48) W) λr1=>ah (aQ (aU r1.1 true) (iT x0 r1.2) (some (ag,r1.2))) λr2=>ah (aQ (aU r1.1 true) (aw Tryz.prog .leq 5 false true r2.1 (.int .u8 57) r2.2) (some (ag,r2.2))) λr3=>ah (bu r1.1 r3.1 (.bool false) r3.2) λr4=>aF Tryz.prog [(r4.1,none)] r4.2
def Eh{x0:ae}{W:AW}{r:ae×AW}(h:Al bm x0 W=some r):bm (.func (.func 103) #[] #[]) [x0] W=some (gc W r):=bH (nt:=9) (n:=1) (by kernel_rfl) (by kernel_rfl) rfl (aJ (by kernel_rfl) h)
def CN(call:Eng.Callee)(x0 x1:ae)(W:AW):Option (ae×AW):=ah (cD x0 W) λr1=>ah (bA 4 r1.1 r1.2) λr2=>ah (call (cO 142) [r2.1,x1] r2.2) λr3=>ah (ap r3.1 0 r3.2) λr4=>ah (ap r3.1 1 r4.2) λr5=>ah (ap r3.1 2 r5.2) λr6=>ah (aw Tryz.prog .neq 30 false true r6.1 (.af 0) r6.2) λr7=>bg r7.1 (aF Tryz.prog [((.af 0),none),(r6.1,none)] r7.2) (ah (aO 0 r1.1 r7.2) λr8=>ah (aK r8.1 r8.2) λr9=>ah (aw Tryz.prog .add 3 false false r9.1 x1 r9.2) λbw=>aF Tryz.prog [(bw.1,none),((.af 0),none)] bw.2)
def ET{x0 x1:ae}{W:AW}{r:ae×AW}(h:CN bm x0 x1 W=some r):bm (.func (.func 105) #[] #[]) [x0,x1] W=some (gc W r):=bH (nt:=23) (n:=2) (by kernel_rfl) (by kernel_rfl) rfl (aJ (by kernel_rfl) h)
def kb(call:Eng.Callee)(R:Nat->ae)(W:AW):Option LT:=ah (aw Tryz.prog .add 3 false false (R 6) (R 7) W) λbB=>ah (aw Tryz.prog .lss 3 false false (R 12) bB.1 bB.2) λbQ=>bg bQ.1 (ah (aO 0 (R 2) bQ.2) λbS=>ah (aK bS.1 bS.2) λcm=>ah (aw Tryz.prog .rem 3 false false (R 12) cm.1 cm.2) λbN=>ah (aw Tryz.prog .eql 3 false false bN.1 (R 10) bN.2) λbV=>bg bV.1 (ah (aw Tryz.prog .add 3 false true (R 12) (.af 1) bV.2) λcj=>some (X.normal,(bi R [(30,(R 12)),(31,(R 6)),(32,(R 7)),(33,bB.1),(34,bQ.1),(37,(R 12)),(38,bS.1),(39,cm.1),(40,bN.1),(41,(R 10)),(42,bV.1),(11,(.bool true)),(35,(R 12)),(36,cj.1),(12,cj.1)]),cj.2)) (ah (aw Tryz.prog .add 3 false true (R 12) (.af 1) bV.2) λcd=>some (X.normal,(bi R [(30,(R 12)),(31,(R 6)),(32,(R 7)),(33,bB.1),(34,bQ.1),(37,(R 12)),(38,bS.1),(39,cm.1),(40,bN.1),(41,(R 10)),(42,bV.1),(35,(R 12)),(36,cd.1),(12,cd.1)]),cd.2))) (some (X.exit 2,(bi R [(30,(R 12)),(31,(R 6)),(32,(R 7)),(33,bB.1),(34,bQ.1)]),bQ.2))
def oO(call:Eng.Callee)(R:Nat->ae)(W:AW):Option LT:=ah (aO 0 (R 2) W) λr8=>ah (aK r8.1 r8.2) λr9=>ah (aw Tryz.prog .lss 3 false false (R 10) r9.1 r9.2) λbw=>bg bw.1 (ah (cW (kb call) (bi R [(23,(R 10)),(24,r8.1),(25,r9.1),(26,bw.1),(11,(.bool false)),(29,(R 6)),(12,(R 6))]) bw.2) λbO=>di 2 bO.1 (bg (bO.2.1 11) (ah (aD Tryz.prog 64 1 [(0,(bO.2.1 10))] bO.2.2) λbW=>ah (aN Tryz.prog bW.2 #[64,64] (bO.2.1 9) bW.1) λcz=>ah (aw Tryz.prog .add 3 false true (bO.2.1 10) (.af 1) cz.2) λcn=>some (X.normal,(bi bO.2.1 [(43,(bO.2.1 11)),(44,(bO.2.1 9)),(45,(bO.2.1 10)),(46,bW.1),(47,cz.1),(9,cz.1),(27,(bO.2.1 10)),(28,cn.1),(10,cn.1)]),cn.2)) (ah (aw Tryz.prog .add 3 false true (bO.2.1 10) (.af 1) bO.2.2) λcx=>some (X.normal,(bi bO.2.1 [(43,(bO.2.1 11)),(27,(bO.2.1 10)),(28,cx.1),(10,cx.1)]),cx.2))) (none)) (some (X.exit 0,(bi R [(23,(R 10)),(24,r8.1),(25,r9.1),(26,bw.1)]),bw.2))
def Ag(call:Eng.Callee)(x0 x1:ae)(W:AW):Option (ae×AW):=ah (cD x0 W) λr1=>ah (bA 4 r1.1 r1.2) λr2=>ah (call (cO 142) [r2.1,x1] r2.2) λr3=>ah (ap r3.1 0 r3.2) λr4=>ah (ap r3.1 1 r4.2) λr5=>ah (ap r3.1 2 r5.2) λr6=>ah (aw Tryz.prog .neq 30 false true r6.1 (.af 0) r6.2) λr7=>bg r7.1 (aF Tryz.prog [((.slice none 0 0),none),(r6.1,none)] r7.2) (ah (cW (oO call) (bi (dp 0 [x0,x1] ak.blank) [(2,r1.1),(4,(.slice none 0 0)),(5,(.af 0)),(14,r2.1),(15,x1),(16,r3.1),(13,r3.1),(17,r4.1),(18,r5.1),(19,r6.1),(6,r4.1),(7,r5.1),(8,r6.1),(20,r6.1),(21,r7.1),(9,(.slice none 0 0)),(10,(.af 0))]) r7.2) λcE=>di 0 cE.1 (aF Tryz.prog [((cE.2.1 9),none),((.af 0),none)] cE.2.2) (none))
def C1{x0 x1:ae}{W:AW}{r:ae×AW}(h:Ag bm x0 x1 W=some r):bm (.func (.func 106) #[] #[]) [x0,x1] W=some (gc W r):=bH (nt:=49) (n:=2) (by kernel_rfl) (by kernel_rfl) rfl (aJ (by kernel_rfl) h)
def AD(call:Eng.Callee)(x0 x1:ae)(W:AW):Option (ae×AW):=ah (cD x0 W) λr1=>ah (aY Tryz.prog 167 r1.2) λr2=>ah (bA 4 r1.1 r2.2) λr3=>ah (call (cO 143) [r3.1] r3.2) λr4=>ah (ap r4.1 0 r4.2) λr5=>ah (ap r4.1 1 r5.2) λr6=>ah (aw Tryz.prog .eql 30 false true r6.1 (.af 0) r6.2) λr7=>ah (aQ (aU r7.1 true) (iT x1 r7.2) (some (ag,r7.2))) λr8=>ah (aQ (aU r7.1 true) (aw Tryz.prog .lss 3 false true r8.1 (.af 0) r8.2) (some (ag,r8.2))) λr9=>ah (aQ (aU r7.1 true) (iT r9.1 r9.2) (some (ag,r9.2))) λbw=>ah (aQ (aU bw.1 false) (iT x1 bw.2) (some (ag,bw.2))) λbB=>ah (aQ (aU bw.1 false) (iT r5.1 bB.2) (some (ag,bB.2))) λbQ=>ah (aQ (aU bw.1 false) (aw Tryz.prog .geq 3 false false bB.1 bQ.1 bQ.2) (some (ag,bQ.2))) λbS=>ah (aQ (aU r7.1 true) (bu bw.1 (.bool true) bS.1 bS.2) (some (ag,bS.2))) λcm=>ah (bu r7.1 cm.1 (.bool false) cm.2) λbN=>bg bN.1 (ah (aw Tryz.prog .neq 30 false true (.af 4) (.af 0) bN.2) λbV=>bg bV.1 (ah (bD Tryz.prog 167 [] bV.2) λcj=>ah (bP 3 r2.1 cj.1 cj.2) λcd=>aF Tryz.prog [(r2.1,some 167),((.af 4),none)] cd.2) (ah (bA 4 r1.1 bV.2) λbO=>ah (call (cO 56) [bO.1] bO.2) λbW=>ah (gn 3 bW.1 x1 bW.2) λcz=>ah (bA 3 cz.1 cz.2) λcn=>ah (bP 3 r2.1 cn.1 cn.2) λcx=>aF Tryz.prog [(r2.1,some 167),((.af 0),none)] cx.2)) (ah (aw Tryz.prog .neq 30 false true r6.1 (.af 0) bN.2) λcE=>bg cE.1 (ah (bD Tryz.prog 167 [] cE.2) λcH=>ah (bP 3 r2.1 cH.1 cH.2) λcZ=>aF Tryz.prog [(r2.1,some 167),(r6.1,none)] cZ.2) (ah (bA 4 r1.1 cE.2) λcX=>ah (call (cO 56) [cX.1] cX.2) λdm=>ah (gn 3 dm.1 x1 dm.2) λcU=>ah (bA 3 cU.1 cU.2) λdN=>ah (bP 3 r2.1 dN.1 dN.2) λdK=>aF Tryz.prog [(r2.1,some 167),((.af 0),none)] dK.2))
def Dy{x0 x1:ae}{W:AW}{r:ae×AW}(h:AD bm x0 x1 W=some r):bm (.func (.func 107) #[] #[]) [x0,x1] W=some (gc W r):=bH (nt:=33) (n:=2) (by kernel_rfl) (by kernel_rfl) rfl (aJ (by kernel_rfl) h)
def Af(call:Eng.Callee)(x0 x1:ae)(W:AW):Option (ae×AW):=ah (cD x0 W) λr1=>ah (bA 4 r1.1 r1.2) λr2=>ah (call (cO 107) [r2.1,x1] r2.2) λr3=>ah (ap r3.1 0 r3.2) λr4=>ah (ap r3.1 1 r4.2) λr5=>ah (aY Tryz.prog 167 r5.2) λr6=>ah (bP 3 r6.1 r4.1 r6.2) λr7=>ah (aw Tryz.prog .neq 30 false true r5.1 (.af 0) r7.2) λr8=>bg r8.1 (aF Tryz.prog [((.af 0),none),(r5.1,none)] r8.2) (ah (aO 0 r1.1 r8.2) λr9=>ah (aK r9.1 r9.2) λbw=>ah (aw Tryz.prog .rem 3 false false x1 bw.1 bw.2) λbB=>aF Tryz.prog [(bB.1,none),((.af 0),none)] bB.2)
def DY{x0 x1:ae}{W:AW}{r:ae×AW}(h:Af bm x0 x1 W=some r):bm (.func (.func 108) #[] #[]) [x0,x1] W=some (gc W r):=bH (nt:=21) (n:=2) (by kernel_rfl) (by kernel_rfl) rfl (aJ (by kernel_rfl) h)
def gS(call:Eng.Callee)(R:Nat->ae)(W:AW):Option LT:=ah (aB Tryz.prog .len #[9] 3 #[false] [(R 0)] W) λr2=>ah (aw Tryz.prog .lss 3 false false (R 4) r2.1 r2.2) λr3=>bg r3.1 (ah (eH Tryz.prog 9 (R 0) (R 4) r3.2) λr4=>ah (aw Tryz.prog .geq 5 false true r4.1 (.int .u8 128) r4.2) λr5=>bg r5.1 (ah (bA 256 (R 2) r5.2) λr6=>ah (bP 256 (R 2) r6.1 r6.2) λr7=>some (X.ret,(bi R [(6,(R 4)),(7,(R 0)),(8,r2.1),(9,r3.1),(12,(R 0)),(13,(R 4)),(14,r4.1),(5,r4.1),(15,r4.1),(16,r5.1),(17,r6.1),(3,(.bool false))]),r7.2)) (ah (Gt 256 1 (R 2) r4.1 r5.2) λr8=>ah (bP 1 r8.1 (.bool true) r8.2) λr9=>ah (aw Tryz.prog .add 3 false true (R 4) (.af 1) r9.2) λbw=>some (X.normal,(bi R [(6,(R 4)),(7,(R 0)),(8,r2.1),(9,r3.1),(12,(R 0)),(13,(R 4)),(14,r4.1),(5,r4.1),(15,r4.1),(16,r5.1),(18,r4.1),(19,r8.1),(10,(R 4)),(11,bw.1),(4,bw.1)]),bw.2))) (some (X.exit 0,(bi R [(6,(R 4)),(7,(R 0)),(8,r2.1),(9,r3.1)]),r3.2))
def mI(call:Eng.Callee)(x0:ae)(W:AW):Option (ae×AW):=ah (aY Tryz.prog 212 W) λr1=>ah (cW (gS call) (bi (dp 0 [x0] ak.blank) [(2,r1.1),(3,(.bool false)),(4,(.af 0))]) r1.2) λbB=>di 0 bB.1 (ah (bA 256 (bB.2.1 2) bB.2.2) λbQ=>ah (bP 256 (bB.2.1 2) bQ.1 bQ.2) λbS=>aF Tryz.prog [((bB.2.1 2),some 212),((.bool true),none)] bS.2) (iq bB.1 (aF Tryz.prog [((bB.2.1 2),some 212),((bB.2.1 3),none)] bB.2.2))
def qQ{x0:ae}{W:AW}{r:ae×AW}(h:mI bm x0 W=some r):bm (.func (.func 132) #[] #[]) [x0] W=some (gc W r):=bH (nt:=21) (n:=1) (by kernel_rfl) (by kernel_rfl) rfl (aJ (by kernel_rfl) h)
def gh(call:Eng.Callee)(R:Nat->ae)(W:AW):Option LT:=ah (aB Tryz.prog .len #[9] 3 #[false] [(R 0)] W) λr1=>ah (aw Tryz.prog .gtr 3 false true r1.1 (.af 0) r1.2) λr2=>bg r2.1 (ah (eH Tryz.prog 9 (R 0) (.af 0) r2.2) λr3=>ah (call (cO 159) [(R 1),r3.1] r3.2) λr4=>ah (BS Tryz.prog .not r4.1 r4.2) λr5=>bg r5.1 (some (X.exit 0,(bi R [(5,(R 0)),(6,r1.1),(7,r2.1),(8,(R 1)),(9,(R 0)),(10,r3.1),(11,r4.1),(12,r5.1)]),r5.2)) (ah (fh Tryz.prog 9 (R 0) (some (.af 1)) none none r5.2) λr6=>some (X.normal,(bi R [(5,(R 0)),(6,r1.1),(7,r2.1),(8,(R 1)),(9,(R 0)),(10,r3.1),(11,r4.1),(12,r5.1),(13,(R 0)),(14,r6.1),(0,r6.1)]),r6.2))) (some (X.exit 0,(bi R [(5,(R 0)),(6,r1.1),(7,r2.1)]),r2.2))
def lC(call:Eng.Callee)(x0 x1:ae)(W:AW):Option (ae×AW):=ah (cW (gh call) (eP (dp 0 [x0,x1] ak.blank) (some 4) (C7 [])) W) λr7=>di 0 r7.1 (aF Tryz.prog [((r7.2.1 0),none)] r7.2.2) (none)
def qd{x0 x1:ae}{W:AW}{r:ae×AW}(h:lC bm x0 x1 W=some r):bm (.func (.func 133) #[] #[]) [x0,x1] W=some (gc W r):=bH (nt:=16) (n:=2) (by kernel_rfl) (by kernel_rfl) rfl (aJ (by kernel_rfl) h)
def fN(call:Eng.Callee)(R:Nat->ae)(W:AW):Option LT:=ah (aB Tryz.prog .len #[9] 3 #[false] [(R 0)] W) λr1=>ah (aw Tryz.prog .gtr 3 false true r1.1 (.af 0) r1.2) λr2=>bg r2.1 (ah (aB Tryz.prog .len #[9] 3 #[false] [(R 0)] r2.2) λr3=>ah (aw Tryz.prog .sub 3 false true r3.1 (.af 1) r3.2) λr4=>ah (eH Tryz.prog 9 (R 0) r4.1 r4.2) λr5=>ah (call (cO 159) [(R 1),r5.1] r5.2) λr6=>ah (BS Tryz.prog .not r6.1 r6.2) λr7=>bg r7.1 (some (X.exit 0,(bi R [(5,(R 0)),(6,r1.1),(7,r2.1),(8,(R 1)),(9,(R 0)),(10,(R 0)),(11,r3.1),(12,r4.1),(13,r5.1),(14,r6.1),(15,r7.1)]),r7.2)) (ah (aB Tryz.prog .len #[9] 3 #[false] [(R 0)] r7.2) λr8=>ah (aw Tryz.prog .sub 3 false true r8.1 (.af 1) r8.2) λr9=>ah (fh Tryz.prog 9 (R 0) none (some r9.1) none r9.2) λbw=>some (X.normal,(bi R [(5,(R 0)),(6,r1.1),(7,r2.1),(8,(R 1)),(9,(R 0)),(10,(R 0)),(11,r3.1),(12,r4.1),(13,r5.1),(14,r6.1),(15,r7.1),(16,(R 0)),(17,(R 0)),(18,r8.1),(19,r9.1),(20,bw.1),(0,bw.1)]),bw.2))) (some (X.exit 0,(bi R [(5,(R 0)),(6,r1.1),(7,r2.1)]),r2.2))
def kD(call:Eng.Callee)(x0 x1:ae)(W:AW):Option (ae×AW):=ah (cW (fN call) (eP (dp 0 [x0,x1] ak.blank) (some 4) (C7 [])) W) λbB=>di 0 bB.1 (aF Tryz.prog [((bB.2.1 0),none)] bB.2.2) (none)
def pj{x0 x1:ae}{W:AW}{r:ae×AW}(h:kD bm x0 x1 W=some r):bm (.func (.func 134) #[] #[]) [x0,x1] W=some (gc W r):=bH (nt:=22) (n:=2) (by kernel_rfl) (by kernel_rfl) rfl (aJ (by kernel_rfl) h)
def ul(call:Eng.Callee)(x0:ae)(W:AW):Option (ae×AW):=ah (cD x0 W) λr1=>ah (xN (.func 163) #[] #[r1.1] r1.2) λr2=>aF Tryz.prog [(r2.1,none)] r2.2
def CE{x0:ae}{W:AW}{r:ae×AW}(h:ul bm x0 W=some r):bm (.func (.func 137) #[] #[]) [x0] W=some (gc W r):=bH (nt:=4) (n:=1) (by kernel_rfl) (by kernel_rfl) rfl (aJ (by kernel_rfl) h)
def oH(call:Eng.Callee)(R:Nat->ae)(W:AW):Option LT:=ah (aw Tryz.prog .lss 3 false false (R 25) (R 24) W) λbB=>bg bB.1 (ah (aw Tryz.prog .add 3 false false (R 6) (R 25) bB.2) λbQ=>ah (aO 0 (R 2) bQ.2) λbS=>ah (aK bS.1 bS.2) λcm=>ah (aw Tryz.prog .rem 3 false false bQ.1 cm.1 cm.2) λbN=>ah (aD Tryz.prog 64 1 [(0,bN.1)] bN.2) λbV=>ah (aN Tryz.prog bV.2 #[64,64] (R 9) bV.1) λcj=>ah (aw Tryz.prog .add 3 false true (R 25) (.af 1) cj.2) λcd=>some (X.normal,(bi R [(26,bB.1),(27,(R 25)),(10,(R 25)),(28,(R 9)),(29,(R 6)),(30,(R 25)),(31,bQ.1),(32,bS.1),(33,cm.1),(34,bN.1),(35,bV.1),(36,cj.1),(9,cj.1),(37,cd.1),(25,cd.1)]),cd.2)) (some (X.exit 0,(eP R (some 26) bB.1),bB.2))
def AQ(call:Eng.Callee)(x0 x1:ae)(W:AW):Option (ae×AW):=ah (cD x0 W) λr1=>ah (bA 4 r1.1 r1.2) λr2=>ah (call (cO 164) [r2.1,x1] r2.2) λr3=>ah (ap r3.1 0 r3.2) λr4=>ah (ap r3.1 1 r4.2) λr5=>ah (ap r3.1 2 r5.2) λr6=>ah (aw Tryz.prog .neq 30 false true r6.1 (.af 0) r6.2) λr7=>bg r7.1 (aF Tryz.prog [((.slice none 0 0),none),(r6.1,none)] r7.2) (ah (aO 0 r1.1 r7.2) λr8=>ah (aK r8.1 r8.2) λr9=>ah (aB Tryz.prog .min #[3,3] 3 #[false,false] [r5.1,r9.1] r9.2) λbw=>ah (cW (oH call) (bi (dp 0 [x0,x1] ak.blank) [(2,r1.1),(4,(.slice none 0 0)),(5,(.af 0)),(12,r2.1),(13,x1),(14,r3.1),(11,r3.1),(15,r4.1),(16,r5.1),(17,r6.1),(6,r4.1),(7,r5.1),(8,r6.1),(18,r6.1),(19,r7.1),(9,(.slice none 0 0)),(21,r5.1),(22,r8.1),(23,r9.1),(24,bw.1),(25,(.af 0))]) bw.2) λbO=>di 0 bO.1 (ah (call (cO 165) [(bO.2.1 9)] bO.2.2) λbW=>aF Tryz.prog [((bO.2.1 9),none),((.af 0),none)] bW.2) (none))
def D1{x0 x1:ae}{W:AW}{r:ae×AW}(h:AQ bm x0 x1 W=some r):bm (.func (.func 138) #[] #[]) [x0,x1] W=some (gc W r):=bH (nt:=41) (n:=2) (by kernel_rfl) (by kernel_rfl) rfl (aJ (by kernel_rfl) h)
def Ak(call:Eng.Callee)(x0 x1:ae)(W:AW):Option (ae×AW):=ah (cD x0 W) λr1=>ah (aY Tryz.prog 167 r1.2) λr2=>ah (bA 4 r1.1 r2.2) λr3=>ah (call (cO 166) [r3.1,x1] r3.2) λr4=>ah (ap r4.1 0 r4.2) λr5=>ah (ap r4.1 1 r5.2) λr6=>ah (aY Tryz.prog 140 r6.2) λr7=>ah (bP 4 r7.1 r5.1 r7.2) λr8=>ah (aw Tryz.prog .neq 30 false true r6.1 (.af 0) r8.2) λr9=>bg r9.1 (ah (bD Tryz.prog 167 [] r9.2) λbw=>ah (bP 3 r2.1 bw.1 bw.2) λbB=>aF Tryz.prog [(r2.1,some 167),(r6.1,none)] bB.2) (ah (aO 0 r7.1 r9.2) λbQ=>ah (aK bQ.1 bQ.2) λbS=>ah (aO 1 r7.1 bS.2) λcm=>ah (aK cm.1 cm.2) λbN=>ah (aO 2 r7.1 bN.2) λbV=>ah (aK bV.1 bV.2) λcj=>ah (aw Tryz.prog .sub 3 false false x1 cj.1 cj.2) λcd=>ah (bD Tryz.prog 167 [(0,bS.1),(1,bN.1),(2,cd.1)] cd.2) λbO=>ah (bP 3 r2.1 bO.1 bO.2) λbW=>aF Tryz.prog [(r2.1,some 167),((.af 0),none)] bW.2)
def DS{x0 x1:ae}{W:AW}{r:ae×AW}(h:Ak bm x0 x1 W=some r):bm (.func (.func 139) #[] #[]) [x0,x1] W=some (gc W r):=bH (nt:=27) (n:=2) (by kernel_rfl) (by kernel_rfl) rfl (aJ (by kernel_rfl) h)
def Co(call:Eng.Callee)(x0 x1:ae)(W:AW):Option (ae×AW):=ah (cD x0 W) λr1=>ah (bA 4 r1.1 r1.2) λr2=>ah (call (cO 164) [r2.1,x1] r2.2) λr3=>ah (ap r3.1 0 r3.2) λr4=>ah (ap r3.1 1 r4.2) λr5=>ah (ap r3.1 2 r5.2) λr6=>ah (aw Tryz.prog .neq 30 false true r6.1 (.af 0) r6.2) λr7=>bg r7.1 (aF Tryz.prog [((.af 0),none),(r6.1,none)] r7.2) (ah (aO 0 r1.1 r7.2) λr8=>ah (aK r8.1 r8.2) λr9=>ah (aw Tryz.prog .add 3 false false r9.1 x1 r9.2) λbw=>aF Tryz.prog [(bw.1,none),((.af 0),none)] bw.2)
def Ez{x0 x1:ae}{W:AW}{r:ae×AW}(h:Co bm x0 x1 W=some r):bm (.func (.func 140) #[] #[]) [x0,x1] W=some (gc W r):=bH (nt:=23) (n:=2) (by kernel_rfl) (by kernel_rfl) rfl (aJ (by kernel_rfl) h)
def AK(call:Eng.Callee)(x0 x1:ae)(W:AW):Option (ae×AW):=ah (cD x0 W) λr1=>ah (bA 4 r1.1 r1.2) λr2=>ah (call (cO 166) [r2.1,x1] r2.2) λr3=>ah (ap r3.1 0 r3.2) λr4=>ah (ap r3.1 1 r4.2) λr5=>ah (aY Tryz.prog 140 r5.2) λr6=>ah (bP 4 r6.1 r4.1 r6.2) λr7=>ah (aw Tryz.prog .neq 30 false true r5.1 (.af 0) r7.2) λr8=>bg r8.1 (aF Tryz.prog [((.af 0),none),(r5.1,none)] r8.2) (ah (aO 0 r1.1 r8.2) λr9=>ah (aK r9.1 r9.2) λbw=>ah (aw Tryz.prog .rem 3 false false x1 bw.1 bw.2) λbB=>aF Tryz.prog [(bB.1,none),((.af 0),none)] bB.2)
def Ec{x0 x1:ae}{W:AW}{r:ae×AW}(h:AK bm x0 x1 W=some r):bm (.func (.func 141) #[] #[]) [x0,x1] W=some (gc W r):=bH (nt:=21) (n:=2) (by kernel_rfl) (by kernel_rfl) rfl (aJ (by kernel_rfl) h)
def Ir(call:Eng.Callee)(x0 x1:ae)(W:AW):Option (ae×AW):=ah (cD x0 W) λr1=>ah (bA 4 r1.1 r1.2) λr2=>ah (call (cO 167) [r2.1,x1,(.af (-1))] r2.2) λr3=>ah (ap r3.1 0 r3.2) λr4=>ah (ap r3.1 1 r4.2) λr5=>ah (ap r3.1 2 r5.2) λr6=>aF Tryz.prog [(r4.1,none),(r5.1,none),(r6.1,none)] r6.2
def KW{x0 x1:ae}{W:AW}{r:ae×AW}(h:Ir bm x0 x1 W=some r):bm (.func (.func 142) #[] #[]) [x0,x1] W=some (gc W r):=bH (nt:=13) (n:=2) (by kernel_rfl) (by kernel_rfl) rfl (aJ (by kernel_rfl) h)
def AS(call:Eng.Callee)(x0:ae)(W:AW):Option (ae×AW):=ah (cD x0 W) λr1=>ah (bA 4 r1.1 r1.2) λr2=>ah (call (cO 36) [r2.1] r2.2) λr3=>ah (ap r3.1 0 r3.2) λr4=>ah (ap r3.1 1 r4.2) λr5=>ah (aw Tryz.prog .neq 30 false true r5.1 (.af 0) r5.2) λr6=>bg r6.1 (aF Tryz.prog [((.af 0),none),(r5.1,none)] r6.2) (ah (bA 4 r1.1 r6.2) λr7=>ah (call (cO 56) [r7.1] r7.2) λr8=>ah (aB Tryz.prog .len #[127] 3 #[false] [r8.1] r8.2) λr9=>aF Tryz.prog [(r9.1,none),((.af 0),none)] r9.2)
def DZ{x0:ae}{W:AW}{r:ae×AW}(h:AS bm x0 W=some r):bm (.func (.func 143) #[] #[]) [x0] W=some (gc W r):=bH (nt:=17) (n:=1) (by kernel_rfl) (by kernel_rfl) rfl (aJ (by kernel_rfl) h)
def jc(call:Eng.Callee)(x0 x1:ae)(W:AW):Option (ae×AW):=ah (be x0 W) λr1=>ah (Gt 256 1 r1.1 x1 r1.2) λr2=>ah (aK r2.1 r2.2) λr3=>aF Tryz.prog [(r3.1,none)] r3.2
def mY{x0 x1:ae}{W:AW}{r:ae×AW}(h:jc bm x0 x1 W=some r):bm (.func (.func 159) #[] #[]) [x0,x1] W=some (gc W r):=bH (nt:=10) (n:=2) (by kernel_rfl) (by kernel_rfl) rfl (aJ (by kernel_rfl) h)
def lJ(call:Eng.Callee)(R:Nat->ae)(W:AW):Option LT:=ah (aw Tryz.prog .lss 3 false false (R 11) (R 10) W) λr5=>bg r5.1 (ah (bD Tryz.prog 135 [(0,(.af 2))] r5.2) λr6=>ah (aY Tryz.prog 135 r6.2) λr7=>ah (bP 2 r7.1 r6.1 r7.2) λr8=>ah (aw Tryz.prog .lss 3 false false (R 11) (R 3) r8.2) λr9=>bg r9.1 (ah (aK (R 1) r9.2) λbw=>ah (gn 1 bw.1 (R 11) bw.2) λbB=>ah (aK bB.1 bB.2) λbQ=>ah (bD Tryz.prog 135 [(0,(.af 1)),(1,bQ.1)] bQ.2) λbS=>ah (bP 2 r7.1 bS.1 bS.2) λcm=>ah (bA 2 r7.1 cm.2) λbN=>ah (call (R 0) [(R 11),bN.1] bN.2) λbV=>ah (BS Tryz.prog .not bV.1 bV.2) λcj=>bg cj.1 (some (X.ret,(bi R [(12,r5.1),(13,(R 11)),(4,(R 11)),(14,r6.1),(5,r7.1),(16,(R 11)),(17,(R 3)),(18,r9.1),(15,r9.1),(19,bw.1),(20,(R 11)),(21,bB.1),(22,bQ.1),(23,bS.1),(36,(R 0)),(37,(R 11)),(38,bN.1),(39,bV.1),(40,cj.1)]),cj.2)) (ah (aw Tryz.prog .add 3 false true (R 11) (.af 1) cj.2) λcd=>some (X.normal,(bi R [(12,r5.1),(13,(R 11)),(4,(R 11)),(14,r6.1),(5,r7.1),(16,(R 11)),(17,(R 3)),(18,r9.1),(15,r9.1),(19,bw.1),(20,(R 11)),(21,bB.1),(22,bQ.1),(23,bS.1),(36,(R 0)),(37,(R 11)),(38,bN.1),(39,bV.1),(40,cj.1),(41,cd.1),(11,cd.1)]),cd.2))) (ah (aw Tryz.prog .gtr 3 false false (R 11) (R 3) r9.2) λbO=>bg bO.1 (ah (aK (R 1) bO.2) λbW=>ah (aw Tryz.prog .mul 3 true false (.af 2) (R 3) bW.2) λcz=>ah (aw Tryz.prog .sub 3 false false cz.1 (R 11) cz.2) λcn=>ah (gn 1 bW.1 cn.1 cn.2) λcx=>ah (aK cx.1 cx.2) λcE=>ah (bD Tryz.prog 135 [(0,(.af 3)),(1,cE.1)] cE.2) λcH=>ah (bP 2 r7.1 cH.1 cH.2) λcZ=>ah (bA 2 r7.1 cZ.2) λcX=>ah (call (R 0) [(R 11),cX.1] cX.2) λdm=>ah (BS Tryz.prog .not dm.1 dm.2) λcU=>bg cU.1 (some (X.ret,(bi R [(12,r5.1),(13,(R 11)),(4,(R 11)),(14,r6.1),(5,r7.1),(16,(R 11)),(17,(R 3)),(18,r9.1),(15,r9.1),(25,(R 11)),(26,(R 3)),(27,bO.1),(24,bO.1),(28,bW.1),(29,(R 3)),(30,cz.1),(31,(R 11)),(32,cn.1),(33,cx.1),(34,cE.1),(35,cH.1),(36,(R 0)),(37,(R 11)),(38,cX.1),(39,dm.1),(40,cU.1)]),cU.2)) (ah (aw Tryz.prog .add 3 false true (R 11) (.af 1) cU.2) λdN=>some (X.normal,(bi R [(12,r5.1),(13,(R 11)),(4,(R 11)),(14,r6.1),(5,r7.1),(16,(R 11)),(17,(R 3)),(18,r9.1),(15,r9.1),(25,(R 11)),(26,(R 3)),(27,bO.1),(24,bO.1),(28,bW.1),(29,(R 3)),(30,cz.1),(31,(R 11)),(32,cn.1),(33,cx.1),(34,cE.1),(35,cH.1),(36,(R 0)),(37,(R 11)),(38,cX.1),(39,dm.1),(40,cU.1),(41,dN.1),(11,dN.1)]),dN.2))) (ah (bA 2 r7.1 bO.2) λdK=>ah (call (R 0) [(R 11),dK.1] dK.2) λdY=>ah (BS Tryz.prog .not dY.1 dY.2) λdC=>bg dC.1 (some (X.ret,(bi R [(12,r5.1),(13,(R 11)),(4,(R 11)),(14,r6.1),(5,r7.1),(16,(R 11)),(17,(R 3)),(18,r9.1),(15,r9.1),(25,(R 11)),(26,(R 3)),(27,bO.1),(24,bO.1),(36,(R 0)),(37,(R 11)),(38,dK.1),(39,dY.1),(40,dC.1)]),dC.2)) (ah (aw Tryz.prog .add 3 false true (R 11) (.af 1) dC.2) λdv=>some (X.normal,(bi R [(12,r5.1),(13,(R 11)),(4,(R 11)),(14,r6.1),(5,r7.1),(16,(R 11)),(17,(R 3)),(18,r9.1),(15,r9.1),(25,(R 11)),(26,(R 3)),(27,bO.1),(24,bO.1),(36,(R 0)),(37,(R 11)),(38,dK.1),(39,dY.1),(40,dC.1),(41,dv.1),(11,dv.1)]),dv.2))))) (some (X.exit 0,(eP R (some 12) r5.1),r5.2))
def qf(call:Eng.Callee)(x0 x1:ae)(W:AW):Option (ae×AW):=ah (aK x1 W) λr1=>ah (aB Tryz.prog .len #[64] 3 #[false] [r1.1] r1.2) λr2=>ah (aw Tryz.prog .mul 3 true false (.af 2) r2.1 r2.2) λr3=>ah (aw Tryz.prog .add 3 false true r3.1 (.af 1) r3.2) λr4=>ah (cW (lJ call) (bi (dp 0 [x0,x1] ak.blank) [(6,r1.1),(7,r2.1),(3,r2.1),(8,r2.1),(9,r3.1),(10,r4.1),(11,(.af 0))]) r4.2) λdT=>di 0 dT.1 (aF Tryz.prog [] dT.2.2) (iq dT.1 (aF Tryz.prog [] dT.2.2))
def zn{x0 x1:ae}{W:AW}{r:ae×AW}(h:qf bm x0 x1 W=some r):bm (.func (.func 163) #[] #[x1]) [x0] W=some (gc W r):=bH (nt:=42) (n:=2) (by kernel_rfl) (by kernel_rfl) rfl (aJ (by kernel_rfl) h)
def yi(call:Eng.Callee)(R:Nat->ae)(W:AW):Option LT:=ah (aY Tryz.prog 140 W) λcm=>ah (bP 4 cm.1 (R 20) cm.2) λbN=>some (X.normal,(eP R (some 9) cm.1),bN.2)
def Bh(call:Eng.Callee)(R:Nat->ae)(W:AW):gH Tryz.prog call false 37 (Ih [1,1,0,1,0,0] (Sp 164)) LT R W nB=yi call R W:=by kernel_rfl
def xR(call:Eng.Callee)(R:Nat->ae)(W:AW):Option LT:=ah (aO 0 (R 9) W) λbV=>ah (aK bV.1 bV.2) λcj=>ah (aK (R 3) cj.2) λcd=>ah (aw Tryz.prog .neq 3 false false cj.1 cd.1 cd.2) λbO=>bg bO.1 (some (X.normal,(bi R [(21,bV.1),(22,cj.1),(23,cd.1),(24,bO.1)]),bO.2)) (ah (aK (R 5) bO.2) λbW=>ah (aw Tryz.prog .eql 3 false true bW.1 (.af 0) bW.2) λcz=>bg cz.1 (ah (aO 2 (R 9) cz.2) λcn=>ah (aK cn.1 cn.2) λcx=>ah (bP 1 (R 4) cx.1 cx.2) λcE=>ah (aK (R 5) cE.2) λcH=>ah (aO 3 (R 9) cH.2) λcZ=>ah (aK cZ.1 cZ.2) λcX=>ah (aw Tryz.prog .add 3 false false cH.1 cX.1 cX.2) λdm=>ah (bP 1 (R 5) dm.1 dm.2) λcU=>some (X.normal,(bi R [(21,bV.1),(22,cj.1),(23,cd.1),(24,bO.1),(25,bW.1),(26,cz.1),(27,cn.1),(28,cx.1),(29,cH.1),(30,cZ.1),(31,cX.1),(32,dm.1)]),cU.2)) (ah (aK (R 5) cz.2) λdN=>ah (aO 3 (R 9) dN.2) λdK=>ah (aK dK.1 dK.2) λdY=>ah (aw Tryz.prog .add 3 false false dN.1 dY.1 dY.2) λdC=>ah (bP 1 (R 5) dC.1 dC.2) λdv=>some (X.normal,(bi R [(21,bV.1),(22,cj.1),(23,cd.1),(24,bO.1),(25,bW.1),(26,cz.1),(29,dN.1),(30,dK.1),(31,dY.1),(32,dC.1)]),dv.2)))
def Bu(call:Eng.Callee)(R:Nat->ae)(W:AW):gH Tryz.prog call false 37 (Ih [1,1,0,1,0,1] (Sp 164)) LT R W nB=xR call R W:=by kernel_rfl
def Jf(call:Eng.Callee)(x0 x1:ae)(W:AW):Option (ae×AW):=ah (cD x0 W) λr1=>ah (cD x1 r1.2) λr2=>ah (aY Tryz.prog 3 r2.2) λr3=>ah (aY Tryz.prog 3 r3.2) λr4=>ah (bA 4 r1.1 r4.2) λr5=>ah (call (cO 33) [r5.1] r5.2) λr6=>ah (ap r6.1 0 r6.2) λr7=>ah (ap r6.1 1 r7.2) λr8=>ah (aw Tryz.prog .neq 30 false true r8.1 (.af 0) r8.2) λr9=>bg r9.1 (ah (bP 1 r3.1 (.af 0) r9.2) λbw=>ah (bP 1 r4.1 (.af 0) bw.2) λbB=>aF Tryz.prog [(r3.1,some 3),(r4.1,some 3),(r8.1,none)] bB.2) (ah (bA 4 r1.1 r9.2) λbQ=>ah (call (cO 62) [bQ.1] bQ.2) λbS=>ah (jP call bS.1 (.loop .ready none (bi (dp 0 [x0,x1] ak.blank) [(2,r1.1),(3,r2.1),(4,r3.1),(5,r4.1),(6,(.af 0)),(11,r5.1),(12,r6.1),(10,r6.1),(13,r7.1),(14,r8.1),(7,r7.1),(8,r8.1),(15,r8.1),(16,r9.1),(18,bQ.1),(19,bS.1)]) 37 #[20] (Ih [1,1,0,1,0,0] (Sp 164)) (Ih [1,1,0,1,0,1] (Sp 164))) bS.2) λdT=>sU dT.1 (ah (aK r4.1 dT.2) λdU=>ah (aw Tryz.prog .eql 3 false true dU.1 (.af 0) dU.2) λez=>bg ez.1 (ah (bP 1 r3.1 (.af 0) ez.2) λfU=>ah (bP 1 r4.1 (.af 0) fU.2) λfB=>aF Tryz.prog [(r3.1,some 3),(r4.1,some 3),((.af 4),none)] fB.2) (ah (aK r3.1 ez.2) λfA=>ah (aK r4.1 fA.2) λgd=>ah (bP 1 r3.1 fA.1 gd.2) λfS=>aQ (rE true (aK r4.1 fS.2) gd.1&&true) (ah (bP 1 r4.1 gd.1 fS.2) λgX=>aF Tryz.prog [(r3.1,some 3),(r4.1,some 3),((.af 0),none)] gX.2) none)) (none))
def JW{x0 x1:ae}{W:AW}{r:ae×AW}(h:Jf bm x0 x1 W=some r):bm (.func (.func 164) #[] #[]) [x0,x1] W=some (gc W r):=bH (nt:=37) (n:=2) (by kernel_rfl) (by kernel_rfl) rfl (aJ (by kernel_rfl) h)
def tG(call:Eng.Callee)(R:Nat->ae)(W:AW):Option LT:=ah (aY Tryz.prog 140 W) λbN=>ah (bP 4 bN.1 (R 20) bN.2) λbV=>some (X.normal,(eP R (some 8) bN.1),bV.2)
def xA(call:Eng.Callee)(R:Nat->ae)(W:AW):gH Tryz.prog call false 36 (Ih [1,1,0,1,0,0] (Sp 166)) LT R W nB=tG call R W:=by kernel_rfl
def tY(call:Eng.Callee)(R:Nat->ae)(W:AW):Option LT:=ah (aK (R 3) W) λcj=>ah (aO 2 (R 8) cj.2) λcd=>ah (aK cd.1 cd.2) λbO=>ah (aw Tryz.prog .geq 3 false false cj.1 bO.1 bO.2) λbW=>ah (aQ (aU bW.1 true) (aK (R 3) bW.2) (some (ag,bW.2))) λcz=>ah (aQ (aU bW.1 true) (aO 2 (R 8) cz.2) (some (ag,cz.2))) λcn=>ah (aQ (aU bW.1 true) (aK cn.1 cn.2) (some (ag,cn.2))) λcx=>ah (aQ (aU bW.1 true) (aO 3 (R 8) cx.2) (some (ag,cx.2))) λcE=>ah (aQ (aU bW.1 true) (aK cE.1 cE.2) (some (ag,cE.2))) λcH=>ah (aQ (aU bW.1 true) (aw Tryz.prog .add 3 false false cx.1 cH.1 cH.2) (some (ag,cH.2))) λcZ=>ah (aQ (aU bW.1 true) (aw Tryz.prog .lss 3 false false cz.1 cZ.1 cZ.2) (some (ag,cZ.2))) λcX=>ah (bu bW.1 cX.1 (.bool false) cX.2) λdm=>bg dm.1 (ah (bA 4 (R 8) dm.2) λcU=>ah (bP 4 (R 4) cU.1 cU.2) λdN=>ah (bP 1 (R 5) (.af 0) dN.2) λdK=>some (X.ret,(bi R [(21,cj.1),(22,cd.1),(23,bO.1),(24,bW.1),(25,bW.1),(26,cz.1),(27,cn.1),(28,cx.1),(29,cE.1),(30,cH.1),(31,cZ.1),(32,cX.1),(33,dm.1),(34,cU.1)]),dK.2)) (some (X.normal,(bi R [(21,cj.1),(22,cd.1),(23,bO.1),(24,bW.1),(25,bW.1),(26,cz.1),(27,cn.1),(28,cx.1),(29,cE.1),(30,cH.1),(31,cZ.1),(32,cX.1),(33,dm.1)]),dm.2))
def xB(call:Eng.Callee)(R:Nat->ae)(W:AW):gH Tryz.prog call false 36 (Ih [1,1,0,1,0,1] (Sp 166)) LT R W nB=tY call R W:=by kernel_rfl
def CM(call:Eng.Callee)(x0 x1:ae)(W:AW):Option (ae×AW):=ah (cD x0 W) λr1=>ah (cD x1 r1.2) λr2=>ah (aY Tryz.prog 140 r2.2) λr3=>ah (aY Tryz.prog 30 r3.2) λr4=>ah (bA 4 r1.1 r4.2) λr5=>ah (call (cO 33) [r5.1] r5.2) λr6=>ah (ap r6.1 0 r6.2) λr7=>ah (ap r6.1 1 r7.2) λr8=>ah (aw Tryz.prog .neq 30 false true r8.1 (.af 0) r8.2) λr9=>bg r9.1 (ah (bD Tryz.prog 140 [] r9.2) λbw=>ah (bP 4 r3.1 bw.1 bw.2) λbB=>ah (bP 1 r4.1 r8.1 bB.2) λbQ=>aF Tryz.prog [(r3.1,some 140),(r4.1,some 30)] bQ.2) (ah (bA 4 r1.1 r9.2) λbS=>ah (call (cO 62) [bS.1] bS.2) λcm=>ah (jP call cm.1 (.loop .ready none (bi (dp 0 [x0,x1] ak.blank) [(2,r1.1),(3,r2.1),(4,r3.1),(5,r4.1),(10,r5.1),(11,r6.1),(9,r6.1),(12,r7.1),(13,r8.1),(6,r7.1),(7,r8.1),(14,r8.1),(15,r9.1),(18,bS.1),(19,cm.1)]) 36 #[20] (Ih [1,1,0,1,0,0] (Sp 166)) (Ih [1,1,0,1,0,1] (Sp 166))) cm.2) λdY=>sU dY.1 (ah (bD Tryz.prog 140 [] dY.2) λdC=>ah (bP 4 r3.1 dC.1 dC.2) λdv=>ah (bP 1 r4.1 (.af 4) dv.2) λdT=>aF Tryz.prog [(r3.1,some 140),(r4.1,some 30)] dT.2) (iq dY.1 (aF Tryz.prog [(r3.1,some 140),(r4.1,some 30)] dY.2)))
def E5{x0 x1:ae}{W:AW}{r:ae×AW}(h:CM bm x0 x1 W=some r):bm (.func (.func 166) #[] #[]) [x0,x1] W=some (gc W r):=bH (nt:=36) (n:=2) (by kernel_rfl) (by kernel_rfl) rfl (aJ (by kernel_rfl) h)
def qg(call:Eng.Callee)(R:Nat->ae)(W:AW):Option LT:=ah (aB Tryz.prog .len #[127] 3 #[false] [(R 13)] W) λr9=>ah (aw Tryz.prog .lss 3 false false (R 14) r9.1 r9.2) λbw=>bg bw.1 (ah (gn 3 (R 13) (R 14) bw.2) λbB=>ah (aO 0 bB.1 bB.2) λbQ=>ah (aK bQ.1 bQ.2) λbS=>ah (aw Tryz.prog .eql 3 false false bS.1 (R 1) bS.2) λcm=>ah (aQ (aU cm.1 true) (iT (R 2) cm.2) (some (ag,cm.2))) λbN=>ah (aQ (aU cm.1 true) (aw Tryz.prog .eql 3 false true bN.1 (.af (-1)) bN.2) (some (ag,bN.2))) λbV=>ah (aQ (aU cm.1 true) (iT bV.1 bV.2) (some (ag,bV.2))) λcj=>ah (aQ (aU cj.1 false) (iT (R 13) cj.2) (some (ag,cj.2))) λcd=>ah (aQ (aU cj.1 false) (iT (R 14) cd.2) (some (ag,cd.2))) λbO=>ah (aQ (aU cj.1 false) (gn 3 cd.1 bO.1 bO.2) (some (ag,bO.2))) λbW=>ah (aQ (aU cj.1 false) (aO 1 bW.1 bW.2) (some (ag,bW.2))) λcz=>ah (aQ (aU cj.1 false) (aK cz.1 cz.2) (some (ag,cz.2))) λcn=>ah (aQ (aU cj.1 false) (iT (R 2) cn.2) (some (ag,cn.2))) λcx=>ah (aQ (aU cj.1 false) (aw Tryz.prog .eql 3 false false cn.1 cx.1 cx.2) (some (ag,cx.2))) λcE=>ah (aQ (aU cm.1 true) (bu cj.1 (.bool true) cE.1 cE.2) (some (ag,cE.2))) λcH=>ah (bu cm.1 cH.1 (.bool false) cH.2) λcZ=>bg cZ.1 (ah (aw Tryz.prog .eql 3 false true (R 12) (.af 0) cZ.2) λcX=>bg cX.1 (ah (aw Tryz.prog .add 3 false true (R 12) (.af 1) cX.2) λdm=>ah (aw Tryz.prog .add 3 false true (R 14) (.af 1) dm.2) λcU=>some (X.normal,(bi R [(25,(R 14)),(26,(R 13)),(27,r9.1),(28,bw.1),(31,(R 13)),(32,(R 14)),(33,bB.1),(34,bQ.1),(35,bS.1),(36,(R 1)),(37,cm.1),(38,cm.1),(39,bN.1),(40,bV.1),(41,cj.1),(42,cd.1),(43,bO.1),(44,bW.1),(45,cz.1),(46,cn.1),(47,cx.1),(48,cE.1),(49,cH.1),(50,cZ.1),(51,(R 12)),(52,cX.1),(53,(R 14)),(11,(R 14)),(54,(R 12)),(55,dm.1),(12,dm.1),(29,(R 14)),(30,cU.1),(14,cU.1)]),cU.2)) (ah (aw Tryz.prog .add 3 false true (R 12) (.af 1) cX.2) λdN=>ah (aw Tryz.prog .add 3 false true (R 14) (.af 1) dN.2) λdK=>some (X.normal,(bi R [(25,(R 14)),(26,(R 13)),(27,r9.1),(28,bw.1),(31,(R 13)),(32,(R 14)),(33,bB.1),(34,bQ.1),(35,bS.1),(36,(R 1)),(37,cm.1),(38,cm.1),(39,bN.1),(40,bV.1),(41,cj.1),(42,cd.1),(43,bO.1),(44,bW.1),(45,cz.1),(46,cn.1),(47,cx.1),(48,cE.1),(49,cH.1),(50,cZ.1),(51,(R 12)),(52,cX.1),(54,(R 12)),(55,dN.1),(12,dN.1),(29,(R 14)),(30,dK.1),(14,dK.1)]),dK.2))) (ah (aw Tryz.prog .add 3 false true (R 14) (.af 1) cZ.2) λdY=>some (X.normal,(bi R [(25,(R 14)),(26,(R 13)),(27,r9.1),(28,bw.1),(31,(R 13)),(32,(R 14)),(33,bB.1),(34,bQ.1),(35,bS.1),(36,(R 1)),(37,cm.1),(38,cm.1),(39,bN.1),(40,bV.1),(41,cj.1),(42,cd.1),(43,bO.1),(44,bW.1),(45,cz.1),(46,cn.1),(47,cx.1),(48,cE.1),(49,cH.1),(50,cZ.1),(29,(R 14)),(30,dY.1),(14,dY.1)]),dY.2))) (some (X.exit 0,(bi R [(25,(R 14)),(26,(R 13)),(27,r9.1),(28,bw.1)]),bw.2))
def Dj(call:Eng.Callee)(x0 x1 x2:ae)(W:AW):Option (ae×AW):=ah (cD x0 W) λr1=>ah (bA 4 r1.1 r1.2) λr2=>ah (call (cO 36) [r2.1] r2.2) λr3=>ah (ap r3.1 0 r3.2) λr4=>ah (ap r3.1 1 r4.2) λr5=>ah (aw Tryz.prog .neq 30 false true r5.1 (.af 0) r5.2) λr6=>bg r6.1 (aF Tryz.prog [((.af 0),none),((.af 0),none),(r5.1,none)] r6.2) (ah (bA 4 r1.1 r6.2) λr7=>ah (call (cO 56) [r7.1] r7.2) λr8=>ah (cW (qg call) (bi (dp 0 [x0,x1,x2] ak.blank) [(3,r1.1),(6,(.af 0)),(7,(.af 0)),(8,(.af 0)),(16,r2.1),(17,r3.1),(15,r3.1),(18,r4.1),(19,r5.1),(9,r4.1),(10,r5.1),(20,r5.1),(21,r6.1),(11,(.af 0)),(12,(.af 0)),(23,r7.1),(24,r8.1),(13,r8.1),(14,(.af 0))]) r8.2) λdC=>di 0 dC.1 (ah (aw Tryz.prog .eql 3 false true (dC.2.1 12) (.af 0) dC.2.2) λdv=>bg dv.1 (aF Tryz.prog [((.af 0),none),((.af 0),none),((.af 4),none)] dv.2) (aF Tryz.prog [((dC.2.1 11),none),((dC.2.1 12),none),((.af 0),none)] dv.2)) (none))
def EV{x0 x1 x2:ae}{W:AW}{r:ae×AW}(h:Dj bm x0 x1 x2 W=some r):bm (.func (.func 167) #[] #[]) [x0,x1,x2] W=some (gc W r):=bH (nt:=60) (n:=3) (by kernel_rfl) (by kernel_rfl) rfl (aJ (by kernel_rfl) h)
def rt:((#[64]:Array ai)[0]?).bind Tryz.prog.underlying=some (.slice 3):=by kernel_rfl
def xn:((#[22]:Array ai)[0]?).bind Tryz.prog.underlying=some (.slice 66):=by kernel_rfl
def jf(n lo hi:Int):Bool:=decide (n<lo)||decide (hi<n)
def me(n lo hi:Int)(W:AW):bm (.func (.func 45) #[] #[]) [.af n,.af lo,.af hi] W=some (.bool (jf n lo hi),W):=by
 have h:lZ bm (.af n) (.af lo) (.af hi) W=some (.bool (jf n lo hi),W):=by unfold lZ jf;by_cases h:n<lo<;>simp only[SX,h,uM,Bool.false_or]
 rw[vE h,wS (.refl _)]
def sZ(n lo hi:Int)(W:AW):bm (.func (.func 46) #[] #[]) [.af n,.af lo,.af hi] W=some (.bool (jf n lo hi),W):=by
 have h:jF bm (.af n) (.af lo) (.af hi) W=some (.bool (jf n lo hi),W):=by unfold jF jf;by_cases h:n<lo<;>simp only[SX,h,uM,Bool.false_or]
 rw[te h,wS (.refl _)]
def inB(n lo hi:Int):Bool:=decide (lo<=n)&&decide (n<=hi)
def yz(n lo hi:Int):inB n lo hi= !jf n lo hi:=by unfold inB jf;rw[qu];simp
def rf(n lo hi:Int)(W:AW):bm (.func (.func 54) #[] #[]) [.af n,.af lo,.af hi] W=some (.bool (inB n lo hi),W):=by
 have h:sA bm (.af n) (.af lo) (.af hi) W=some (.bool (inB n lo hi),W):=by unfold sA inB;by_cases h:lo<=n<;>simp only[SX,h,jK,kP]
 rw[Bc h,wS (.refl _)]
def X2{a b:ae}{la lb:List Int}{W:AW}(ha:kr W a la)(hb:kr W b lb)(hl:la.length<900000):bm (.func (.func 41) #[] #[]) [a,b] W=some (.bool (decide (la=lb)),W):=by
 refine bT rfl ?_ E4;unfold CU;simp only[SX,ha.len rt,hb.len rt];by_cases eA:la.length=lb.length
 ·have e:((la.length:Int)=(lb.length:Int)):=by omega
  simp only[SX,e];refine bY la.length (by omega) (λk R W'=>W'=W/\R 0=a/\R 1=b/\R 5=.af (k:Int)/\la.take k=lb.take k)
   (λr=>r.2.2=W/\((r.1=.exit 0/\la=lb)\/(r.1=.ret/\r.2.1 4=.bool false/\la≠lb))) ⟨rfl,rfl,rfl,rfl,rfl⟩ ?_ ?_ ?_
  ·rintro k R W' hk ⟨rfl,h0,h1,h5,ht⟩;unfold qn;obtain⟨p,p1,p2⟩:=ha.get hk;obtain⟨q,q1,q2⟩:=hb.get (i:=k) (by omega);have e1:((k:Int)<(la.length:Int)):=by omega
   simp only[SX,h0,h1,h5,ha.len rt,e1,p1,p2 _ (.refl _),q1,q2 _ (.refl _)];by_cases hx:la[k]=lb[k]'(by omega)
   ·have e2:(k:Int)+1=((k+1:Nat):Int):=by omega
    simp only[SX,hx,da (show -9223372036854775808<=(k:Int)+1 by omega) (show(k:Int)+1<9223372036854775808 by omega),am];refine .inl ⟨aA,aA,h0,h1,by rw[<-e2];rfl,?_⟩;rw[List.take_succ_eq_append_getElem hk,List.take_succ_eq_append_getElem (by omega),ht,hx]
   ·simp only[SX,hx,am];refine .inr ⟨by simp,aA,.inr ⟨aA,rfl,λe=>hx (by simp only[e])⟩⟩
  ·rintro R W' ⟨rfl,h0,h1,h5,ht⟩;unfold qn;have e1:¬((la.length:Int)<(la.length:Int)):=by omega
   simp only[SX,h0,h1,h5,ha.len rt,e1,am];refine⟨by simp,aA,.inl ⟨aA,?_⟩⟩;rw[dd]at ht;rw[ht,eA,dd]
  ·rintro⟨x,R,W'⟩ ⟨hW,h⟩;simp only at hW h;subst hW;rcases h with⟨rfl,h⟩|⟨rfl,h4,h⟩
   ·simp only[SX,am,h];exact⟨aA,.refl _⟩
   ·simp only[SX,am,h4,h];exact⟨aA,.refl _⟩
 ·have e:¬((la.length:Int)=(lb.length:Int)):=by omega
  have e2:la≠lb:=λh=>eA (by rw[h])
  simp only[SX,e,e2,am];exact⟨aA,.refl _⟩
def T4:Tryz.prog.underlying 9=some .string:=by kernel_rfl
def qh:((#[9]:Array ai)[0]?).bind Tryz.prog.underlying=some .string:=by kernel_rfl
def jg(l:List UInt8):List ae:=(List.range 256).map λi=>.bool (l.any λc=>c.toNat==i)
def jt(l:List UInt8):(jg l).length=256:=by simp[jg]
def Ce(l:List UInt8){i:Nat}(h:i<256):(jg l)[i]? =some (.bool (l.any λc=>c.toNat==i)):=by simp[jg,h]
def Jm(l:List UInt8):(jg l).all Eng.one=true:=by unfold jg;rw[List.all_map,cM];intro x _;rfl
def Nv(l:List UInt8):(bC (.tuple #[.agg (jg l).toArray,.bool true])&& !isU (.tuple #[.agg (jg l).toArray,.bool true]))=true:=by
 have h:eI (.agg (jg l).toArray)=true:=by show(jg l).toArray.toList.all cG=true;unfold jg;rw[BT,List.all_map,cM];intro x _;rfl
 have h2:bC (.tuple #[.agg (jg l).toArray,.bool true])=true:=by show(eI (.agg (jg l).toArray)&&(eI (.bool true)&&true))=true;rw[h];rfl
 rw[h2];rfl
def S6(l:List UInt8)(c:UInt8):(jg l).set c.toNat (.bool true)=jg (l++[c]):=by
 apply rR;intro i;by_cases hi:i<256
 ·rw[sa,Ce _ hi,Ce _ hi,jt];by_cases hc:c.toNat=i
  ·rw[ax hc,ou];simp[hc]
  ·rw[ay hc];have:(c.toNat==i)=false:=by simpa using hc
   simp[this]
 ·rw[rK (by rw[kp,jt];omega),rK (by rw[jt];omega)]
def ZF(W:AW):aY Tryz.prog 212 W=some (.pointer (some ⟨W.next,0,none⟩),W.add (.cells (jg []))):=aJ (by kernel_rfl) rfl
def ah0(x:ae)(W:AW):iV Tryz.prog 212 x W=bA 256 x W:=by kernel_rfl
def F2{b:Nat}{l:List UInt8}{W:AW}(hb:aL W b=some (jg l))(c:UInt8):bm (.func (.func 159) #[] #[]) [.pointer (some ⟨b,0,none⟩),.int .u8 (c.toNat:Int)] W=some (.bool (l.any λx=>x==c),W):=by refine bT rfl ?_ mY;unfold jc;have hc:c.toNat<256:=c.toNat_lt;simp only[SX,bf,sJ hc,VL,hb,bp,ko,aI,Ce l hc,cS,am];refine⟨?_,.refl _⟩;congr 2;funext x;rw[qu];simp[UInt8.toNat_inj]
def Vi{l:List UInt8}(hl:l.length<1000)(ha:∀c∈l,c.toNat<128)(W:AW):bm (.func (.func 132) #[] #[]) [.string (aM l)] W=some (.tuple #[.agg (jg l).toArray,.bool true],W):=by
 refine bT (Nv l) ?_ qQ;unfold mI;simp only[SX,ZF];refine bY l.length (by omega) (λk R W'=>R 0=.string (aM l)/\R 2=.pointer (some ⟨W.next,0,none⟩)/\R 4=.af (k:Int)/\aH W' W.next=some (jg (l.take k))/\Le W W')
  (λr=>r.1=.exit 0/\r.2.1 2=.pointer (some ⟨W.next,0,none⟩)/\aH r.2.2 W.next=some (jg l)/\Le W r.2.2) ⟨rfl,rfl,rfl,cg,(Le.refl _).add _⟩ ?_ ?_ ?_
 ·rintro k R W' hk ⟨h0,h2,h4,hb,a8⟩;unfold gS;have hc:l[k].toNat<128:=ha _ (fb hk);have e1:((k:Int)<(l.length:Int)):=by omega
  have e2:¬(128:Int)<=(l[k].toNat:Int):=by omega
  simp only[SX,h0,h2,h4,eO qh,e1,i5 T4 hk,e2,sJ (show l[k].toNat<256 by omega),Jn,hb,bp,ko,aI,jt,show l[k].toNat<256 by omega,bh,S6,
   da (show -9223372036854775808<=(k:Int)+1 by omega) (show(k:Int)+1<9223372036854775808 by omega),am];have e2:(k:Int)+1=((k+1:Nat):Int):=by omega
  refine .inl ⟨aA,h0,h2,by rw[<-e2];rfl,?_,a8.put (aP _) _⟩;rw[bF,<-zN hk]
 ·rintro R W' ⟨h0,h2,h4,hb,a8⟩;unfold gS;have e1:¬((l.length:Int)<(l.length:Int)):=by omega
  simp only[SX,h0,h2,h4,eO qh,e1,am];rw[dd]at hb;exact⟨by simp,aA,h2,hb,a8⟩
 ·rintro⟨x,R,W'⟩ ⟨rfl,h2,hb,a8⟩;simp only at h2 hb a8;have h1:=Yp hb (Jm l);rw[jt]at h1;have h3:=mh (fR hb) (jt l);have h4:=mh (W:=W'.put W.next (.cells (jg l))) (pU _) (jt l);simp only[SX,h2,h3,h1,eT,ah0,h4,bp,am];exact⟨aA,a8.put (aP _) _⟩
def ut(p:UInt8->Bool)(l:List UInt8):List UInt8:=(l.reverse.dropWhile p).reverse
def yC{p:UInt8->Bool}:∀{l:List UInt8} {k:Nat},(∀c∈l.take k,p c=true)->(l.drop k).dropWhile p=l.dropWhile p
 |l,0,_=>by simp
 |[],k+1,_=>by simp
 |c::l,k+1,h=>by have hc:p c=true:=h c (by simp);rw[List.drop_succ_cons,BI,ax hc];exact yC λd hd=>h d (by simp[hd])
abbrev LM(S:List UInt8)(c:UInt8):Bool:=S.any λx=>x==c
def TC{b:Nat}{S l:List UInt8}{W:AW}(hb:aL W b=some (jg S))(hl:l.length<1000):bm (.func (.func 133) #[] #[]) [.string (aM l),.pointer (some ⟨b,0,none⟩)] W=some (.string (aM (l.dropWhile (LM S))),W):=by
 refine bT rfl ?_ qd;unfold lC;simp only[SX];refine bY l.length (by omega) (λk R W'=>W'=W/\R 0=.string (aM (l.drop k))/\R 1=.pointer (some ⟨b,0,none⟩)/\∀c∈l.take k,LM S c=true)
  (λr=>r.2.2=W/\r.1=.exit 0/\r.2.1 0=.string (aM (l.dropWhile (LM S)))) ⟨rfl,rfl,rfl,by simp⟩ ?_ ?_ ?_
 ·rintro k R W' hk ⟨rfl,h0,h1,ha⟩;unfold gh;have hd:l.drop k=l[k]::l.drop (k+1):=rT hk;have e1:(0:Int)<((l.drop k).length:Int):=by rw[List.length_drop];omega
  have e0:eH Tryz.prog 9 (.string (aM (l.drop k))) (.af 0) W'=some (.int .u8 (l[k].toNat:Int),W'):=by have:=i5 (P:=Tryz.prog) (W:=W') (k:=.i64) T4 (l:=l.drop k) (i:=0) (by rw[List.length_drop];omega);simpa using this
  have e3:fh Tryz.prog 9 (.string (aM (l.drop k))) (some (.af 1)) none none W'=some (.string (aM (l.drop (k+1))),W'):=by have:=VX (P:=Tryz.prog) (W:=W') (k:=.i64) T4 (l:=l.drop k) (a:=1) (by rw[List.length_drop];omega);rw[nL]at this;exact this
  simp only[SX,h0,h1,eO qh,e1,e0,F2 hb,e3];cases hp:LM S l[k]
  ·simp only[SX,show(S.any λx=>x==l[k])=false from hp,am];refine .inr ⟨by simp,aA,aA,?_⟩;show R 0=_;rw[h0,<-yC ha,hd,BI,hp];rfl
  ·simp only[SX,show(S.any λx=>x==l[k])=true from hp,am];refine .inl ⟨aA,aA,rfl,h1,?_⟩;rw[<-zN hk];intro c hc;rcases oU.1 hc with h|h
   ·exact ha c h
   ·rw[m9.1 h];exact hp
 ·rintro R W' ⟨rfl,h0,h1,ha⟩;unfold gh;rw[List.drop_length]at h0;have e1:¬(0:Int)<(([]:List UInt8).length:Int):=by simp
  simp only[SX,h0,h1,eO qh,e1,am];refine⟨by simp,aA,aA,?_⟩;show R 0=_;rw[h0,<-yC ha,List.drop_length];rfl
 ·rintro⟨x,R,W'⟩ ⟨hW,hx,h0⟩;simp only at hW hx h0;subst hW hx;simp only[SX,am,h0];exact⟨aA,.refl _⟩
def Cf{p:UInt8->Bool}{l:List UInt8}{n:Nat}(h:∀c∈l.drop n,p c=true):ut p (l.take n)=ut p l:=by
 unfold ut;have h2:l.reverse=(l.drop n).reverse++(l.take n).reverse:=by rw[<-List.reverse_append,wK]
 have h3:=yC (p:=p) (l:=l.reverse) (k:=(l.drop n).reverse.length) (by rw[h2,uH];intro c hc;exact h c (List.mem_reverse.1 hc));rw[<-h3,h2,xS]
def Vp{b:Nat}{S l:List UInt8}{W:AW}(hb:aL W b=some (jg S))(hl:l.length<1000):bm (.func (.func 134) #[] #[]) [.string (aM l),.pointer (some ⟨b,0,none⟩)] W=some (.string (aM (ut (LM S) l)),W):=by
 refine bT rfl ?_ pj;unfold kD;simp only[SX];refine bY l.length (by omega) (λk R W'=>W'=W/\R 0=.string (aM (l.take (l.length-k)))/\R 1=.pointer (some ⟨b,0,none⟩)/\∀c∈l.drop (l.length-k),LM S c=true)
  (λr=>r.2.2=W/\r.1=.exit 0/\r.2.1 0=.string (aM (ut (LM S) l))) ⟨rfl,by simp;rfl,rfl,by simp⟩ ?_ ?_ ?_
 ·rintro k R W' hk ⟨rfl,h0,h1,ha⟩;unfold fN;obtain⟨m,hm⟩:∃m,l.length-k=m+1:=⟨l.length-k-1,by omega⟩;have hm2:l.length-(k+1)=m:=by omega
  have hml:m<l.length:=by omega
  rw[hm]at h0 ha;have eA:(l.take (m+1)).length=m+1:=by rw[dF];omega
  have e1:(0:Int)<(((m+1:Nat):Int)):=by omega
  have e2:((m+1:Nat):Int)-1=(m:Int):=by omega
  have e0:eH Tryz.prog 9 (.string (aM (l.take (m+1)))) (.af (m:Int)) W'=some (.int .u8 (l[m].toNat:Int),W'):=by have:=i5 (P:=Tryz.prog) (W:=W') (k:=.i64) T4 (l:=l.take (m+1)) (i:=m) (by rw[dF];omega);simpa using this
  have e3:fh Tryz.prog 9 (.string (aM (l.take (m+1)))) none (some (.af (m:Int))) none W'=some (.string (aM (l.take m)),W'):=by have:=acs (P:=Tryz.prog) (W:=W') (k:=.i64) T4 (l:=l.take (m+1)) (a:=m) (by rw[dF];omega);rw[uY,o8 (by omega)]at this;exact this
  have es:=UR W' ((m+1:Nat):Int) 1;rw[e2]at es;simp only[SX,h0,h1,eO qh,eA,e1,es,e0,F2 hb,e3];cases hp:LM S l[m]
  ·simp only[SX,show(S.any λx=>x==l[m])=false from hp,am];refine .inr ⟨by simp,aA,aA,?_⟩;show R 0=_;rw[h0,<-Cf ha,<-zN hml];unfold ut;rw[List.reverse_append,List.reverse_singleton,List.singleton_append,BI,hp];simp
  ·simp only[SX,show(S.any λx=>x==l[m])=true from hp,am];refine .inl ⟨aA,aA,by rw[hm2];rfl,h1,?_⟩;rw[hm2,rT hml];intro c hc;rcases dz.1 hc with h|h
   ·rw[h];exact hp
   ·exact ha c h
 ·rintro R W' ⟨rfl,h0,h1,ha⟩;unfold fN;rw[pT,px]at h0;rw[pT,kN]at ha;have e1:¬(0:Int)<(([]:List UInt8).length:Int):=by simp
  simp only[SX,h0,h1,eO qh,e1,am];refine⟨by simp,aA,aA,?_⟩;show R 0=_;rw[h0,<-Cf (n:=0) (by simpa using ha)];rfl
 ·rintro⟨x,R,W'⟩ ⟨hW,hx,h0⟩;simp only at hW hx h0;subst hW hx;simp only[SX,am,h0];exact⟨aA,.refl _⟩
def Ad{p:UInt8->Bool}:∀{l:List UInt8},l.dropWhile p=[]<->∀c∈l,p c=true
 |[]=>by simp
 |c::l=>by
  rw[BI];cases hp:p c
  ·simp[hp]
  ·simp[hp,Ad]
def UE{p:UInt8->Bool}{l:List UInt8}:(((ut p l).dropWhile p)==[])=l.all p:=by
 rw[qu,mn,Ad,cM];unfold ut;constructor
 ·intro h;have h2:l.reverse.dropWhile p=[]:=by
   cases hd:l.reverse.dropWhile p with
   |nil=>rfl
   |cons x xs=>have:=List.head_dropWhile_not (p:=p) (l:=l.reverse) (by rw[hd];simp);rw[hd]at h;have h3:=h x (by simp);simp only[hd,List.head_cons]at this;rw[h3]at this;cases this
  rw[Ad]at h2;exactλc hc=>h2 c (List.mem_reverse.2 hc)
 ·intro h c hc;exact h c (by have:=List.mem_reverse.1 hc;have:=(List.dropWhile_sublist p).subset this;exact List.mem_reverse.1 this)
def yZ:List Nat:=[97,98,99,100,101,102,103,104,105,106,107,108,109,110,111,112,113,114,115,116,117,118,119,120,121,122,48,49,50,51,52,53,54,55,56,57,45]
def ks:List UInt8:=yZ.map UInt8.ofNat
def P6:∀n,n<256->LM ks (UInt8.ofNat n)=pL (UInt8.ofNat n):=by decide+kernel
def I5(c:UInt8):LM ks c=pL c:=by have:=P6 c.toNat c.toNat_lt;rwa [UInt8.ofNat_toNat]at this
def Y6{l:List UInt8}(hl:l.length<1000)(h0:l≠[])(W:AW):bm (.func (.func 97) #[] #[]) [.string (aM l),C7 yZ] W=some (.string (aM ((ut (LM ks) l).dropWhile (LM ks))),W):=by
 refine bT rfl ?_ Bx;unfold xg;have hs:=Vi (l:=ks) (by decide) (by decide+kernel) W;have e1:(l==[])=false:=by simpa using h0
 have e2:(ks==[])=false:=by decide+kernel
 have e3:¬((ks.length:Int)=1):=by decide+kernel
 have hz:(jg []).length=256:=jt [];have nS:bP 256 (.pointer (some ⟨W.next,0,none⟩)) (.agg (jg ks).toArray) (W.add (.cells (jg [])))=some (ag,(W.add (.cells (jg []))).put W.next (.cells (jg ks))):=by rw[vf,cg];simp only[bp,sy,jt,aI,aP,Jm,nJ,bh,gI,px,kg];rw[Ca (by simp[jt]),jn]
 have hc:aL ((W.add (.cells (jg []))).put W.next (.cells (jg ks))) W.next=some (jg ks):=pU _;have hr:=Vp (l:=l) hc hl;have gZ:(ut (LM ks) l).length<1000:=by have:=(List.dropWhile_sublist (LM ks) (l:=l.reverse)).length_le;unfold ut;rw[List.length_reverse];rw[List.length_reverse]at this;omega
 have hL:=TC hc gZ;show Ok _ _;rw[wF];change bm (.func (.func 132) #[] #[]) [.string (aM (yZ.map UInt8.ofNat))] W=_ at hs;simp only[SX,wF,mO,pF,e1,eO qh];simp only[SX,show(yZ.map UInt8.ofNat==[])=false from e2,show¬(((yZ.map UInt8.ofNat).length:Int)=1)from e3,hs,ZF,nS,hr,hL,am];exact⟨aA,((Le.refl _).add _).put (aP _) _⟩
def rM(l:List UInt8)(W:AW):bm (.func (.func 70) #[] #[]) [.string (aM l)] W=some (.bool (qc l),W):=by
 refine bT rfl ?_ Ff;unfold CD;cases l with
 |nil=>simp only[SX,wF,mO,pF,BEq.rfl,am];exact⟨rfl,.refl _⟩
 |cons c l=>
  have e1:(c::l==[])=false:=rfl;have e0:eH Tryz.prog 9 (.string (aM (c::l))) (.af 0) W=some (.int .u8 (c.toNat:Int),W):=by have:=i5 (P:=Tryz.prog) (W:=W) (k:=.i64) T4 (l:=c::l) (i:=0) (by simp);simpa using this
  by_cases h1:(16:Int)<(((c::l).length:Nat):Int)
  ·simp only[SX,wF,mO,pF,e1,eO qh,h1,am];refine⟨?_,.refl _⟩;have:decide ((c::l).length<=16)=false:=by simpa using(by omega:¬((c::l).length<=16))
   simp only[qc,this,Bool.and_false,kP]
  ·have h16:decide ((c::l).length<=16)=true:=by simpa using(by omega:((c::l).length<=16))
   by_cases h2:(c.toNat:Int)<97
   ·simp only[SX,wF,mO,pF,e1,eO qh,h1,e0,h2,am];refine⟨?_,.refl _⟩;have:decide (97<=c.toNat)=false:=by simpa using(by omega:¬(97<=c.toNat))
    simp only[qc,this,kP]
   ·by_cases h3:(122:Int)<(c.toNat:Int)
    ·simp only[SX,wF,mO,pF,e1,eO qh,h1,e0,h2,h3,am];refine⟨?_,.refl _⟩;have:decide (c.toNat<=122)=false:=by simpa using(by omega:¬(c.toNat<=122))
     simp only[qc,this,Bool.and_false,kP]
    ·have ht:=Y6 (l:=c::l) (by omega) (by simp) W;have hv:(C7 [97,98,99,100,101,102,103,104,105,106,107,108,109,110,111,112,113,114,115,116,117,118,119,120,121,122,48,49,50,51,52,53,54,55,56,57,45])=C7 yZ:=rfl;rw[hv];simp only[SX,wF [],mO,pF,e1,eO qh,h1,e0,h2,h3,ht,UE,am];refine⟨?_,.refl _⟩;have i1:decide (97<=c.toNat)=true:=by simpa using(by omega:(97<=c.toNat))
     have i2:decide (c.toNat<=122)=true:=by simpa using(by omega:(c.toNat<=122))
     have i3:LM ks=pL:=funext I5;simp only[qc,i1,i2,i3,h16,jK]
def RH(c:UInt8):Bool:=decide (97<=c.toNat)&&decide (c.toNat<=122)
def VI(c:UInt8):Bool:=decide (48<=c.toNat)&&decide (c.toNat<=57)
def qO(c:UInt8)(W:AW):bm (.func (.func 102) #[] #[]) [.int .u8 (c.toNat:Int)] W=some (.bool (RH c),W):=by
 refine bT rfl ?_ Ci;unfold As RH;by_cases h:97<=c.toNat
 ·have h1:(97:Int)<=(c.toNat:Int):=by omega
  simp only[SX,h,h1,jK,am];exact⟨by congr 2;exact propext ⟨λ_=>by omega,λ_=>by omega⟩,.refl _⟩
 ·have h1:¬(97:Int)<=(c.toNat:Int):=by omega
  simp only[SX,h,h1,kP,am];exact⟨aA,.refl _⟩
def C0(c:UInt8)(W:AW):bm (.func (.func 103) #[] #[]) [.int .u8 (c.toNat:Int)] W=some (.bool (VI c),W):=by
 refine bT rfl ?_ Eh;unfold Al VI;by_cases h:48<=c.toNat
 ·have h1:(48:Int)<=(c.toNat:Int):=by omega
  simp only[SX,h,h1,jK,am];exact⟨by congr 2;exact propext ⟨λ_=>by omega,λ_=>by omega⟩,.refl _⟩
 ·have h1:¬(48:Int)<=(c.toNat:Int):=by omega
  simp only[SX,h,h1,kP,am];exact⟨aA,.refl _⟩
def TO(c:UInt8):pL c=(RH c||VI c||decide ((c.toNat:Int)=45)):=by unfold pL RH VI;congr 1;rw[qu,mn,decide_eq_true_iff];exact⟨λ_=>by omega,λ_=>by omega⟩
def LZ(l:List UInt8)(W:AW):bm (.func (.func 78) #[] #[]) [.string (aM l)] W=some (.bool (qc l),W):=by
 refine bT rfl ?_ EG;unfold CY;cases l with
 |nil=>simp only[SX,eO qh,oG,show((0:Nat):Int)<1 by omega,am];exact⟨rfl,.refl _⟩
 |cons c l=>
  have e1:¬(((c::l).length:Int)<1):=by rw[dE];omega
  have e0:eH Tryz.prog 9 (.string (aM (c::l))) (.af 0) W=some (.int .u8 (c.toNat:Int),W):=by have:=i5 (P:=Tryz.prog) (W:=W) (k:=.i64) T4 (l:=c::l) (i:=0) (by simp);simpa using this
  by_cases h1:(16:Int)<(((c::l).length:Nat):Int)
  ·simp only[SX,eO qh,e1,h1,am];refine⟨?_,.refl _⟩;have:decide ((c::l).length<=16)=false:=by simpa using(by omega:¬((c::l).length<=16))
   simp only[qc,this,Bool.and_false,kP]
  ·have h16:decide ((c::l).length<=16)=true:=by simpa using(by omega:((c::l).length<=16))
   cases YZ:RH c
   ·simp only[SX,eO qh,e1,h1,e0,qO,YZ,am];refine⟨?_,.refl _⟩;have:(decide (97<=c.toNat)&&decide (c.toNat<=122))=false:=YZ;simp only[qc,this,kP]
   ·simp only[SX,eO qh,e1,h1,e0,qO,YZ];have hn:qc (c::l)=(c::l).all pL:=by have:(decide (97<=c.toNat)&&decide (c.toNat<=122))=true:=YZ;simp only[qc,this,h16,jK]
    rw[hn];generalize hL:c::l=L;rw[hL]at h1;refine bY L.length (by omega) (λk R W'=>W'=W/\R 0=.string (aM L)/\R 3=.af (k:Int)/\(L.take k).all pL=true)
     (λr=>r.2.2=W/\((r.1=.exit 0/\L.all pL=true)\/(r.1=.ret/\r.2.1 2=.bool false/\L.all pL=false))) ⟨rfl,rfl,rfl,rfl⟩ ?_ ?_ ?_
    ·rintro k R W' hk ⟨rfl,h0,h3,ha⟩;unfold qp;have e1:((k:Int)<(L.length:Int)):=by omega
     have hx:=TO L[k];have yes:pL L[k]=true->(L.take (k+1)).all pL=true:=λh=>by rw[<-zN hk,List.all_append,ha];simpa using h
     have no:pL L[k]=false->L.all pL=false:=λh=>by rw[List.all_eq_false];exact⟨L[k],fb hk,by simp[h]⟩
     have e2:(k:Int)+1=((k+1:Nat):Int):=by omega
     have ea:=cQ W' k 1;cases i1:RH L[k]
     ·cases i2:VI L[k]
      ·by_cases i3:(L[k].toNat:Int)=45
       ·simp only[SX,h0,h3,eO qh,e1,i5 T4 hk,qO,C0,i1,i2,show decide ((L[k].toNat:Int)=45)=true from aS i3,ea,am];refine .inl ⟨aA,aA,h0,by rw[<-e2];rfl,yes (by rw[hx,i1,i2];simp[i3])⟩
       ·simp only[SX,h0,h3,eO qh,e1,i5 T4 hk,qO,C0,i1,i2,i3,ea,am];refine .inr ⟨by simp,aA,.inr ⟨aA,rfl,no (by rw[hx,i1,i2];simp[i3])⟩⟩
      ·simp only[SX,h0,h3,eO qh,e1,i5 T4 hk,qO,C0,i1,i2,ea,am];refine .inl ⟨aA,aA,h0,by rw[<-e2];rfl,yes (by rw[hx,i1,i2];simp)⟩
     ·simp only[SX,h0,h3,eO qh,e1,i5 T4 hk,qO,i1,ea,am];refine .inl ⟨aA,aA,h0,by rw[<-e2];rfl,yes (by rw[hx,i1];simp)⟩
    ·rintro R W' ⟨rfl,h0,h3,ha⟩;unfold qp;have e1:¬((L.length:Int)<(L.length:Int)):=by omega
     rw[dd]at ha;simp only[SX,h0,h3,eO qh,e1,am];exact⟨by simp,aA,.inl ⟨aA,ha⟩⟩
    ·rintro⟨x,R,W'⟩ ⟨hW,h⟩;simp only at hW h;subst hW;rcases h with⟨rfl,h⟩|⟨rfl,h2,h⟩
     ·simp only[SX,am,h];exact⟨aA,.refl _⟩
     ·simp only[SX,am,h,h2];exact⟨aA,.refl _⟩
structure jy where
 name:List UInt8
 rows:List Int
 q:Int
structure cA where
 sh:Int
 pq:Int
 pp:Int
 az:List jy
def Tf(W:AW)(cs:List ae)(p:Nat)(s:jy):Prop:=cs[p]? =some (.string (aM s.name))/\cs[p+2]? =some (.af s.q)/\∃rv,cs[p+1]? =some rv/\kr W rv s.rows/\tr rv rv=true/\Eng.one rv=true
abbrev eY(W:AW)(v:ae)(l:List jy):Prop:=Row W 3 (Tf W) v l
def Row.imp{α:Type}{W W':AW}{z:Nat}{f g:List ae->Nat->α->Prop}{v:ae}{l:List α}(h:Row W z f v l)(a8:Le W W')(hfg:∀cs p a,f cs p a->g cs p a):Row W' z g v l:=by
 obtain⟨a,c,rfl,k⟩:=h.mono a8;refine⟨a,c,rfl,?_⟩;rcases k with h|⟨b,o,cs,h1,h2,h3,h4⟩
 ·exact .inl h
 ·exact .inr ⟨b,o,cs,h1,h2,h3,λi hi=>hfg _ _ _ (h4 i hi)⟩
def eY.mono{W W':AW}{v:ae}{l:List jy}(h:eY W v l)(a8:Le W W'):eY W' v l:=
 Row.imp h a8 λcs p s ⟨h1,h2,rv,h3,h4,h5⟩=>⟨h1,h2,rv,h3,h4.mono a8,h5⟩
def Oq{cs:List ae}{p:Nat}{a b c:ae}(h0:cs[p]? =some a)(h1:cs[p+1]? =some b)(h2:cs[p+2]? =some c):(cs.drop p).take 3=[a,b,c]:=by obtain⟨i0,e0⟩:=du.1 h0;obtain⟨i1,e1⟩:=du.1 h1;obtain⟨i2,e2⟩:=du.1 h2;rw[rT i0,rT i1,rT i2,e0,e1,e2];rfl
abbrev Di(s:jy)(rv:ae):ae:=.agg #[.string (aM s.name),rv,.af s.q]
def eY.get{W:AW}{v:ae}{l:List jy}(h:eY W v l){i:Nat}(hi:i<l.length):∃b o rv,(∀W' k,gn 3 v (.int k (i:Int)) W'=some (.pointer (some ⟨b,o,none⟩),W'))/\kr W rv l[i].rows/\
 (∀W',Le W W'->bA 3 (.pointer (some ⟨b,o,none⟩)) W'=some (Di l[i] rv,W'))/\(∀W',Le W W'->aK (.pointer (some ⟨b,o,none⟩)) W'=some (.string (aM l[i].name),W'))/\
 (∀W',Le W W'->aK (.pointer (some ⟨b,o+1,none⟩)) W'=some (rv,W'))/\(∀W',Le W W'->aK (.pointer (some ⟨b,o+2,none⟩)) W'=some (.af l[i].q,W')):=by
 obtain⟨b,o,cs,h1,h2,h3,h4,h5,rv,h6,h7,-⟩:=h.elem hi;refine⟨b,o,rv,h1,h7,λW' a8=>?_,λW' a8=>df (by rw[a8.aL h2];exact h3) h4,λW' a8=>df (by rw[a8.aL h2];exact h3) h6,λW' a8=>df (by rw[a8.aL h2];exact h3) h5⟩;rw[zJ,a8.aL h2,h3];simp only[bp,Oq h4 h6 h5,dE,oG,bh]
def um(s:jy)(mK:List jy):Int:=
 if qc s.name=false then 6 else if(mK.any λx=>x.name==s.name)=true then 8 else if s.rows.length=0 then 6 else if 16<s.rows.length then 3 else
 if(s.rows.any λn=>jf n 1 64)=true then 7 else if jf s.q 0 64=true then 7 else 0
def lE(l:List jy):Nat->Option (Nat×Int)
 |0=>none
 |k+1=>match lE l k with
  |some r=>some r
  |none=>match l[k]? with
   |some s=>if um s (l.take k)=0 then none else some (k,um s (l.take k))
   |none=>none
def uP{l:List jy}{k n:Nat}{r:Nat×Int}(h:lE l k=some r)(hn:k<=n):lE l n=some r:=by
 induction n with
 |zero=>obtain rfl:k=0:=by omega
        exact h
 |succ n ih=>
  by_cases hk:k=n+1
  ·rw[<-hk];exact h
  ·show(match lE l n with|some r=>some r|none=>_)=_;rw[ih (by omega)]
def jm(l:List Int):Int:=l.foldr (· + ·) 0
def DT(l:List Int)(n:Int):jm (l++[n])=jm l+n:=by
 induction l with
 |nil=>simp[jm]
 |cons a l ih=>simp only[jm,qj,List.foldr_cons]at ih|-;omega
def dQ(l:List jy):Int:=jm (l.map λs=>jm s.rows)
def vg(v:cA):Bool:=jf v.sh 1 16||jf v.pq 1 1000000000||jf v.pp 1 1000000000
def fp(v:cA):Int×Int:=
 if vg v=true then(-1,7)else if v.az.length=0 then(-1,6)else if 8<v.az.length then(-1,3)else
 match lE v.az v.az.length with
 |some (i,e)=>((i:Int),e)
 |none=>if 4096<dQ v.az then(-1,3)else(0,0)
abbrev fc(v:cA)(sv:ae):ae:=.agg #[.af v.sh,.af v.pq,.af v.pp,sv]
def fJ(W:AW)(sv:ae)(l:List jy):Prop:=eY W sv l/\(∃a c,sv=.slice a l.length c/\((l.length<=c/\c<gU)\/c=gU+3)/\(l≠[]->∃b o,a=some ⟨b,o,none⟩))
def fJ.mono{W W':AW}{v:ae}{l:List jy}(h:fJ W v l)(a8:Le W W'):fJ W' v l:=⟨h.1.mono a8,h.2⟩
def Row.take{α:Type}{W:AW}{z:Nat}{f:List ae->Nat->α->Prop}{b o c:Nat}{l:List α}(h:Row W z f (.slice (some ⟨b,o,none⟩) l.length c) l){k:Nat}(hk:k<=l.length)(h0:l≠[]):Row W z f (.slice (some ⟨b,o,none⟩) k c) (l.take k):=by
 obtain⟨a,c',he,h⟩:=h;injection he with e1 e2 e3;subst e1 e3;refine⟨_,c,by rw[dF,o8 hk],?_⟩;rcases h with h|⟨b',o',cs,h1,h2,h3,h4⟩
 ·exact absurd h h0
 ·refine .inr ⟨b',o',cs,h1,h2,h3,λi hi=>?_⟩;rw[List.getElem_take];exact h4 i (by rw[dF]at hi;omega)
def aiD:wz Tryz.prog 22=some 3:=by kernel_rfl
def fJ.pre{W:AW}{sv:ae}{l:List jy}(h:fJ W sv l){k:Nat}(hk:k<l.length):∃u,(∀W',fh Tryz.prog 22 sv none (some (.af (k:Int))) none W'=some (u,W'))/\eY W u (l.take k):=by
 obtain⟨h1,a,c,rfl,h2,h4⟩:=h;have h0:l≠[]:=by intro e;rw[e]at hk;simp at hk
 obtain⟨b,o,rfl⟩:=h4 h0;rcases h2 with⟨h2,h3⟩|rfl
 ·exact⟨_,λW'=>FI aiD (by omega) h3,Row.take h1 (by omega) h0⟩
 ·exact⟨_,λW'=>Mb aiD (by omega) (Nat.le_of_lt hk),Row.take h1 (by omega) h0⟩
def Qc(W:AW):aY Tryz.prog 66 W=some (.pointer (some ⟨W.next,0,none⟩),W.add (.cells [.string (aM []),.slice none 0 0,.af 0])):=aJ (by kernel_rfl) rfl
def Bn{α:Type}(p:α->Bool)(l:List α):Int:=match l.findIdx? p with
 |some i=>(i:Int)
 |none=> -1
def FN{α:Type}{p:α->Bool}{l:List α}{k:Nat}(hk:k<l.length)(h1:p l[k]=true)(h2:(l.take k).any p=false):Bn p l=(k:Int):=by
 have:l.findIdx? p=some k:=by rw[List.findIdx?_eq_some_iff_getElem];refine⟨hk,h1,λj hj=>?_⟩;rw[List.any_eq_false]at h2;exact h2 _ (by rw[List.mem_take_iff_getElem];exact⟨j,by omega,rfl⟩)
 unfold Bn;rw[this]
def F6{α:Type}{p:α->Bool}{l:List α}(h:l.any p=false):Bn p l= -1:=by
 have:l.findIdx? p=none:=by rw[List.findIdx?_eq_none_iff];intro x hx;rw[List.any_eq_false]at h;simpa using h x hx
 unfold Bn;rw[this]
def xC{α:Type}{p:α->Bool}{l:List α}{k:Nat}(hk:k<l.length)(h1:p l[k]=false)(h2:(l.take k).any p=false):(l.take (k+1)).any p=false:=by rw[<-zN hk,List.any_append,h2];simpa using h1
def any_some{α:Type}{p:α->Bool}{l:List α}{k:Nat}(hk:k<l.length)(h1:p l[k]=true):l.any p=true:=by rw[uL];exact⟨_,fb hk,h1⟩
def IG{α:Type}{p:α->Bool}{l:List α}:decide (0<=Bn p l)=l.any p:=by
 unfold Bn;cases h:l.findIdx? p with
 |none=>
  rw[List.findIdx?_eq_none_iff]at h;have:l.any p=false:=by rw[List.any_eq_false];intro x hx;simpa using h x hx
  rw[this];rfl
 |some i=>rw[List.findIdx?_eq_some_iff_getElem]at h;obtain⟨h1,h2,h3⟩:=h;rw[any_some h1 h2];simp
def Ps{f v:ae}{p:jy->Bool}{l:List jy}{W:AW}(h:eY W v l)(hl:l.length<1000)(hp:∀s rv,bm f [Di s rv] W=some (.bool (p s),W)):bm (.func (.func 98) #[] #[]) [v,f] W=some (.af (Bn p l),W):=by
 refine bT rfl ?_ gp;unfold eg;simp only[SX,h.len xn];refine bY l.length (by omega) (λk R W'=>W'=W/\R 0=v/\R 1=f/\R 7=.af (l.length:Int)/\R 8=.af (k:Int)/\(l.take k).any p=false)
  (λr=>r.2.2=W/\((r.1=.exit 0/\Bn p l= -1)\/(r.1=.ret/\r.2.1 4=.af (Bn p l)))) ⟨rfl,rfl,rfl,rfl,rfl,rfl⟩ ?_ ?_ ?_
 ·rintro k R W' hk ⟨rfl,h0,h1,h7,h8,ha⟩;unfold cN;obtain⟨b,o,rv,g1,g2,g3,_⟩:=h.get hk;have e1:((k:Int)<(l.length:Int)):=by omega
  have e2:(k:Int)+1=((k+1:Nat):Int):=by omega
  have ea:=cQ W' k 1;simp only[SX,h0,h1,h7,h8,e1,g1,g3 _ (.refl _),hp];cases hx:p l[k]
  ·simp only[SX,ea,am];exact .inl ⟨aA,aA,h0,h1,h7,by rw[<-e2];rfl,xC hk hx ha⟩
  ·simp only[SX,am];exact .inr ⟨by simp,aA,.inr ⟨aA,by rw[FN hk hx ha];rfl⟩⟩
 ·rintro R W' ⟨rfl,h0,h1,h7,h8,ha⟩;unfold cN;have e1:¬((l.length:Int)<(l.length:Int)):=by omega
  rw[dd]at ha;simp only[SX,h7,h8,e1,am];exact⟨by simp,aA,.inl ⟨aA,F6 ha⟩⟩
 ·rintro⟨x,R,W'⟩ ⟨hW,hq⟩;simp only at hW hq;subst hW;rcases hq with⟨rfl,hq⟩|⟨rfl,h4⟩
  ·simp only[SX,am,hq];exact⟨aA,.refl _⟩
  ·simp only[SX,am,h4];exact⟨aA,.refl _⟩
def R3{f v:ae}{p:Int->Bool}{l:List Int}{W:AW}(h:kr W v l)(hl:l.length<1000)(hp:∀n∈l,bm f [.af n] W=some (.bool (p n),W)):bm (.func (.func 99) #[] #[]) [v,f] W=some (.af (Bn p l),W):=by
 refine bT rfl ?_ pm;unfold kH;simp only[SX,h.len rt];refine bY l.length (by omega) (λk R W'=>W'=W/\R 0=v/\R 1=f/\R 7=.af (l.length:Int)/\R 8=.af (k:Int)/\(l.take k).any p=false)
  (λr=>r.2.2=W/\((r.1=.exit 0/\Bn p l= -1)\/(r.1=.ret/\r.2.1 4=.af (Bn p l)))) ⟨rfl,rfl,rfl,rfl,rfl,rfl⟩ ?_ ?_ ?_
 ·rintro k R W' hk ⟨rfl,h0,h1,h7,h8,ha⟩;unfold fO;obtain⟨q,g1,g2⟩:=h.get hk;have e1:((k:Int)<(l.length:Int)):=by omega
  have e2:(k:Int)+1=((k+1:Nat):Int):=by omega
  have ea:=cQ W' k 1;simp only[SX,h0,h1,h7,h8,e1,g1,g2 _ (.refl _),hp _ (fb hk)];cases hx:p l[k]
  ·simp only[SX,ea,am];exact .inl ⟨aA,aA,h0,h1,h7,by rw[<-e2];rfl,xC hk hx ha⟩
  ·simp only[SX,am];exact .inr ⟨by simp,aA,.inr ⟨aA,by rw[FN hk hx ha];rfl⟩⟩
 ·rintro R W' ⟨rfl,h0,h1,h7,h8,ha⟩;unfold fO;have e1:¬((l.length:Int)<(l.length:Int)):=by omega
  rw[dd]at ha;simp only[SX,h7,h8,e1,am];exact⟨by simp,aA,.inl ⟨aA,F6 ha⟩⟩
 ·rintro⟨x,R,W'⟩ ⟨hW,hq⟩;simp only at hW hq;subst hW;rcases hq with⟨rfl,hq⟩|⟨rfl,h4⟩
  ·simp only[SX,am,hq];exact⟨aA,.refl _⟩
  ·simp only[SX,am,h4];exact⟨aA,.refl _⟩
def Pu{f v:ae}{p:jy->Bool}{l:List jy}{W:AW}(h:eY W v l)(hl:l.length<1000)(hp:∀s rv,bm f [Di s rv] W=some (.bool (p s),W)):bm (.func (.func 71) #[] #[]) [v,f] W=some (.bool (l.any p),W):=by refine bT rfl ?_ fL;unfold dR;simp only[SX,Ps h hl hp,IG,am];exact⟨aA,.refl _⟩
def Sb{f v:ae}{p:Int->Bool}{l:List Int}{W:AW}(h:kr W v l)(hl:l.length<1000)(hp:∀n∈l,bm f [.af n] W=some (.bool (p n),W)):bm (.func (.func 73) #[] #[]) [v,f] W=some (.bool (l.any p),W):=by refine bT rfl ?_ mZ;unfold jb;simp only[SX,R3 h hl hp,IG,am];exact⟨aA,.refl _⟩
def PE(n:Int)(W:AW):bm (.func (.func 74) #[] #[]) [.af n] W=some (.bool (jf n 1 64),W):=by refine bT rfl ?_ zP;unfold vK;simp only[SX,me,am];exact⟨aA,.refl _⟩
def aoO(a b c:ae)(W:AW):cD (.agg #[a,b,c]) W=some (.pointer (some ⟨W.next,0,none⟩),W.add (.cells [a,b,c])):=gD _
def Kj{c:Nat}{m:List UInt8}{W:AW}(hc:∀W',Le W W'->aK (.pointer (some ⟨c,0,none⟩)) W'=some (.string (aM m),W'))(s:jy)(rv:ae):
 bm (.func (.func 72) #[] #[.pointer (some ⟨c,0,none⟩)]) [Di s rv] W=some (.bool (s.name==m),W):=by
 refine bT rfl ?_ za;unfold vV;have h0:=hc _ ((Le.refl W).add (.cells [.string (aM s.name),rv,.af s.q]));have h1:aK (.pointer (some ⟨W.next,0,none⟩)) (W.add (.cells [.string (aM s.name),rv,.af s.q]))=some (.string (aM s.name),W.add (.cells [.string (aM s.name),rv,.af s.q])):=df bE rfl;simp only[SX,h0,h1,aI,pF,am];exact⟨aA,(Le.refl _).add _⟩
def RZ{s:jy}{rv bv:ae}{mK:List jy}{W:AW}(hs:kr W rv s.rows)(hb:eY W bv mK)(hl:mK.length<1000):bm (.func (.func 47) #[] #[]) [Di s rv,bv] W=some (.af (um s mK),W):=by
 refine bT rfl ?_ DQ;unfold Ao;have a8:Le W (W.add (.cells [.string (aM s.name),rv,.af s.q])):=(Le.refl W).add _;simp only[SX,aI];generalize Ld:W.add (.cells [.string (aM s.name),rv,.af s.q])=W1 at *;have pw:aL W1 W.next=some [.string (aM s.name),rv,.af s.q]:=by rw[<-Ld];exact bE
 have hn:W.next<W1.next:=by rw[<-Ld,AW.aG];omega
 have h0:∀W',Le W1 W'->aK (.pointer (some ⟨W.next,0,none⟩)) W'=some (.string (aM s.name),W'):=λW' k=>df (by rw[k.aL hn];exact pw) rfl
 have h1:aK (.pointer (some ⟨W.next,1,none⟩)) W1=some (rv,W1):=df pw rfl;have h2:aK (.pointer (some ⟨W.next,2,none⟩)) W1=some (.af s.q,W1):=df pw rfl;have hf:=Pu (W:=W1) (hb.mono a8) hl (p:=λx=>x.name==s.name) (λx rv=>Kj h0 x rv);unfold um;cases n1:qc s.name
 ·simp only[SX,h0 _ (.refl _),rM,n1,bh,am];exact⟨aA,a8⟩
 ·cases n2:mK.any λx=>x.name==s.name
  ·by_cases n3:s.rows.length=0
   ·have e:((s.rows.length:Int)=0):=by omega
    simp only[SX,h0 _ (.refl _),rM,n1,hf,n2,h1,(hs.mono a8).len rt,e,ax n3,bR,qs,gO,am];exact⟨aA,a8⟩
   ·have e:¬((s.rows.length:Int)=0):=by omega
    by_cases n4:16<s.rows.length
    ·have e2:((16:Int)<(s.rows.length:Int)):=by omega
     simp only[SX,h0 _ (.refl _),rM,n1,hf,n2,h1,(hs.mono a8).len rt,e,n3,e2,n4,bh,bR,qs,gO,am];exact⟨aA,a8⟩
    ·have e2:¬((16:Int)<(s.rows.length:Int)):=by omega
     have hg:=Sb (W:=W1) (hs.mono a8) (by omega) (p:=λn=>jf n 1 64) (λn _=>PE n W1);cases n5:s.rows.any λn=>jf n 1 64
     ·cases n6:jf s.q 0 64
      ·simp only[SX,h0 _ (.refl _),rM,n1,hf,n2,h1,(hs.mono a8).len rt,e,n3,e2,n4,hg,n5,h2,me,n6,bR,qs,gO,am];exact⟨aA,a8⟩
      ·simp only[SX,h0 _ (.refl _),rM,n1,hf,n2,h1,(hs.mono a8).len rt,e,n3,e2,n4,hg,n5,h2,me,n6,bh,bR,qs,gO,am];exact⟨aA,a8⟩
     ·simp only[SX,h0 _ (.refl _),rM,n1,hf,n2,h1,(hs.mono a8).len rt,e,n3,e2,n4,hg,n5,bh,bR,qs,gO,am];exact⟨aA,a8⟩
  ·simp only[SX,h0 _ (.refl _),rM,n1,hf,n2,bh,bR,qs,am];exact⟨aA,a8⟩
def af5(a b c d:ae)(W:AW):cD (.agg #[a,b,c,d]) W=some (.pointer (some ⟨W.next,0,none⟩),W.add (.cells [a,b,c,d])):=gD _
def dZ(W:AW)(cs ds:List ae):(W.add (.cells cs)).put W.next (.cells ds)=W.add (.cells ds):=gt W _ _
def UL{b:Nat}{a c d x y z:ae}{W:AW}(h:aH W b=some [x,y,z])(h1:Eng.one a=true)(h2:Eng.one c=true)(h3:Eng.one d=true):bP 3 (.pointer (some ⟨b,0,none⟩)) (.agg #[a,c,d]) W=some (ag,W.put b (.cells [a,c,d])):=by
 rw[vf,h];have e:(#[a,c,d]:Array ae).toList.all Eng.one=true:=by simp[h1,h2,h3]
 simp only[bp,e,and_true];rfl
def Row.one{α:Type}{W:AW}{z:Nat}{f:List ae->Nat->α->Prop}{v:ae}{l:List α}(h:Row W z f v l):Eng.one v=true:=by obtain⟨a,c,rfl,_⟩:=h;rfl
def LP{v:cA}{sv:ae}{W:AW}(hs:eY W sv v.az)(hv:v.az.length<1000){i:Nat}(hi:i<v.az.length)(hr:v.az[i].rows.length<1000):bm (.func (.func 55) #[] #[]) [fc v sv,.af (i:Int)] W=some (.af (um v.az[i] (v.az.take i)),W):=by
 refine bT rfl ?_ zX;unfold vW;have a8:Le W (W.add (.cells [.af v.sh,.af v.pq,.af v.pp,sv])):=(Le.refl W).add _;obtain⟨b,o,rv,g1,g2,g3,_⟩:=hs.get hi;have c3:aK (.pointer (some ⟨W.next,3,none⟩)) (W.add (.cells [.af v.sh,.af v.pq,.af v.pp,sv]))=some (sv,W.add (.cells [.af v.sh,.af v.pq,.af v.pp,sv])):=df bE rfl;simp only[SX,aI,c3,g1,g3 _ a8,Qc,UL cg (jH _) (Row.one g2) (kA _ _),dZ];generalize Ld:W.add (.cells [.af v.sh,.af v.pq,.af v.pp,sv])=W1 at *;have EM:Le W (W1.add (.cells [.string (aM v.az[i].name),rv,.af v.az[i].q])):=a8.add _;have MH:aL (W1.add (.cells [.string (aM v.az[i].name),rv,.af v.az[i].q])) W.next=some [.af v.sh,.af v.pq,.af v.pp,sv]:=by rw[tR _ (by rw[<-Ld,AW.aG];omega),<-Ld];exact bE
 have iW:aL (W1.add (.cells [.string (aM v.az[i].name),rv,.af v.az[i].q])) W1.next=some [.string (aM v.az[i].name),rv,.af v.az[i].q]:=bE;generalize Fx:W1.add (.cells [.string (aM v.az[i].name),rv,.af v.az[i].q])=W2 at *;have d0:aK (.pointer (some ⟨W1.next,0,none⟩)) W2=some (.string (aM v.az[i].name),W2):=df iW rfl;have d1:aK (.pointer (some ⟨W1.next,1,none⟩)) W2=some (rv,W2):=df iW rfl;have d2:aK (.pointer (some ⟨W1.next,2,none⟩)) W2=some (.af v.az[i].q,W2):=df iW rfl;have c3:aK (.pointer (some ⟨W.next,3,none⟩)) W2=some (sv,W2):=df MH rfl;have hlr:=(g2.mono EM).len (P:=Tryz.prog) rt;simp only[SX,d0,LZ];generalize hs':v.az[i]=s at *;unfold um;cases n1:qc s.name
 ·simp only[SX,bh,am];exact⟨aA,EM⟩
 ·simp only[SX];refine bY i (by omega) (λk R W'=>W'=W2/\R 1=.af (i:Int)/\R 2=.pointer (some ⟨W.next,0,none⟩)/\R 5=.pointer (some ⟨W1.next,0,none⟩)/\R 6=.af (k:Int)/\((v.az.take i).take k).any (λx=>x.name==s.name)=false)
   (λr=>r.2.2=W2/\((r.1=.exit 0/\r.2.1 5=.pointer (some ⟨W1.next,0,none⟩)/\(v.az.take i).any (λx=>x.name==s.name)=false)\/(r.1=.ret/\r.2.1 4=.af 8/\(v.az.take i).any (λx=>x.name==s.name)=true))) ⟨rfl,rfl,rfl,rfl,rfl,rfl⟩ ?_ ?_ ?_
  ·rintro k R W' hk ⟨rfl,h1,h2,h5,h6,ha⟩;unfold lV;have HB:k<v.az.length:=by omega
   have hk3:k<(v.az.take i).length:=by rw[dF];omega
   have Sz:(v.az.take i)[k]=v.az[k]:=List.getElem_take;obtain⟨b',o',rv',f1,f2,f3,f4,_⟩:=hs.get HB;have e1:((k:Int)<(i:Int)):=by omega
   have e2:(k:Int)+1=((k+1:Nat):Int):=by omega
   have ea:=cQ W' k 1;simp only[SX,h1,h2,h5,h6,e1,aI,c3,f1,cC,f4 _ EM,d0,pF];cases hx:v.az[k].name==s.name
   ·simp only[SX,ea,am];exact .inl ⟨aA,aA,h1,h2,h5,by rw[<-e2];rfl,xC hk3 (by rw[Sz];exact hx) ha⟩
   ·simp only[SX,am];exact .inr ⟨by simp,aA,.inr ⟨aA,rfl,any_some hk3 (by rw[Sz];exact hx)⟩⟩
  ·rintro R W' ⟨rfl,h1,h2,h5,h6,ha⟩;unfold lV;have e1:¬((i:Int)<(i:Int)):=by omega
   rw[mX (by rw[dF];omega)]at ha;simp only[SX,h1,h6,e1,am];exact⟨by simp,aA,.inl ⟨aA,h5,ha⟩⟩
  ·rintro⟨x,R,W'⟩ ⟨hW,hq⟩;simp only at hW hq;subst hW;rcases hq with⟨rfl,h5,hq⟩|⟨rfl,h4,hq⟩
   ·by_cases n3:s.rows.length=0
    ·have e:((s.rows.length:Int)=0):=by omega
     simp only[SX,h5,aI,d1,hlr,e,hq,ax n3,bR,qs,gO,am];exact⟨aA,EM⟩
    ·have e:¬((s.rows.length:Int)=0):=by omega
     by_cases n4:16<s.rows.length
     ·have e2:((16:Int)<(s.rows.length:Int)):=by omega
      simp only[SX,h5,aI,d1,hlr,e,e2,hq,ay n3,ax n4,bR,qs,gO,am];exact⟨aA,EM⟩
     ·have e2:¬((16:Int)<(s.rows.length:Int)):=by omega
      simp only[SX,h5,aI,d1,hlr,e,e2,hq,ay n3,ay n4,bR,qs,gO];refine bY s.rows.length (by omega) (λk R W3=>W3=W'/\R 5=.pointer (some ⟨W1.next,0,none⟩)/\R 7=.af (k:Int)/\(s.rows.take k).any (λn=>jf n 1 64)=false)
       (λr=>r.2.2=W'/\((r.1=.exit 2/\r.2.1 5=.pointer (some ⟨W1.next,0,none⟩)/\s.rows.any (λn=>jf n 1 64)=false)\/(r.1=.ret/\r.2.1 4=.af 7/\s.rows.any (λn=>jf n 1 64)=true))) ⟨rfl,h5,rfl,rfl⟩ ?_ ?_ ?_
      ·rintro k R W3 hk ⟨rfl,h5,h7,ha⟩;unfold mc;obtain⟨p,p1,p2⟩:=g2.get hk;have e1:((k:Int)<(s.rows.length:Int)):=by omega
       have e2:(k:Int)+1=((k+1:Nat):Int):=by omega
       have ea:=cQ W3 k 1;simp only[SX,h5,h7,aI,d1,hlr,e1,p1,p2 _ EM,rf,yz];cases hx:jf s.rows[k] 1 64
       ·simp only[SX,ea,am];exact .inl ⟨aA,aA,h5,by rw[<-e2];rfl,xC hk hx ha⟩
       ·simp only[SX,am];exact .inr ⟨by simp,aA,.inr ⟨aA,rfl,any_some hk hx⟩⟩
      ·rintro R W3 ⟨rfl,h5,h7,ha⟩;unfold mc;have e1:¬((s.rows.length:Int)<(s.rows.length:Int)):=by omega
       rw[dd]at ha;simp only[SX,h5,h7,aI,d1,hlr,e1,am];exact⟨by simp,aA,.inl ⟨aA,h5,ha⟩⟩
      ·rintro⟨x,R,W3⟩ ⟨hW,hq⟩;simp only at hW hq;subst hW;rcases hq with⟨rfl,h5,hq⟩|⟨rfl,h4,hq⟩
       ·simp only[SX,h5,hq,aI,d2,rf,yz,gO,bR];cases n6:jf s.q 0 64
        ·simp only[SX,gO,bR,am];exact⟨aA,EM⟩
        ·simp only[SX,bh,am];exact⟨aA,EM⟩
       ·simp only[SX,hq,h4,bh,am];exact⟨aA,EM⟩
   ·simp only[SX,h4,hq,bh,bR,qs,am];exact⟨aA,EM⟩
def yY{s:jy}{b:List jy}(h:um s b=0):qc s.name=true/\(b.any λx=>x.name==s.name)=false/\s.rows.length≠0/\s.rows.length<=16/\(∀n∈s.rows,1<=n/\n<=64)/\0<=s.q/\s.q<=64:=by
 unfold um at h;split at h
 ·exact absurd h (by decide)
 rename_i h1;split at h
 ·exact absurd h (by decide)
 rename_i h2;split at h
 ·exact absurd h (by decide)
 rename_i h3;split at h
 ·exact absurd h (by decide)
 rename_i h4;split at h
 ·exact absurd h (by decide)
 rename_i h5;split at h
 ·exact absurd h (by decide)
 rename_i h6;refine⟨by simpa using h1,by simpa using h2,h3,by omega,?_,?_⟩
 ·intro n hn;have:jf n 1 64=false:=by
   cases ho:jf n 1 64
   ·rfl
   ·exact absurd (uL.2 ⟨n,hn,ho⟩) h5
  unfold jf at this;simp only[Bool.or_eq_false_iff,B8]at this;omega
 ·unfold jf at h6;simp only[mV,decide_eq_true_iff]at h6;omega
def nR{l:List Int}{k:Nat}(hk:k<l.length):jm (l.take (k+1))=jm (l.take k)+l[k]:=by rw[<-zN hk,DT]
def oT{l:List jy}{k:Nat}(hk:k<l.length):dQ (l.take (k+1))=dQ (l.take k)+jm l[k].rows:=by unfold dQ;rw[List.map_take,List.map_take,nR (by rw[gR];exact hk),List.getElem_map]
def oA{l:List Int}(h:∀n∈l,1<=n/\n<=64)(k:Nat):(0<=jm (l.take k)/\jm (l.take k)<=64*k)/\(min k l.length:Int)<=jm (l.take k):=by
 induction k with
 |zero=>simp[jm];omega
 |succ k ih=>
  by_cases hk:k<l.length
  ·rw[nR hk];have:=h _ (fb hk);omega
  ·rw[mX (by omega)]at ih|-;omega
def yO{l:List jy}{k:Nat}(h:lE l k=none)(hk:k<l.length):lE l (k+1)=if um l[k] (l.take k)=0 then none else some (k,um l[k] (l.take k)):=by show(match lE l k with|some r=>some r|none=>match l[k]? with|some s=>if um s (l.take k)=0 then none else some (k,um s (l.take k))|none=>none)=_;rw[h,cL hk]
def F7{l:List jy}{k:Nat}(h:lE l k=none):∀i (hi:i<k) (hl:i<l.length),um l[i] (l.take i)=0:=by
 induction k with
 |zero=>intro i hi;omega
 |succ k ih=>
  have h1:lE l k=none:=by
   cases hb:lE l k with
   |none=>rfl
   |some r=>rw[uP hb (Nat.le_succ k)]at h;cases h
  intro i hi hl;by_cases e:i=k
  ·subst e;rw[yO h1 hl]at h;split at h
   ·assumption
   ·cases h
  ·exact ih h1 i (by omega) hl
def Kh{l:List jy}{k:Nat}(h:lE l k=none)(hk:k<=l.length):0<=dQ (l.take k)/\dQ (l.take k)<=1024*k:=by
 induction k with
 |zero=>simp[dQ,jm]
 |succ k ih=>
  have h1:lE l k=none:=by
   cases hb:lE l k with
   |none=>rfl
   |some r=>rw[uP hb (Nat.le_succ k)]at h;cases h
  have h2:=ih h1 (by omega);have HC:k<l.length:=by omega
  obtain⟨_,_,_,h3,h4,_⟩:=yY (F7 h k (by omega) HC);rw[oT HC];have h5:=(oA h4 l[k].rows.length).1;rw[dd]at h5;omega
def pB{v:cA}{sv:ae}{W:AW}(hs:fJ W sv v.az)(hv:v.az.length<1000):bm (.func (.func 33) #[] #[]) [fc v sv] W=some (.tuple #[.af (fp v).1,.af (fp v).2],W):=by
 refine bT rfl ?_ Dt;unfold AE;have a8:Le W (W.add (.cells [.af v.sh,.af v.pq,.af v.pp,sv])):=(Le.refl W).add _;have hc:aL (W.add (.cells [.af v.sh,.af v.pq,.af v.pp,sv])) W.next=some [.af v.sh,.af v.pq,.af v.pp,sv]:=bE;have hn:W.next<(W.add (.cells [.af v.sh,.af v.pq,.af v.pp,sv])).next:=by rw[AW.aG];omega
 simp only[SX,aI];generalize Ld:W.add (.cells [.af v.sh,.af v.pq,.af v.pp,sv])=W1 at *;have c0:aK (.pointer (some ⟨W.next,0,none⟩)) W1=some (.af v.sh,W1):=df hc rfl;have c1:aK (.pointer (some ⟨W.next,1,none⟩)) W1=some (.af v.pq,W1):=df hc rfl;have c2:aK (.pointer (some ⟨W.next,2,none⟩)) W1=some (.af v.pp,W1):=df hc rfl;have c3:∀W',Le W1 W'->aK (.pointer (some ⟨W.next,3,none⟩)) W'=some (sv,W'):=λW' k=>df (by rw[k.aL hn];exact hc) rfl
 simp only[SX,c0,me];unfold fp vg;cases n1:jf v.sh 1 16;case true=>simp only[SX,uM,bh,am];exact⟨aA,a8⟩
 simp only[SX,c1,sZ];cases n2:jf v.pq 1 1000000000;case true=>simp only[SX,uM,vb,bh,am];exact⟨aA,a8⟩
 simp only[SX,c2,sZ];cases n3:jf v.pp 1 1000000000;case true=>simp only[SX,vb,bh,am];exact⟨aA,a8⟩
 simp only[SX,c3 _ (.refl _),hs.1.len xn,Bool.or_self,gO,bR];by_cases n4:v.az.length=0;case pos=>
  have e:((v.az.length:Int)=0):=by omega
  simp only[SX,e,ax n4,am];exact⟨aA,a8⟩
 have e4:¬((v.az.length:Int)=0):=by omega
 simp only[SX,e4,ay n4];by_cases n5:8<v.az.length;case pos=>
  have e:((8:Int)<(v.az.length:Int)):=by omega
  simp only[SX,e,ax n5,am];exact⟨aA,a8⟩
 have e5:¬((8:Int)<(v.az.length:Int)):=by omega
 simp only[SX,e5,ay n5];refine bY v.az.length (by omega) (λk R W'=>Le W1 W'/\R 1=.pointer (some ⟨W.next,0,none⟩)/\R 4=.af (dQ (v.az.take k))/\R 35=sv/\R 36=.af (v.az.length:Int)/\R 37=.af (k:Int)/\lE v.az k=none)
  (λr=>Le W1 r.2.2/\((r.1=.exit 1/\r.2.1 4=.af (dQ v.az)/\lE v.az v.az.length=none)\/(r.1=.ret/\∃i e,r.2.1 2=.af ((i:Nat):Int)/\r.2.1 3=.af e/\lE v.az v.az.length=some (i,e)))) ⟨.refl _,rfl,rfl,rfl,rfl,rfl,rfl⟩ ?_ ?_ ?_
 ·rintro k R W' hk ⟨hl,h1,h4,Jz,SH,Wh,hb⟩;unfold oZ;obtain⟨b,o,rv,g1,g2,g3,_⟩:=hs.1.get hk;obtain⟨u,u1,u2⟩:=hs.pre hk;have e1:((k:Int)<(v.az.length:Int)):=by omega
  simp only[SX,Jz,SH,Wh,e1,g1,g3 _ (a8.trans hl),Qc,UL cg (jH _) (Row.one g2) (kA _ _),dZ];have vX:Le W1 (W'.add (.cells [.string (aM v.az[k].name),rv,.af v.az[k].q])):=hl.add _;have Q9:aL (W'.add (.cells [.string (aM v.az[k].name),rv,.af v.az[k].q])) W'.next=some [.string (aM v.az[k].name),rv,.af v.az[k].q]:=bE;generalize Fx:W'.add (.cells [.string (aM v.az[k].name),rv,.af v.az[k].q])=W2 at *;have d3:bA 3 (.pointer (some ⟨W'.next,0,none⟩)) W2=some (Di v.az[k] rv,W2):=mh Q9 rfl;have d1:aK (.pointer (some ⟨W'.next,1,none⟩)) W2=some (rv,W2):=df Q9 rfl;have hlr:=(g2.mono (a8.trans vX)).len (P:=Tryz.prog) rt;simp only[SX,d3,h1,aI,c3 _ vX,u1,RZ (g2.mono (a8.trans vX)) (u2.mono (a8.trans vX)) (by rw[dF];omega)];have YN:=yO hb hk;by_cases hz:um v.az[k] (v.az.take k)=0
  ·rw[ax hz]at YN;obtain⟨_,_,_,ZX,WU,_⟩:=yY hz;have htb:=Kh hb (by omega);simp only[SX,hz,d1,hlr];refine bY v.az[k].rows.length (by omega) (λj R' W3=>W3=W2/\R' 1=.pointer (some ⟨W.next,0,none⟩)/\R' 4=.af (dQ (v.az.take k)+jm (v.az[k].rows.take j))/\R' 35=sv/\R' 36=.af (v.az.length:Int)/\R' 37=.af (k:Int)/\R' 53=rv/\R' 54=.af (v.az[k].rows.length:Int)/\R' 55=.af (j:Int))
    (λr=>r.2.2=W2/\r.1=.exit 3/\r.2.1 1=.pointer (some ⟨W.next,0,none⟩)/\r.2.1 4=.af (dQ (v.az.take (k+1)))/\r.2.1 35=sv/\r.2.1 36=.af (v.az.length:Int)/\r.2.1 37=.af (k:Int)) ⟨rfl,h1,by rw[px,show jm []=0 from rfl,mj];exact h4,Jz,SH,Wh,rfl,rfl,rfl⟩ ?_ ?_ ?_
   ·rintro j R' W3 hj ⟨rfl,h1,h4,Jz,SH,Wh,h53,h54,h55⟩;unfold kJ;obtain⟨p,p1,p2⟩:=g2.get hj;have e1:((j:Int)<(v.az[k].rows.length:Int)):=by omega
    have e2:(j:Int)+1=((j+1:Nat):Int):=by omega
    have ea:=cQ W3 j 1;have hsb:=(oA WU j).1;have P1:=WU _ (fb hj);have eb:=ud W3 (dQ (v.az.take k)+jm (v.az[k].rows.take j)) (v.az[k].rows[j]);simp only[SX,h4,h53,h54,h55,e1,p1,p2 _ (a8.trans vX),ea,eb,am];refine .inl ⟨aA,aA,h1,?_,Jz,SH,Wh,h53,h54,by rw[<-e2];rfl⟩;rw[nR hj,<-wY];rfl
   ·rintro R' W3 ⟨rfl,h1,h4,Jz,SH,Wh,h53,h54,h55⟩;unfold kJ;have e1:¬((v.az[k].rows.length:Int)<(v.az[k].rows.length:Int)):=by omega
    simp only[SX,h54,h55,e1,am];refine⟨by simp,aA,aA,h1,?_,Jz,SH,Wh⟩;rw[oT hk];rw[dd]at h4;exact h4
   ·rintro⟨x,R',W3⟩ ⟨hW,rfl,h1,h4,Jz,SH,Wh⟩;simp only at hW h1 h4 Jz SH Wh;subst hW;have e2:(k:Int)+1=((k+1:Nat):Int):=by omega
    have ea:=cQ W3 k 1;simp only[SX,Wh,ea,am];exact .inl ⟨aA,vX,h1,h4,Jz,SH,by rw[<-e2];rfl,YN⟩
  ·rw[ay hz]at YN;simp only[SX,hz,am];exact .inr ⟨by simp,vX,.inr ⟨aA,k,_,rfl,rfl,uP YN (by omega)⟩⟩
 ·rintro R W' ⟨hl,h1,h4,Jz,SH,Wh,hb⟩;unfold oZ;have e1:¬((v.az.length:Int)<(v.az.length:Int)):=by omega
  rw[dd]at h4;simp only[SX,SH,Wh,e1,am];exact⟨by simp,hl,.inl ⟨aA,h4,hb⟩⟩
 ·rintro⟨x,R,W'⟩ ⟨hl,hq⟩;simp only at hl hq;rcases hq with⟨rfl,h4,hb⟩|⟨rfl,i,e,h2,h3,hb⟩
  ·rw[hb];by_cases n6:4096<dQ v.az
   ·simp only[SX,h4,n6,bh,am];exact⟨aA,a8.trans hl⟩
   ·simp only[SX,h4,n6,bR,am];exact⟨aA,a8.trans hl⟩
  ·rw[hb];simp only[SX,h2,h3,am];exact⟨aA,a8.trans hl⟩
abbrev Lb:=Nat×Nat×Nat
def td(i k m:Nat):List Lb:=(List.range m).map λj=>(i,k,j)
def zO(i:Nat)(rows:List Int)(k:Nat):List Lb:=(List.range k).flatMap λj=>td i j (rows.getD j 0).toNat
def wE(l:List jy)(n:Nat):List Lb:=(List.range n).flatMap λi=>match l[i]? with
 |some s=>zO i s.rows s.rows.length
 |none=>[]
def je(l:List jy):List Lb:=wE l l.length
def Pw(i k m:Nat):td i k (m+1)=td i k m++[(i,k,m)]:=by simp[td,ol]
def zW(i:Nat)(rows:List Int){k:Nat}(hk:k<rows.length):zO i rows (k+1)=zO i rows k++td i k rows[k].toNat:=by unfold zO;rw[ol,ge,iD,List.flatMap_nil,jn,iz,cL hk,rZ]
def zH(l:List jy){n:Nat}(hn:n<l.length):wE l (n+1)=wE l n++zO n l[n].rows l[n].rows.length:=by unfold wE;rw[ol,ge,iD,List.flatMap_nil,jn,cL hn]
structure Good (l:List jy):Prop where
 len:l.length<=8
 rows:∀s∈l,s.rows.length≠0/\s.rows.length<=16/\∀n∈s.rows,1<=n/\n<=64
def Good.of{l:List jy}(h:l.length<=8)(hb:lE l l.length=none):Good l:=
 ⟨h,λs hs=>by obtain⟨i,hi,rfl⟩:=vk hs;obtain⟨_,_,h3,h4,h5,_⟩:=yY (F7 hb i hi hi);exact⟨h3,h4,h5⟩⟩
def K7(i k m:Nat):(td i k m).length=m:=by simp[td]
def Cv{i:Nat}{rows:List Int}(h:∀n∈rows,1<=n/\n<=64):∀{k:Nat},k<=rows.length->((zO i rows k).length:Int)=jm (rows.take k)
 |0,_=>by simp[zO,jm]
 |k+1,hk=>by
  have HC:k<rows.length:=by omega
  rw[zW i rows HC,cK,K7,nR HC,<-Cv (i:=i) h (by omega:k<=rows.length)];have:=h _ (fb HC);omega
def tI{l:List jy}(h:Good l):∀{n:Nat},n<=l.length->((wE l n).length:Int)=dQ (l.take n)/\(wE l n).length<=1024*n
 |0,_=>by simp[wE,dQ,jm]
 |n+1,hn=>by
  have E6:n<l.length:=by omega
  obtain⟨h1,h2,h3⟩:=h.rows _ (fb E6);have ih:=tI h (by omega:n<=l.length);have hl:=Cv (i:=n) h3 (aP _);have hb:=(oA h3 l[n].rows.length).1;rw[dd]at hl hb;rw[zH l E6,cK,oT E6];omega
def rH{l:List jy}(h:Good l):((je l).length:Int)=dQ l:=by have:=(tI h (aP l.length)).1;rwa [dd]at this
def EQ(p:Lb):List ae:=[.af (p.1:Int),.af (p.2.1:Int),.af (p.2.2:Int)]
def Zv(cs:List ae)(p:Nat)(a:Lb):Prop:=cs[p]? =some (.af (a.1:Int))/\cs[p+1]? =some (.af (a.2.1:Int))/\cs[p+2]? =some (.af (a.2.2:Int))
def JN(p:Lb):(EQ p).length=3:=rfl
def TI(p:Lb):(EQ p).all Eng.one=true:=rfl
def XZ(a:Lb)(pre post:List ae):Zv (pre++(EQ a++post)) pre.length a:=by refine⟨?_,?_,?_⟩<;>(rw[gb (by omega)];simp[EQ])
abbrev adN(W:AW)(v:ae)(l:List Lb):Prop:=Row W 3 Zv v l
def agE:iR Tryz.prog #[127,127] 3 24=true:=by kernel_rfl
def ai9(a b c:Int)(W:AW):bD Tryz.prog 167 [(0,.af a),(1,.af b),(2,.af c)] W=some (.agg #[.af a,.af b,.af c],W):=aJ (by kernel_rfl) rfl
def aiZ(a b c:Int)(W:AW):aD Tryz.prog 127 1 [(0,.agg #[.af a,.af b,.af c])] W=some (.slice (some ⟨W.next,0,none⟩) 1 1,W.add (.cells [.af a,.af b,.af c])):=aJ (by kernel_rfl) rfl
def uO{v:cA}{sv:ae}{W:AW}(hs:eY W sv v.az)(hg:Good v.az):∃r W',bm (.func (.func 56) #[] #[]) [fc v sv] W=some (r,W')/\Le W W'/\adN W' r (je v.az):=by
 have a8:Le W (W.add (.cells [.af v.sh,.af v.pq,.af v.pp,sv])):=(Le.refl W).add _;have hc:aL (W.add (.cells [.af v.sh,.af v.pq,.af v.pp,sv])) W.next=some [.af v.sh,.af v.pq,.af v.pp,sv]:=bE;have hn:W.next<(W.add (.cells [.af v.sh,.af v.pq,.af v.pp,sv])).next:=by rw[AW.aG];omega
 refine adO ?_ Bm;unfold yy;simp only[SX];generalize Ld:W.add (.cells [.af v.sh,.af v.pq,.af v.pp,sv])=W1 at *;have c3:∀W',Le W1 W'->aK (.pointer (some ⟨W.next,3,none⟩)) W'=some (sv,W'):=λW' k=>df (by rw[k.aL hn];exact hc) rfl
 have lh:∀(k:Nat) (W':AW),k<1000000->aw Tryz.prog .add 3 false true (.af (k:Int)) (.af 1) W'=some (.af ((k+1:Nat):Int),W'):=λk W' hk=>da (by omega) (by omega)
 have eA:=hg.len;refine bY v.az.length (by omega) (λi R W'=>Le W1 W'/\R 1=.pointer (some ⟨W.next,0,none⟩)/\R 4=.af (i:Int)/\pk W1.next W' 3 EQ (R 3) (wE v.az i))
  (λr=>Le W1 r.2.2/\r.1=.exit 0/\pk W1.next r.2.2 3 EQ (r.2.1 3) (wE v.az v.az.length)) ⟨.refl _,rfl,rfl,pk.nil _ _ _ _⟩ ?_ ?_ ?_
 ·rintro i R W' hi ⟨hl,h1,h4,hG⟩;unfold mN;have e1:((i:Int)<(v.az.length:Int)):=by omega
  simp only[SX,h1,h4,aI,c3 _ hl,hs.len xn,e1];obtain⟨b,o,rv,g1,g2,_,_,g5,_⟩:=hs.get hi;obtain⟨r1,r2,r3⟩:=hg.rows _ (fb hi);have oa:=(tI hg (by omega:i<=v.az.length)).2;refine bY v.az[i].rows.length (by omega) (λk R W'=>Le W1 W'/\R 1=.pointer (some ⟨W.next,0,none⟩)/\R 4=.af (i:Int)/\R 5=.af (k:Int)/\pk W1.next W' 3 EQ (R 3) (wE v.az i++zO i v.az[i].rows k))
   (λr=>Le W1 r.2.2/\r.1=.exit 2/\r.2.1 1=.pointer (some ⟨W.next,0,none⟩)/\r.2.1 4=.af (i:Int)/\pk W1.next r.2.2 3 EQ (r.2.1 3) (wE v.az (i+1))) ⟨hl,h1,h4,rfl,by rw[show zO i v.az[i].rows 0=[]from rfl,jn];exact hG⟩ ?_ ?_ ?_
  ·rintro k R W' hk ⟨hl,h1,h4,h5,hG⟩;unfold jN;have e1:((k:Int)<(v.az[i].rows.length:Int)):=by omega
   have g2':=g2.mono (a8.trans hl);simp only[SX,h1,h4,h5,aI,c3 _ hl,g1,g5 _ (a8.trans hl),g2'.len rt,e1];obtain⟨p,p1,p2⟩:=g2.get hk;have hrk:=r3 _ (fb hk);have hsl:=Cv (i:=i) r3 (by omega:k<=v.az[i].rows.length);have hsb:=(oA r3 k).1;refine bY v.az[i].rows[k].toNat (by omega) (λm R W'=>Le W1 W'/\R 1=.pointer (some ⟨W.next,0,none⟩)/\R 4=.af (i:Int)/\R 5=.af (k:Int)/\R 6=.af (m:Int)/\pk W1.next W' 3 EQ (R 3) (wE v.az i++zO i v.az[i].rows k++td i k m))
    (λr=>Le W1 r.2.2/\r.1=.exit 4/\r.2.1 1=.pointer (some ⟨W.next,0,none⟩)/\r.2.1 4=.af (i:Int)/\r.2.1 5=.af (k:Int)/\pk W1.next r.2.2 3 EQ (r.2.1 3) (wE v.az i++zO i v.az[i].rows (k+1))) ⟨hl,h1,h4,h5,rfl,by rw[show td i k 0=[]from rfl,jn];exact hG⟩ ?_ ?_ ?_
   ·rintro m R W' hm ⟨hl,h1,h4,h5,h6,hG⟩;unfold iA;have e1:((m:Int)<v.az[i].rows[k]):=by omega
    simp only[SX,h1,h4,h5,h6,aI,c3 _ hl,g1,g5 _ (a8.trans hl),p1,p2 _ (a8.trans hl),e1,ai9,aiZ];have hGm:=hG.mono ((Le.refl W').add (.cells [.af (i:Int),.af (k:Int),.af (m:Int)]));have hlb:(wE v.az i++zO i v.az[i].rows k++td i k m).length+1<100000:=by rw[cK,cK,K7];omega
    obtain⟨v',W2,q1,q2,q3,q4⟩:=pk.push (P:=Tryz.prog) (a:=(i,k,m)) (b:=W'.next) (c:=1) agE JN TI hGm bE (by omega) (by omega) (by rw[AW.aG];have:=hl.next;omega);simp only[SX,q1,lh m _ (by omega),am];refine .inl ⟨aA,q4 _ (hl.add _) (aP _),h1,h4,h5,rfl,?_⟩;rw[Pw,<-jQ];exact q2
   ·rintro R W' ⟨hl,h1,h4,h5,h6,hG⟩;unfold iA;have e1:¬((v.az[i].rows[k].toNat:Int)<v.az[i].rows[k]):=by omega
    simp only[SX,h1,h4,h5,h6,aI,c3 _ hl,g1,g5 _ (a8.trans hl),p1,p2 _ (a8.trans hl),e1,am];refine⟨by simp,hl,aA,h1,h4,h5,?_⟩;rw[zW _ _ hk,<-jQ];exact hG
   ·rintro⟨x,R,W'⟩ ⟨hl,rfl,h1,h4,h5,hG⟩;simp only at hl h1 h4 h5 hG;simp only[SX,h5,lh k _ (by omega),am];exact .inl ⟨aA,hl,h1,h4,rfl,hG⟩
  ·rintro R W' ⟨hl,h1,h4,h5,hG⟩;unfold jN;have e1:¬((v.az[i].rows.length:Int)<(v.az[i].rows.length:Int)):=by omega
   have g2':=g2.mono (a8.trans hl);simp only[SX,h1,h4,h5,aI,c3 _ hl,g1,g5 _ (a8.trans hl),g2'.len rt,e1,am];refine⟨by simp,hl,aA,h1,h4,?_⟩;rw[zH _ hi];exact hG
  ·rintro⟨x,R,W'⟩ ⟨hl,rfl,h1,h4,hG⟩;simp only at hl h1 h4 hG;simp only[SX,h4,lh i _ (by omega),am];exact .inl ⟨aA,hl,h1,rfl,hG⟩
 ·rintro R W' ⟨hl,h1,h4,hG⟩;unfold mN;have e1:¬((v.az.length:Int)<(v.az.length:Int)):=by omega
  simp only[SX,h1,h4,aI,c3 _ hl,hs.len xn,e1,am];exact⟨by simp,hl,aA,hG⟩
 ·rintro⟨x,R,W'⟩ ⟨hl,rfl,hG⟩;simp only at hl hG;simp only[SX,am];exact⟨a8.trans hl,hG.row JN XZ⟩
def Xy:((#[127]:Array ai)[0]?).bind Tryz.prog.underlying=some (.slice 167):=by kernel_rfl
def vn{v:cA}{sv:ae}{W:AW}(hs:eY W sv v.az)(hv:v.az.length<1000)(hr:∀s∈v.az,s.rows.length<1000):bm (.func (.func 36) #[] #[]) [fc v sv] W=some (.tuple #[.af (fp v).1,.af (fp v).2],W):=by
 refine bT rfl ?_ D6;unfold AN;have a8:Le W (W.add (.cells [.af v.sh,.af v.pq,.af v.pp,sv])):=(Le.refl W).add _;have hc:aL (W.add (.cells [.af v.sh,.af v.pq,.af v.pp,sv])) W.next=some [.af v.sh,.af v.pq,.af v.pp,sv]:=bE;have hn:W.next<(W.add (.cells [.af v.sh,.af v.pq,.af v.pp,sv])).next:=by rw[AW.aG];omega
 simp only[SX,aI];generalize Ld:W.add (.cells [.af v.sh,.af v.pq,.af v.pp,sv])=W1 at *;have c0:aK (.pointer (some ⟨W.next,0,none⟩)) W1=some (.af v.sh,W1):=df hc rfl;have c1:aK (.pointer (some ⟨W.next,1,none⟩)) W1=some (.af v.pq,W1):=df hc rfl;have c2:aK (.pointer (some ⟨W.next,2,none⟩)) W1=some (.af v.pp,W1):=df hc rfl;have c3:aK (.pointer (some ⟨W.next,3,none⟩)) W1=some (sv,W1):=df hc rfl;have c4:bA 4 (.pointer (some ⟨W.next,0,none⟩)) W1=some (fc v sv,W1):=mh hc rfl;have Bl:=hs.mono a8;simp only[SX,c0,rf,yz];unfold fp vg;cases n1:jf v.sh 1 16;case true=>simp only[SX,uM,bh,am];exact⟨aA,a8⟩
 simp only[SX,c1,rf,yz];cases n2:jf v.pq 1 1000000000;case true=>simp only[SX,uM,vb,bh,am];exact⟨aA,a8⟩
 simp only[SX,c2,rf,yz];cases n3:jf v.pp 1 1000000000;case true=>simp only[SX,vb,bh,am];exact⟨aA,a8⟩
 simp only[SX,c3,hs.len xn,Bool.or_self,gO,bR];by_cases n4:v.az.length=0;case pos=>
  have e:((v.az.length:Int)=0):=by omega
  simp only[SX,e,ax n4,am];exact⟨aA,a8⟩
 have e4:¬((v.az.length:Int)=0):=by omega
 simp only[SX,e4,ay n4];by_cases n5:8<v.az.length;case pos=>
  have e:((8:Int)<(v.az.length:Int)):=by omega
  simp only[SX,e,ax n5,am];exact⟨aA,a8⟩
 have e5:¬((8:Int)<(v.az.length:Int)):=by omega
 simp only[SX,e5,ay n5];refine bY v.az.length (by omega) (λk R W'=>W'=W1/\R 1=.pointer (some ⟨W.next,0,none⟩)/\R 4=.af (k:Int)/\lE v.az k=none)
  (λr=>r.2.2=W1/\((r.1=.exit 0/\r.2.1 1=.pointer (some ⟨W.next,0,none⟩)/\lE v.az v.az.length=none)\/(r.1=.ret/\∃i e,r.2.1 2=.af ((i:Nat):Int)/\r.2.1 3=.af e/\lE v.az v.az.length=some (i,e)))) ⟨rfl,rfl,rfl,rfl⟩ ?_ ?_ ?_
 ·rintro k R W' hk ⟨rfl,h1,h4,hb⟩;unfold oS;have e1:((k:Int)<(v.az.length:Int)):=by omega
  have e2:(k:Int)+1=((k+1:Nat):Int):=by omega
  have ea:=cQ W' k 1;simp only[SX,h1,h4,aI,c3,hs.len xn,e1,c4,LP Bl hv hk (hr _ (fb hk))];have YN:=yO hb hk;by_cases hz:um v.az[k] (v.az.take k)=0
  ·rw[ax hz]at YN;simp only[SX,hz,ea,am];exact .inl ⟨aA,aA,h1,by rw[<-e2];rfl,YN⟩
  ·rw[ay hz]at YN;simp only[SX,hz,am];exact .inr ⟨by simp,aA,.inr ⟨aA,k,_,rfl,rfl,uP YN (by omega)⟩⟩
 ·rintro R W' ⟨rfl,h1,h4,hb⟩;unfold oS;have e1:¬((v.az.length:Int)<(v.az.length:Int)):=by omega
  simp only[SX,h1,h4,aI,c3,hs.len xn,e1,am];exact⟨by simp,aA,.inl ⟨aA,h1,hb⟩⟩
 ·rintro⟨x,R,W'⟩ ⟨hW,hq⟩;simp only at hW hq;subst hW;rcases hq with⟨rfl,h1,hb⟩|⟨rfl,i,e,h2,h3,hb⟩
  ·rw[hb];have hg:=Good.of (by omega) hb;obtain⟨r,W2,q1,q2,q3⟩:=uO Bl hg;simp only[SX,h1,c4,q1,q3.len Xy,rH hg];by_cases n6:4096<dQ v.az
   ·simp only[SX,n6,bh,am];exact⟨aA,a8.trans q2⟩
   ·simp only[SX,n6,bR,am];exact⟨aA,a8.trans q2⟩
  ·rw[hb];simp only[SX,h2,h3,am];exact⟨aA,a8⟩
def eJ{v:cA}(h:(fp v).2=0):Good v.az/\vg v=false/\0<v.az.length/\lE v.az v.az.length=none/\dQ v.az<=4096/\(fp v).1=0:=by
 unfold fp at h|-;split at h
 ·exact absurd h (by decide)
 rename_i h1;split at h
 ·exact absurd h (by decide)
 rename_i h2;split at h
 ·exact absurd h (by decide)
 rename_i h3;cases hb:lE v.az v.az.length with
 |some r=>
  obtain⟨i,e⟩:=r;rw[hb]at h;simp only at h;subst h;exfalso;have:∀n,lE v.az n≠some (i,0):=by
   intro n;induction n with
   |zero=>simp[lE]
   |succ n ih=>
    intro hn;have E6:(match lE v.az n with|some r=>some r|none=>match v.az[n]? with|some s=>if um s (v.az.take n)=0 then none else some (n,um s (v.az.take n))|none=>none)=some (i,0):=hn;cases OP:lE v.az n with
    |some r=>rw[OP]at E6;simp only at E6;rw[E6]at OP;exact ih OP
    |none=>
     rw[OP]at E6;simp only at E6;split at E6
     ·split at E6
      ·cases E6
      ·rename_i hz;injection E6 with E6;injection E6 with _ e;exact hz e
     ·cases E6
  exact this _ hb
 |none=>
  rw[hb]at h;simp only at h|-;split at h
  ·exact absurd h (by decide)
  rename_i h4;rw[ay h4,ay h1,ay h2,ay h3];exact⟨Good.of (by omega) hb,by simpa using h1,by omega,aA,by omega,rfl⟩
def gF(v:cA)(sv:ae)(W:AW):∃W1,cD (fc v sv) W=some (.pointer (some ⟨W.next,0,none⟩),W1)/\Le W W1/\W.next<W1.next/\
 (∀W',Le W1 W'->bA 4 (.pointer (some ⟨W.next,0,none⟩)) W'=some (fc v sv,W'))/\(∀W',Le W1 W'->aK (.pointer (some ⟨W.next,0,none⟩)) W'=some (.af v.sh,W'))/\(∀W',Le W1 W'->aK (.pointer (some ⟨W.next,3,none⟩)) W'=some (sv,W')):=by
 have hc:aL (W.add (.cells [.af v.sh,.af v.pq,.af v.pp,sv])) W.next=some [.af v.sh,.af v.pq,.af v.pp,sv]:=bE;have hn:W.next<(W.add (.cells [.af v.sh,.af v.pq,.af v.pp,sv])).next:=by rw[AW.aG];omega
 exact⟨_,af5 _ _ _ _ W,(Le.refl W).add _,hn,λW' k=>mh (by rw[k.aL hn];exact hc) rfl,λW' k=>df (by rw[k.aL hn];exact hc) rfl,λW' k=>df (by rw[k.aL hn];exact hc) rfl⟩
def jG(v:cA):Int×Int:=if(fp v).2=0 then(dQ v.az,0)else(0,(fp v).2)
def Kk{v:cA}{sv:ae}{W:AW}(hs:eY W sv v.az)(hv:v.az.length<1000)(hr:∀s∈v.az,s.rows.length<1000):bm (.func (.func 143) #[] #[]) [fc v sv] W=some (.tuple #[.af (jG v).1,.af (jG v).2],W):=by
 refine bT rfl ?_ DZ;unfold AS jG;obtain⟨W1,hB,a8,hn,c4,c0,c3⟩:=gF v sv W;simp only[SX,hB,c4 _ (.refl _),vn (hs.mono a8) hv hr];by_cases he:(fp v).2=0
 ·obtain⟨r,W2,q1,q2,q3⟩:=uO (hs.mono a8) (eJ he).1;simp only[SX,aS he,q1,q3.len Xy,rH (eJ he).1,ax he,am];exact⟨aA,a8.trans q2⟩
 ·simp only[SX,he,bR,am];exact⟨aA,a8⟩
structure fV where
 sec:Nat
 row:Nat
 first:Int
 many:Int
abbrev Gs(r:fV):ae:=.agg #[.af (r.sec:Int),.af (r.row:Int),.af r.first,.af r.many]
def xk(l:List jy)(i:Nat)(rows:List Int)(k:Nat):List fV:=(List.range k).map λj=>⟨i,j,dQ (l.take i)+jm (rows.take j),rows.getD j 0⟩
def pK(l:List jy)(n:Nat):List fV:=(List.range n).flatMap λi=>match l[i]? with
 |some s=>xk l i s.rows s.rows.length
 |none=>[]
def dn(l:List jy):List fV:=pK l l.length
def nZ(l:List jy)(i:Nat)(rows:List Int){k:Nat}(hk:k<rows.length):xk l i rows (k+1)=xk l i rows k++[⟨i,k,dQ (l.take i)+jm (rows.take k),rows[k]⟩]:=by unfold xk;rw[ol,mU,jd,mO,iz,cL hk,rZ]
def lR(l:List jy){n:Nat}(hn:n<l.length):pK l (n+1)=pK l n++xk l n l[n].rows l[n].rows.length:=by unfold pK;rw[ol,ge,iD,List.flatMap_nil,jn,cL hn]
def Uz{l:List jy}{i:Nat}{rows:List Int}{k n:Nat}(h:k<=n)(hn:n<=rows.length):xk l i rows k<+:xk l i rows n:=by
 induction n with
 |zero=>obtain rfl:k=0:=by omega
        exact List.prefix_refl _
 |succ n ih=>
  by_cases e:k=n+1
  ·subst e;exact List.prefix_refl _
  ·rw[nZ l i rows (by omega)];exact(ih (by omega) (by omega)).trans (BV _ _)
def Rr{l:List jy}{k n:Nat}(h:k<=n)(hn:n<=l.length):pK l k<+:pK l n:=by
 induction n with
 |zero=>obtain rfl:k=0:=by omega
        exact List.prefix_refl _
 |succ n ih=>
  by_cases e:k=n+1
  ·subst e;exact List.prefix_refl _
  ·rw[lR l (by omega)];exact(ih (by omega) (by omega)).trans (BV _ _)
def Vm{l:List jy}{i k:Nat}(hi:i<l.length)(hk:k<l[i].rows.length):(pK l i++xk l i l[i].rows k)++[⟨i,k,dQ (l.take i)+jm (l[i].rows.take k),l[i].rows[k]⟩]<+:dn l:=by rw[jQ,<-nZ l i _ hk];refine List.IsPrefix.trans ?_ (Rr (k:=i+1) (by omega) (aP _));rw[lR l hi];exact(List.prefix_append_right_inj _).2 (Uz (by omega) (aP _))
def amE(a b c d:Int)(W:AW):bD Tryz.prog 140 [(0,.af a),(1,.af b),(2,.af c),(3,.af d)] W=some (.agg #[.af a,.af b,.af c,.af d],W):=aJ (by kernel_rfl) rfl
def XU{v:cA}{sv f:ae}{bx:Nat}{W0 W:AW}(hs:eY W0 sv v.az)(hg:Good v.az)(hb:aK (.pointer (some ⟨bx,3,none⟩)) W=some (sv,W))(I:List fV->AW->Prop)(Q:AW->Prop)
 (hI:I [] W)(hS:∀pre W',I pre W'->Le W0 W')(hA:∀pre W' cs,I pre W'->I pre (W'.add (.cells cs)))
 (step:∀pre r W',pre++[r]<+:dn v.az->I pre W'->∃b W2,bm f [Gs r] W'=some (.bool b,W2)/\(b=true->I (pre++[r]) W2)/\(b=false->Q W2)):
 ∃W2,bm (.func (.func 81) #[] #[.pointer (some ⟨bx,0,none⟩)]) [f] W=some (.tuple #[],W2)/\(I (dn v.az) W2\/Q W2):=by
 have oK:Ok (sF bm f (.pointer (some ⟨bx,0,none⟩)) W) λr=>r.1=.tuple #[]/\(I (dn v.az) r.2\/Q r.2):=by
  unfold sF;have eA:=hg.len;have lh:∀(k:Nat) (W':AW),k<1000000->aw Tryz.prog .add 3 false true (.af (k:Int)) (.af 1) W'=some (.af ((k+1:Nat):Int),W'):=λk W' hk=>da (by omega) (by omega)
  simp only[SX,aI,hb,hs.len xn];refine bY v.az.length (by omega) (λi R W'=>R 0=f/\R 3=.af (dQ (v.az.take i))/\R 9=sv/\R 10=.af (v.az.length:Int)/\R 11=.af (i:Int)/\I (pK v.az i) W')
   (λr=>(r.1=.exit 0/\I (dn v.az) r.2.2)\/(r.1=.ret/\Q r.2.2)) ⟨rfl,rfl,rfl,rfl,rfl,hI⟩ ?_ ?_ ?_
  ·rintro i R W' hi ⟨h0,h3,h9,yL,xM,qC⟩;unfold mP;have e1:((i:Int)<(v.az.length:Int)):=by omega
   obtain⟨b,o,rv,g1,g2,g3,_⟩:=hs.get hi;obtain⟨r1,r2,r3⟩:=hg.rows _ (fb hi);have htb:0<=dQ (v.az.take i)/\dQ (v.az.take i)<=1024*i:=by have:=tI hg (by omega:i<=v.az.length);omega
   have hI2:=hA _ _ [.string (aM v.az[i].name),rv,.af v.az[i].q] qC;have Q9:aL (W'.add (.cells [.string (aM v.az[i].name),rv,.af v.az[i].q])) W'.next=some [.string (aM v.az[i].name),rv,.af v.az[i].q]:=bE;simp only[SX,h9,yL,xM,e1,g1,g3 _ (hS _ _ qC),Qc,UL cg (jH _) (Row.one g2) (kA _ _),dZ,aI];generalize Fx:W'.add (.cells [.string (aM v.az[i].name),rv,.af v.az[i].q])=W2 at *;have d1:aK (.pointer (some ⟨W'.next,1,none⟩)) W2=some (rv,W2):=df Q9 rfl;simp only[SX,d1,g2.len rt];refine bY v.az[i].rows.length (by omega) (λk R W'=>R 0=f/\R 3=.af (dQ (v.az.take i)+jm (v.az[i].rows.take k))/\R 4=.af (i:Int)/\R 9=sv/\R 10=.af (v.az.length:Int)/\R 11=.af (i:Int)/\R 17=rv/\R 18=.af (v.az[i].rows.length:Int)/\R 19=.af (k:Int)/\I (pK v.az i++xk v.az i v.az[i].rows k) W')
    (λr=>(r.1=.exit 2/\r.2.1 0=f/\r.2.1 3=.af (dQ (v.az.take (i+1)))/\r.2.1 9=sv/\r.2.1 10=.af (v.az.length:Int)/\r.2.1 11=.af (i:Int)/\I (pK v.az (i+1)) r.2.2)\/(r.1=.ret/\Q r.2.2))
    ⟨h0,by rw[px,show jm []=0 from rfl,mj];exact h3,rfl,h9,yL,xM,rfl,rfl,rfl,by rw[show xk v.az i v.az[i].rows 0=[]from rfl,jn];exact hI2⟩ ?_ ?_ ?_
   ·rintro k R W' hk ⟨h0,h3,h4,h9,yL,xM,h17,h18,h19,qC⟩;unfold jC;have e1:((k:Int)<(v.az[i].rows.length:Int)):=by omega
    obtain⟨p,p1,p2⟩:=g2.get hk;obtain⟨c,W3,s1,s2,s3⟩:=step _ ⟨i,k,dQ (v.az.take i)+jm (v.az[i].rows.take k),v.az[i].rows[k]⟩ W' (Vm hi hk) qC;have hsb:=(oA r3 k).1;have P1:=r3 _ (fb hk);have eb:=ud W3 (dQ (v.az.take i)+jm (v.az[i].rows.take k)) (v.az[i].rows[k]);simp only[SX,h0,h3,h4,h17,h18,h19,e1,p1,p2 _ (hS _ _ qC),amE,s1];cases c
    ·simp only[SX,am];exact .inr ⟨by simp,.inr ⟨aA,s3 rfl⟩⟩
    ·simp only[SX,eb,lh k _ (by omega),am];refine .inl ⟨aA,h0,?_,h4,h9,yL,xM,h17,h18,rfl,?_⟩
     ·rw[nR hk,<-wY];rfl
     ·rw[nZ _ _ _ hk,<-jQ];exact s2 rfl
   ·rintro R W' ⟨h0,h3,h4,h9,yL,xM,h17,h18,h19,qC⟩;unfold jC;have e1:¬((v.az[i].rows.length:Int)<(v.az[i].rows.length:Int)):=by omega
    simp only[SX,h18,h19,e1,am];refine⟨by simp,.inl ⟨aA,h0,?_,h9,yL,xM,?_⟩⟩
    ·rw[oT hi];rw[dd]at h3;exact h3
    ·rw[lR _ hi];exact qC
   ·rintro⟨x,R,W'⟩ hq;rcases hq with⟨rfl,h0,h3,h9,yL,xM,qC⟩|⟨rfl,hq⟩
    ·simp only at h0 h3 h9 yL xM qC;simp only[SX,xM,lh i _ (by omega),am];exact .inl ⟨aA,h0,h3,h9,yL,rfl,qC⟩
    ·simp only[SX,am];exact .inr ⟨by simp,.inr ⟨aA,hq⟩⟩
  ·rintro R W' ⟨h0,h3,h9,yL,xM,qC⟩;unfold mP;have e1:¬((v.az.length:Int)<(v.az.length:Int)):=by omega
   simp only[SX,yL,xM,e1,am];exact⟨by simp,.inl ⟨aA,qC⟩⟩
  ·rintro⟨x,R,W'⟩ hq;rcases hq with⟨rfl,qC⟩|⟨rfl,hq⟩
   ·simp only[SX,am];exact⟨aA,.inl qC⟩
   ·simp only[SX,am];exact⟨aA,.inr hq⟩
 obtain⟨⟨r,W'⟩,h1,h2,h3⟩:=oK;simp only at h2 h3;subst h2;exact⟨W',by rw[Bs h1,wH rfl],h3⟩
def N6{v:cA}{sv:ae}(W:AW):∃W1,bm (.func (.func 62) #[] #[]) [fc v sv] W=some (.func (.func 81) #[] #[.pointer (some ⟨W.next,0,none⟩)],W1)/\Le W W1/\W.next<W1.next/\(∀W',Le W1 W'->aK (.pointer (some ⟨W.next,3,none⟩)) W'=some (sv,W')):=by
 obtain⟨W1,hB,a8,hn,c4,c0,c3⟩:=gF v sv W;refine⟨W1,?_,a8,hn,c3⟩;have:wn bm (fc v sv) W=some (.func (.func 81) #[] #[.pointer (some ⟨W.next,0,none⟩)],W1):=by unfold wn;simp only[SX,hB]
 rw[E8 this,wH rfl]
def L9{v:cA}{sv:ae}{W0 W:AW}{bx nt:Nat}{R:Nat->ae}{ps:Array Tmp}{ac bd:Code}(hs:eY W0 sv v.az)(hg:Good v.az)
 (hb:aK (.pointer (some ⟨bx,3,none⟩)) (W.add (.loop .ready none R nt ps ac bd))=some (sv,W.add (.loop .ready none R nt ps ac bd)))(hp:ps.size=1)
 (J:List fV->AW->Prop)(Q:X->AW->Prop)(h0:J [] (W.add (.loop .ready none R nt ps ac bd)))
 (hS:∀pre W',J pre W'->Le W0 W')(hA:∀pre W' cs,J pre W'->W.next<W'.next->J pre (W'.add (.cells cs)))(hP:∀pre W' o,J pre W'->J pre (W'.put W.next o))(hQ:∀x W' o,Q x W'->Q x (W'.put W.next o))
 (d:Nat)(has:∀r W' R',R'=nl ps.toList [Gs r] R->gH Tryz.prog bm false nt ac LT R' W' nB=some (.normal,eP R' (some d) (.pointer (some ⟨W'.next,0,none⟩)),W'.add (.cells [.af (r.sec:Int),.af (r.row:Int),.af r.first,.af r.many])))
 (step:∀pre r W' b R',R'=eP (nl ps.toList [Gs r] R) (some d) (.pointer (some ⟨b,0,none⟩))->pre++[r]<+:dn v.az->J pre W'->W.next<W'.next->aH W' b=some [.af (r.sec:Int),.af (r.row:Int),.af r.first,.af r.many]->W.next<b->b<W'.next->
   Ok (gH Tryz.prog bm false nt bd LT R' W' nB) λq=>W'.next<=q.2.2.next/\q.2.2.get W.next=W'.get W.next/\((q.1=.normal/\J (pre++[r]) q.2.2)\/(q.1≠ .normal/\Q q.1 q.2.2))):
 ∃x W2,jP bm (.func (.func 81) #[] #[.pointer (some ⟨bx,0,none⟩)]) (.loop .ready none R nt ps ac bd) W=some (x,W2.kill W.next)/\((x=.normal/\J (dn v.az) W2)\/(x≠ .normal/\Q x W2)):=by
 obtain⟨W2,h1,h2⟩:=XU (f:=.func (.yield W.next) #[] #[]) (W:=W.add (.loop .ready none R nt ps ac bd)) hs hg hb
  (λpre W'=>J pre W'/\W.next<W'.next/\W'.get W.next=some (.loop .ready none R nt ps ac bd))
  (λW'=>∃x,x≠ .normal/\Q x W'/\W'.get W.next=some (.loop .done x.jump R nt ps ac bd))
  ⟨h0,by rw[AW.aG];omega,AW.aT _ _⟩ (λpre W' h=>hS _ _ h.1)
  (λpre W' cs h=>⟨hA _ _ _ h.1 h.2.1,by rw[AW.aG];omega,by rw[AW.br _ _ (by omega)];exact h.2.2⟩)
  (λpre r W' tg ⟨hJ,gZ,fj⟩=>by
    have hJ2:=hP _ _ (.loop .busy none R nt ps ac bd) (hA _ _ [.af (r.sec:Int),.af (r.row:Int),.af r.first,.af r.many] hJ gZ);obtain⟨⟨x,R2,W3⟩,k1,k2,k3,k4⟩:=step pre r _ W'.next _ rfl tg hJ2 (by rw[AW.cT,AW.aG];omega) (by rw[bs _ (by omega)];exact cg) gZ (by rw[AW.cT,AW.aG];omega);simp only at k1 k2 k3 k4;rw[AW.bz]at k3;have hy:=Fp (P:=Tryz.prog) (args:=[Gs r]) fj (by rw[hp];rfl) (has r W' _ rfl) (by rw[AW.br _ _ (by omega)];exact fj) k1 k3;have hn3:W.next<W3.next:=by rw[AW.cT,AW.aG]at k2;omega
    rcases k4 with⟨rfl,k4⟩|⟨kx,k4⟩
    ·exact⟨true,_,hy,λ_=>⟨hP _ _ _ k4,by rw[AW.cT];exact hn3,AW.bz _ _ _⟩,λh=>by cases h⟩
    ·refine⟨false,W3.put W.next (.loop .done x.jump R nt ps ac bd),?_,λh=>by(cases h),λ_=>⟨x,kx,hQ _ _ _ k4,AW.bz _ _ _⟩⟩;refine hy.trans ?_;cases x with
     |normal=>exact absurd rfl kx
     |exit i=>rfl
     |ret=>rfl)
 rcases h2 with⟨h2,h3,h4⟩|⟨x,h2,h3,h4⟩
 ·exact⟨.normal,W2,yF h1 h4 (by simp),.inl ⟨rfl,h2⟩⟩
 ·exact⟨x,W2,Dx h1 h4,.inr ⟨h2,h3⟩⟩
def Om{v:cA}{sv:ae}{W0 W:AW}{bx nt:Nat}{R:Nat->ae}{ps:Array Tmp}{ac bd:Code}{ρ:Type}{K:X×AW->Option ρ}{G:ρ->Prop}(hs:eY W0 sv v.az)(hg:Good v.az)
 (hb:aK (.pointer (some ⟨bx,3,none⟩)) (W.add (.loop .ready none R nt ps ac bd))=some (sv,W.add (.loop .ready none R nt ps ac bd)))(hp:ps.size=1)
 (J:List fV->AW->Prop)(Q:X->AW->Prop)(h0:J [] (W.add (.loop .ready none R nt ps ac bd)))
 (hS:∀pre W',J pre W'->Le W0 W')(hA:∀pre W' cs,J pre W'->W.next<W'.next->J pre (W'.add (.cells cs)))(hP:∀pre W' o,J pre W'->J pre (W'.put W.next o))(hQ:∀x W' o,Q x W'->Q x (W'.put W.next o))
 (d:Nat)(has:∀r W' R',R'=nl ps.toList [Gs r] R->gH Tryz.prog bm false nt ac LT R' W' nB=some (.normal,eP R' (some d) (.pointer (some ⟨W'.next,0,none⟩)),W'.add (.cells [.af (r.sec:Int),.af (r.row:Int),.af r.first,.af r.many])))
 (step:∀pre r W' b R',R'=eP (nl ps.toList [Gs r] R) (some d) (.pointer (some ⟨b,0,none⟩))->pre++[r]<+:dn v.az->J pre W'->W.next<W'.next->aH W' b=some [.af (r.sec:Int),.af (r.row:Int),.af r.first,.af r.many]->W.next<b->b<W'.next->
   Ok (gH Tryz.prog bm false nt bd LT R' W' nB) λq=>W'.next<=q.2.2.next/\q.2.2.get W.next=W'.get W.next/\((q.1=.normal/\J (pre++[r]) q.2.2)\/(q.1≠ .normal/\Q q.1 q.2.2)))
 (after:∀x W2,(x=.normal/\J (dn v.az) W2)\/(x≠ .normal/\Q x W2)->Ok (K (x,W2.kill W.next)) G):
 Ok (ah (jP bm (.func (.func 81) #[] #[.pointer (some ⟨bx,0,none⟩)]) (.loop .ready none R nt ps ac bd) W) K) G:=by
 obtain⟨x,W2,h1,h2⟩:=L9 hs hg hb hp J Q h0 hS hA hP hQ d has step;rw[h1,wX];exact after x W2 h2
def dB(l:List fV):Int:=jm (l.map (·.many))
def jk:Int->List fV->Prop
 |_,[]=>True
 |s,r::l=>r.first=s/\jk (s+r.many) l
def i6:dB []=0:=rfl
def dr(r:fV)(l:List fV):dB (r::l)=r.many+dB l:=rfl
def kj(a b:List fV):dB (a++b)=dB a+dB b:=by
 induction a with
 |nil=>simp[i6]
 |cons r a ih=>rw[qj,dr,dr,ih];omega
def jk.append:∀{a b:List fV} {s:Int},jk s a->jk (s+dB a) b->jk s (a++b)
 |[],_,s,_,h=>by rw[i6,mj]at h;exact h
 |r::a,b,s,⟨h1,h2⟩,h=>⟨h1,jk.append h2 (by rw[dr,<-wY]at h;exact h)⟩
def jk.at:∀{a b:List fV} {r:fV} {s:Int},jk s (a++r::b)->r.first=s+dB a
 |[],_,_,s,⟨h,_⟩=>by rw[h,i6,mj]
 |x::a,b,r,s,⟨_,h⟩=>by rw[jk.at h,dr,wY]
def D9(l:List jy)(i:Nat)(rows:List Int):∀{k:Nat},k<=rows.length->dB (xk l i rows k)=jm (rows.take k)
 |0,_=>rfl
 |k+1,hk=>by rw[nZ l i rows (by omega),kj,D9 l i rows (by omega),nR (by omega),dr,i6,mj]
def A0(l:List jy)(i:Nat)(rows:List Int):∀{k:Nat},k<=rows.length->jk (dQ (l.take i)) (xk l i rows k)
 |0,_=>trivial
 |k+1,hk=>by rw[nZ l i rows (by omega)];exact(A0 l i rows (by omega)).append ⟨by rw[D9 l i rows (by omega)],aA⟩
def zD(l:List jy):∀{n:Nat},n<=l.length->dB (pK l n)=dQ (l.take n)
 |0,_=>rfl
 |n+1,hn=>by rw[lR l (by omega),kj,zD l (by omega),D9 l n _ (aP _),oT (by omega),dd]
def yB(l:List jy):∀{n:Nat},n<=l.length->jk 0 (pK l n)
 |0,_=>trivial
 |n+1,hn=>by rw[lR l (by omega)];refine(yB l (by omega)).append ?_;rw[zD l (by omega),Int.zero_add];exact A0 l n _ (aP _)
def xI(l:List jy):dB (dn l)=dQ l:=by have:=zD l (aP l.length);rwa [dd]at this
def py(l:List jy):jk 0 (dn l):=yB l (aP _)
def IE(l:List jy)(r:fV):Prop:=∃(hi:r.sec<l.length) (hk:r.row<l[r.sec].rows.length),r.many=l[r.sec].rows[r.row]
def kR{l:List jy}{r:fV}(h:r∈dn l):IE l r:=by unfold dn pK at h;obtain⟨i,hi,h⟩:=List.mem_flatMap.1 h;rw[pW]at hi;rw[cL hi]at h;unfold xk at h;obtain⟨k,hk,rfl⟩:=kq.1 h;rw[pW]at hk;exact⟨hi,hk,by simp[iz,cL hk]⟩
def IE.many{l:List jy}{r:fV}(h:IE l r)(hg:Good l):1<=r.many/\r.many<=64/\r.sec<8/\r.row<16:=by obtain⟨hi,hk,hm⟩:=h;obtain⟨_,h2,h3⟩:=hg.rows _ (fb hi);have:=h3 _ (fb hk);have:=hg.len;omega
def nX{l:List fV}(h:∀r∈l,1<=r.many):(l.length:Int)<=dB l:=by
 induction l with
 |nil=>simp[i6]
 |cons r l ih=>
  have h1:=h r (by simp);have h2:=ih λx hx=>h x (by simp[hx])
  rw[dr,dE];omega
def FU{a l:List fV}(h:a<+:l)(hm:∀r∈l,1<=r.many):0<=dB a/\dB a<=dB l:=by
 obtain⟨b,rfl⟩:=h;have h1:=nX (l:=a) λr hr=>hm r (by simp[hr])
 have h2:=nX (l:=b) λr hr=>hm r (by simp[hr])
 rw[kj];omega
def yQ{l:List jy}(hg:Good l):0<=dQ l/\dQ l<=8192:=by have h:=(tI hg (aP l.length));rw[dd]at h;have:=hg.len;omega
def DH{l:List jy}(hg:Good l){pre:List fV}{r:fV}(h:pre++[r]<+:dn l):IE l r/\r.first=dB pre/\0<=dB pre/\dB (pre++[r])<=8192/\1<=r.many/\r.many<=64/\dB (pre++[r])=dB pre+r.many:=by
 have hm:∀r∈dn l,1<=r.many:=λr hr=>((kR hr).many hg).1
 have hr:r∈dn l:=h.subset (by simp);have h1:=FU h hm;have h2:=FU ((BV pre [r]).trans h) hm;rw[xI]at h1;obtain⟨b,hb⟩:=h;have hf:=py l;rw[<-hb,jQ]at hf;have:=jk.at hf;have hx:=(kR hr).many hg;have:=yQ hg;refine⟨kR hr,by omega,by omega,by omega,by omega,by omega,?_⟩;rw[kj,dr,i6,mj]
def Ga(l:List jy)(i:Nat)(rows:List Int):∀{k:Nat},k<=rows.length->zO i rows k=(xk l i rows k).flatMap λr=>td r.sec r.row r.many.toNat
 |0,_=>rfl
 |k+1,hk=>by rw[zW i rows (by omega),nZ l i rows (by omega),ge,<-Ga l i rows (by omega),iD,List.flatMap_nil,jn]
def Au(l:List jy):je l=(dn l).flatMap λr=>td r.sec r.row r.many.toNat:=by
 have:∀n,n<=l.length->wE l n=(pK l n).flatMap λr=>td r.sec r.row r.many.toNat:=by
  intro n;induction n with
  |zero=>intro _;rfl
  |succ n ih=>intro hn;rw[zH l (by omega),lR l (by omega),ge,<-ih (by omega),<-Ga l n _ (aP _)]
 exact this _ (aP _)
def oL3(x:ae)(W:AW):iV Tryz.prog 3 x W=aK x W:=by kernel_rfl
def QV(x:ae)(W:AW):iV Tryz.prog 30 x W=aK x W:=by kernel_rfl
def acJ(x:ae)(W:AW):iV Tryz.prog 140 x W=bA 4 x W:=by kernel_rfl
def al3(W:AW):aY Tryz.prog 3 W=some (.pointer (some ⟨W.next,0,none⟩),W.add (.cells [.af 0])):=aJ (by kernel_rfl) rfl
def amL(W:AW):aY Tryz.prog 30 W=some (.pointer (some ⟨W.next,0,none⟩),W.add (.cells [.af 0])):=aJ (by kernel_rfl) rfl
def aaF(W:AW):aY Tryz.prog 140 W=some (.pointer (some ⟨W.next,0,none⟩),W.add (.cells [.af 0,.af 0,.af 0,.af 0])):=aJ (by kernel_rfl) rfl
def Z0(W:AW):bD Tryz.prog 140 [] W=some (.agg #[.af 0,.af 0,.af 0,.af 0],W):=aJ (by kernel_rfl) rfl
def anN{b:Nat}{a c d e x y z u:ae}{W:AW}(h:aH W b=some [x,y,z,u])(h1:Eng.one a=true)(h2:Eng.one c=true)(h3:Eng.one d=true)(h4:Eng.one e=true):bP 4 (.pointer (some ⟨b,0,none⟩)) (.agg #[a,c,d,e]) W=some (ag,W.put b (.cells [a,c,d,e])):=by rw[Nf,h,bp];have hc:(Value.agg #[a,c,d,e]).cells=#[a,c,d,e]:=Rz _;rw[hc,ax ⟨rfl,by simp,by simp[h1,h2,h3,h4]⟩];rfl
def LO{b:Nat}{x:ae}{n:Int}{W:AW}(h:aH W b=some [x]):bP 1 (.pointer (some ⟨b,0,none⟩)) (.af n) W=some (ag,W.put b (.cells [.af n])):=by rw[pP,h];rfl
def Fh{b:Nat}{x:ae}{W:AW}(h:aH W b=some [x]):aK (.pointer (some ⟨b,0,none⟩)) W=some (x,W):=df (fR h) rfl
def Bg{b o:Nat}{cs:List ae}{x:ae}{W:AW}(h:aH W b=some cs)(hv:cs[o]? =some x):aK (.pointer (some ⟨b,o,none⟩)) W=some (x,W):=df (fR h) hv
abbrev Ww(r:fV):List ae:=[.af (r.sec:Int),.af (r.row:Int),.af r.first,.af r.many]
def S8{α:Type}{p:α->Bool}{pre l:List α}{r:α}(h:pre++[r]<+:l)(h0:∀x∈pre,p x=false)(h1:p r=true):l.find? p=some r:=by obtain⟨b,rfl⟩:=h;rw[jQ,List.find?_append,List.find?_eq_none.2 (λx hx=>by simp[h0 x hx]),qj,List.find?_cons_of_pos h1];rfl
def YE{α:Type}{p:α->Bool}{l:List α}(h0:∀x∈l,p x=false):l.find? p=none:=List.find?_eq_none.2 (λx hx=>by simp[h0 x hx])
def Iq{α:Type}{p:α->Bool}{pre:List α}{r:α}(h0:∀x∈pre,p x=false)(h1:p r=false):∀x∈pre++[r],p x=false:=by
 intro x hx;rcases oU.1 hx with h|h
 ·exact h0 x h
 ·rw[m9.1 h];exact h1
def acq(n:Int)(W:AW):∃W1,cD (.af n) W=some (.pointer (some ⟨W.next,0,none⟩),W1)/\W1.next=W.next+1/\Le W W1/\aH W1 W.next=some [.af n]:=
 ⟨_,Jv _ _,AW.aG _ _,(Le.refl W).add _,cg⟩
def afg(W:AW):∃W1,aY Tryz.prog 3 W=some (.pointer (some ⟨W.next,0,none⟩),W1)/\W1.next=W.next+1/\Le W W1/\aH W1 W.next=some [.af 0]:=⟨_,al3 W,AW.aG _ _,(Le.refl W).add _,cg⟩
def Zw(W:AW):∃W1,aY Tryz.prog 30 W=some (.pointer (some ⟨W.next,0,none⟩),W1)/\W1.next=W.next+1/\Le W W1/\aH W1 W.next=some [.af 0]:=⟨_,amL W,AW.aG _ _,(Le.refl W).add _,cg⟩
def SK(W:AW):∃W1,aY Tryz.prog 140 W=some (.pointer (some ⟨W.next,0,none⟩),W1)/\W1.next=W.next+1/\Le W W1/\aH W1 W.next=some [.af 0,.af 0,.af 0,.af 0]:=⟨_,aaF W,AW.aG _ _,(Le.refl W).add _,cg⟩
def md{W:AW}{b c:Nat}(h:b≠c):aH (W.kill b) c=aH W c:=by unfold aH;rw[W.eD h]
def ld4{b:Nat}{x y z u:ae}{W:AW}(h:aH W b=some [x,y,z,u]):bA 4 (.pointer (some ⟨b,0,none⟩)) W=some (.agg #[x,y,z,u],W):=mh (fR h) rfl
def Dv{b:Nat}{a c d e:Int}{x y z u:ae}{W:AW}(h:aH W b=some [x,y,z,u]):bP 4 (.pointer (some ⟨b,0,none⟩)) (.agg #[.af a,.af c,.af d,.af e]) W=some (ag,W.put b (.cells [.af a,.af c,.af d,.af e])):=anN h rfl rfl rfl rfl
def ta(bX:Int)(r:fV):Bool:=decide (r.first<=bX)&&decide (bX<r.first+r.many)
abbrev zs:List ae:=[.af 0,.af 0,.af 0,.af 0]
abbrev afr:fV:=⟨0,0,0,0⟩
def eN(v:cA)(bX:Int):fV×Int:=if(fp v).2=0 then(match(dn v.az).find? (ta bX)with
 |some r=>(r,0)
 |none=>(afr,4))else(afr,(fp v).2)
def O8{v:cA}{sv:ae}{W:AW}{bX:Int}(hs:fJ W sv v.az)(hv:v.az.length<1000):bm (.func (.func 166) #[] #[]) [fc v sv,.af bX] W=some (.tuple #[Gs (eN v bX).1,.af (eN v bX).2],W):=by
 refine bT rfl ?_ E5;unfold CM eN;obtain⟨W1,hB,a8,hn,c4,c0,c3⟩:=gF v sv W;obtain⟨W2,b2,n2,l2,r2⟩:=acq bX W1;obtain⟨W3,b3,n3,l3,r3⟩:=SK W2;obtain⟨W4,b4,n4,l4,r4⟩:=Zw W3;have dv:aH W4 W2.next=some [.af 0,.af 0,.af 0,.af 0]:=by rw[l4.aH (by omega)];exact r3
 have PA:=l3.trans l4;have ju:=a8.trans l2;have P1:=a8.next;simp only[SX,hB,b2,b3,b4,c4 _ (l2.trans PA),pB (hs.mono (ju.trans PA)) hv];by_cases he:(fp v).2=0;case neg=>
  have p1:aH (W4.put W2.next (.cells (zs))) W3.next=some [.af 0]:=by rw[bs _ (by omega)];exact r4
  have p2:∀x,aH ((W4.put W2.next (.cells (zs))).put W3.next x) W2.next=some (zs):=λx=>by rw[bs _ (by omega)];exact bF _
  simp only[SX,he,bR,Z0,Dv dv,LO p1,vd,acJ,QV,ld4 (p2 _),Fh (bF _),bp,am];exact⟨rfl,((ju.trans PA).put (by omega) _).put (by omega) _⟩
 obtain⟨hg,-⟩:=eJ he;obtain⟨W5,q1,q2,q3,q4⟩:=N6 (v:=v) (sv:=sv) W4;have hn5:=q2.next;simp only[SX,aS he,q1,ax he];refine Om (hs.mono ju).1 hg (q4 _ ((Le.refl _).add _)) rfl (λpre W'=>Le W2 W'/\aH W' W2.next=some (zs)/\aH W' W3.next=some [.af 0]/\∀r∈pre,ta bX r=false)
  (λx W'=>x=.ret/\Le W2 W'/\∃r,(dn v.az).find? (ta bX)=some r/\aH W' W2.next=some (Ww r)/\aH W' W3.next=some [.af 0])
  ⟨(PA.trans q2).add _,by rw[fT _ (by omega),q2.aH (by omega)];exact dv,by rw[fT _ (by omega),q2.aH (by omega)];exact r4,by simp⟩ (λ_ _ h=>h.1)
  (λpre W' cs h hl=>⟨h.1.add _,by rw[fT _ (by omega)];exact h.2.1,by rw[fT _ (by omega)];exact h.2.2.1,h.2.2.2⟩)
  (λpre W' o h=>⟨h.1.put (by omega) _,by rw[bs _ (by omega)];exact h.2.1,by rw[bs _ (by omega)];exact h.2.2.1,h.2.2.2⟩)
  (λx W' o ⟨h1,h2,r,h3,h4,h5⟩=>⟨h1,h2.put (by omega) _,r,h3,by rw[bs _ (by omega)];exact h4,by rw[bs _ (by omega)];exact h5⟩) 8 ?_ ?_ ?_
 ·intro r W' R' hR;have cj:R' 20=Gs r:=by rw[hR];rfl
  rw[xA];unfold tG;simp only[SX,aaF,cj,Dv cg,dZ];try rfl
 ·intro pre r W' b R' hR tg ⟨h1,h2,h3,h4⟩ hl hb MH iW;have f3:R' 3=.pointer (some ⟨W1.next,0,none⟩):=by rw[hR];rfl
  have f4:R' 4=.pointer (some ⟨W2.next,0,none⟩):=by rw[hR];rfl
  have f5:R' 5=.pointer (some ⟨W3.next,0,none⟩):=by rw[hR];rfl
  have f8:R' 8=.pointer (some ⟨b,0,none⟩):=by rw[hR];rfl
  clear hR;rw[xB];unfold tY;obtain⟨k1,k2,k3,k4,k5,k6,k7⟩:=DH hg tg;have ea:=ud W' r.first r.many;have Uk:aH W' W1.next=some [.af bX]:=by rw[h1.aH (by omega)];exact r2
  simp only[SX,f3,f8,Fh Uk,Bg (o:=2) hb rfl,aI];have kX:ta bX r=(decide (r.first<=bX)&&decide (bX<r.first+r.many)):=rfl;by_cases t1:r.first<=bX;case neg=>rw[bq t1,kP]at kX;simp only[SX,t1,am];exact⟨aP _,aA,.inl ⟨aA,h1,h2,h3,Iq h4 kX⟩⟩
  simp only[SX,aS t1,Bg (o:=2) hb rfl,Bg (o:=3) hb rfl,ea];by_cases t2:bX<r.first+r.many;case neg=>rw[bq t2,Bool.and_false]at kX;simp only[SX,t2,am];exact⟨aP _,aA,.inl ⟨aA,h1,h2,h3,Iq h4 kX⟩⟩
  rw[aS t1,aS t2]at kX;have p1:aH (W'.put W2.next (.cells (Ww r))) W3.next=some [.af 0]:=by rw[bs _ (by omega)];exact h3
  simp only[SX,aS t2,f4,f5,ld4 hb,Dv h2,LO p1,am];exact⟨aP _,by rw[AW.aE _ _ (by omega),AW.aE _ _ (by omega)],.inr ⟨by simp,aA,(h1.put (by omega) _).put (by omega) _,r,S8 tg h4 kX,by rw[bs _ (by omega)];exact bF _,bF _⟩⟩
 ·rintro x W6 (⟨rfl,h1,h2,h3,h4⟩|⟨_,rfl,h1,r,h2,h3,h4⟩)
  ·have k2:aH (W6.kill W5.next) W2.next=some (zs):=by rw[md (by omega)];exact h2
   have k3:aH ((W6.kill W5.next).put W2.next (.cells (zs))) W3.next=some [.af 0]:=by rw[bs _ (by omega),md (by omega)];exact h3
   have p2:∀x,aH (((W6.kill W5.next).put W2.next (.cells (zs))).put W3.next x) W2.next=some (zs):=λx=>by rw[bs _ (by omega)];exact bF _
   simp only[SX,Z0,Dv k2,LO k3,vd,acJ,QV,ld4 (p2 _),Fh (bF _),bp,YE h4,am];exact⟨rfl,(((ju.trans h1).kill (by omega)).put (by omega) _).put (by omega) _⟩
  ·have k2:aH (W6.kill W5.next) W2.next=some (Ww r):=by rw[md (by omega)];exact h3
   have k3:aH (W6.kill W5.next) W3.next=some [.af 0]:=by rw[md (by omega)];exact h4
   simp only[SX,vd,acJ,QV,ld4 k2,Fh k3,bp,h2,am];exact⟨aA,(ju.trans h1).kill (by omega)⟩
def dP(sec:Int)(r:fV):Bool:=decide ((r.sec:Int)=sec)
def Nx:List fV->Int
 |[]=>0
 |r::_=>r.first
def sW(v:cA)(sec:Int):Int×Int×Int:=if(fp v).2=0 then
 if dB ((dn v.az).filter (dP sec))=0 then(0,0,4)else(Nx ((dn v.az).filter (dP sec)),dB ((dn v.az).filter (dP sec)),0)
 else(0,0,(fp v).2)
def iL{α:Type}{p:α->Bool}{pre:List α}{r:α}(h:p r=true):(pre++[r]).filter p=pre.filter p++[r]:=by simp[B6,h]
def oq{α:Type}{p:α->Bool}{pre:List α}{r:α}(h:p r=false):(pre++[r]).filter p=pre.filter p:=by simp[B6,h]
def Q5{l:List fV}{r:fV}(h:l≠[]):Nx (l++[r])=Nx l:=by
 cases l with
 |nil=>exact absurd rfl h
 |cons=>rfl
def Zu{v:cA}{sv:ae}{W:AW}{sec:Int}(hs:fJ W sv v.az)(hv:v.az.length<1000):bm (.func (.func 164) #[] #[]) [fc v sv,.af sec] W=some (.tuple #[.af (sW v sec).1,.af (sW v sec).2.1,.af (sW v sec).2.2],W):=by
 refine bT rfl ?_ JW;unfold Jf sW;obtain⟨W1,hB,a8,hn,c4,c0,c3⟩:=gF v sv W;obtain⟨W2,b2,n2,l2,r2⟩:=acq sec W1;obtain⟨W3,b3,n3,l3,r3⟩:=afg W2;obtain⟨W4,b4,n4,l4,r4⟩:=afg W3;have dv:aH W4 W2.next=some [.af 0]:=by rw[l4.aH (by omega)];exact r3
 have PA:=l3.trans l4;have ju:=a8.trans l2;have P1:=a8.next;have e2:∀(W':AW) a b,aH ((W'.put W2.next (.cells a)).put W3.next b) W2.next=some a:=λW' a b=>by rw[bs _ (by omega)];exact bF _
 have e3:∀(W':AW) a,aH (W'.put W2.next a) W3.next=aH W' W3.next:=λW' a=>bs _ (by omega)
 simp only[SX,hB,b2,b3,b4,c4 _ (l2.trans PA),pB (hs.mono (ju.trans PA)) hv];by_cases he:(fp v).2=0;case neg=>simp only[SX,he,bR,LO dv,LO ((e3 _ _).trans r4),CG,oL3,Fh (e2 _ _ _),Fh (bF _),bp,am];exact⟨aA,((ju.trans PA).put (by omega) _).put (by omega) _⟩
 obtain⟨hg,-⟩:=eJ he;obtain⟨W5,q1,q2,q3,q4⟩:=N6 (v:=v) (sv:=sv) W4;have hn5:=q2.next;simp only[SX,aS he,q1,ax he];refine Om (hs.mono ju).1 hg (q4 _ ((Le.refl _).add _)) rfl (λpre W'=>Le W2 W'/\aH W' W2.next=some [.af (Nx (pre.filter (dP sec)))]/\aH W' W3.next=some [.af (dB (pre.filter (dP sec)))])
  (λx W'=>False)
  ⟨(PA.trans q2).add _,by rw[fT _ (by omega),q2.aH (by omega)];exact dv,by rw[fT _ (by omega),q2.aH (by omega)];exact r4⟩ (λ_ _ h=>h.1)
  (λpre W' cs h hl=>⟨h.1.add _,by rw[fT _ (by omega)];exact h.2.1,by rw[fT _ (by omega)];exact h.2.2⟩)
  (λpre W' o h=>⟨h.1.put (by omega) _,by rw[bs _ (by omega)];exact h.2.1,by rw[bs _ (by omega)];exact h.2.2⟩)
  (λx W' o h=>h) 9 ?_ ?_ ?_
 ·intro r W' R' hR;have cj:R' 20=Gs r:=by rw[hR];rfl
  rw[Bh];unfold yi;simp only[SX,aaF,cj,Dv cg,dZ]
 ·intro pre r W' b R' hR tg ⟨h1,h2,h3⟩ hl hb MH iW;have f3:R' 3=.pointer (some ⟨W1.next,0,none⟩):=by rw[hR];rfl
  have f4:R' 4=.pointer (some ⟨W2.next,0,none⟩):=by rw[hR];rfl
  have f5:R' 5=.pointer (some ⟨W3.next,0,none⟩):=by rw[hR];rfl
  have f8:R' 9=.pointer (some ⟨b,0,none⟩):=by rw[hR];rfl
  clear hR;rw[Bu];unfold xR;obtain⟨k1,k2,k3,k4,k5,k6,k7⟩:=DH hg tg;have Uk:aH W' W1.next=some [.af sec]:=by rw[h1.aH (by omega)];exact r2
  have hmp:∀x∈pre,1<=x.many:=λx hx=>((kR (((BV pre [r]).trans tg).subset hx)).many hg).1
  have hms:=nX (l:=pre.filter (dP sec)) (λx hx=>hmp x (ky.1 hx).1);have aha:dB (pre.filter (dP sec))<=dB pre:=by
   have:∀l:List fV,(∀x∈l,1<=x.many)->dB (l.filter (dP sec))<=dB l:=by
    intro l;induction l with
    |nil=>intro _;exact Int.le_refl _
    |cons x l ih=>
     intro h;have:=ih λy hy=>h y (by simp[hy])
     have:=h x (by simp);rw[List.filter_cons];split
     ·rw[dr,dr];omega
     ·rw[dr];omega
   exact this _ hmp
  have ea:∀W',aw Tryz.prog .add 3 false false (.af (dB (pre.filter (dP sec)))) (.af r.many) W'=some (.af (dB (pre.filter (dP sec))+r.many),W'):=λW'=>da (by omega) (by omega)
  simp only[SX,f3,f8,Fh Uk,Bg (o:=0) hb rfl,aI];by_cases t1:(r.sec:Int)=sec;case neg=>have kX:dP sec r=false:=bq t1;simp only[SX,t1,am];exact⟨aP _,aA,.inl ⟨aA,h1,by rw[oq kX];exact h2,by rw[oq kX];exact h3⟩⟩
  have kX:dP sec r=true:=aS t1;have ahb:dB (pre.filter (dP sec)++[r])=dB (pre.filter (dP sec))+r.many:=by rw[kj,dr,i6,mj]
  simp only[SX,aS t1,f5,Fh h3];by_cases t2:dB (pre.filter (dP sec))=0
  ·have aky:pre.filter (dP sec)=[]:=by rw[t2]at hms;exact jR.1 (by omega)
   have hb':aH (W'.put W2.next (.cells [.af r.first])) b=some (Ww r):=by rw[bs _ (by omega)];exact hb
   simp only[SX,aS t2,f4,Bg (o:=2) hb rfl,Bg (o:=3) hb' rfl,LO h2,Fh ((e3 _ _).trans h3),ea,LO ((e3 _ _).trans h3),am];exact⟨aP _,by rw[AW.aE _ _ (by omega),AW.aE _ _ (by omega)],.inl ⟨aA,(h1.put (by omega) _).put (by omega) _,by rw[e2,iL kX,aky];rfl,by rw[bF,iL kX,ahb]⟩⟩
  ·have fk:pre.filter (dP sec)≠[]:=λe=>t2 (by rw[e];rfl)
   simp only[SX,t2,Bg (o:=3) hb rfl,ea,LO h3,am];exact⟨aP _,by rw[AW.aE _ _ (by omega)],.inl ⟨aA,h1.put (by omega) _,by rw[bs _ (by omega),iL kX,Q5 fk];exact h2,by rw[bF,iL kX,ahb]⟩⟩
 ·rintro x W6 (⟨rfl,h1,h2,h3⟩|⟨_,h⟩);case inr=>exact h.elim
  have k2:aH (W6.kill W5.next) W2.next=some [.af (Nx ((dn v.az).filter (dP sec)))]:=by rw[md (by omega)];exact h2
  have k3:aH (W6.kill W5.next) W3.next=some [.af (dB ((dn v.az).filter (dP sec)))]:=by rw[md (by omega)];exact h3
  simp only[SX,Fh k3];by_cases t2:dB ((dn v.az).filter (dP sec))=0
  ·simp only[SX,aS t2,ax t2,LO k2,LO ((e3 _ _).trans k3),CG,oL3,Fh (e2 _ _ _),Fh (bF _),bp,am];exact⟨aA,(((ju.trans h1).kill (by omega)).put (by omega) _).put (by omega) _⟩
  ·have Su:rE true (some (.af (dB ((dn v.az).filter (dP sec))),(W6.kill W5.next).put W2.next (.cells [.af (Nx ((dn v.az).filter (dP sec)))]))) (.af (dB ((dn v.az).filter (dP sec))))=true:=T6 rfl (Gg _ _);simp only[SX,t2,Fh k2,Fh k3,LO k2,Fh ((e3 _ _).trans k3),Su,uV,LO ((e3 _ _).trans k3),CG,oL3,Fh (e2 _ _ _),Fh (bF _),bp,am];exact⟨by simp only[bR],(((ju.trans h1).kill (by omega)).put (by omega) _).put (by omega) _⟩
def amJ(W:AW):aY Tryz.prog 167 W=some (.pointer (some ⟨W.next,0,none⟩),W.add (.cells [.af 0,.af 0,.af 0])):=aJ (by kernel_rfl) rfl
def Q8(x:ae)(W:AW):iV Tryz.prog 167 x W=bA 3 x W:=by kernel_rfl
def Oj(W:AW):bD Tryz.prog 167 [] W=some (.agg #[.af 0,.af 0,.af 0],W):=aJ (by kernel_rfl) rfl
def KY(W:AW):∃W1,aY Tryz.prog 167 W=some (.pointer (some ⟨W.next,0,none⟩),W1)/\W1.next=W.next+1/\Le W W1/\aH W1 W.next=some [.af 0,.af 0,.af 0]:=⟨_,amJ W,AW.aG _ _,(Le.refl W).add _,cg⟩
def ld3{b:Nat}{x y z:ae}{W:AW}(h:aH W b=some [x,y,z]):bA 3 (.pointer (some ⟨b,0,none⟩)) W=some (.agg #[x,y,z],W):=mh (fR h) rfl
def yw{b:Nat}{a c d:Int}{x y z:ae}{W:AW}(h:aH W b=some [x,y,z]):bP 3 (.pointer (some ⟨b,0,none⟩)) (.agg #[.af a,.af c,.af d]) W=some (ag,W.put b (.cells [.af a,.af c,.af d])):=UL h rfl rfl rfl
def XF{α:Type}{l:List α}{r:α}(h:r∈l):∃pre,pre++[r]<+:l:=by obtain⟨a,b,rfl⟩:=List.append_of_mem h;exact⟨a,⟨b,by simp⟩⟩
def BB{l:List jy}(hg:Good l){r:fV}(h:r∈dn l):IE l r/\0<=r.first/\r.first+r.many<=8192/\1<=r.many/\r.many<=64/\r.sec<8/\r.row<16:=by obtain⟨pre,hp⟩:=XF h;obtain⟨k1,k2,k3,k4,k5,k6,k7⟩:=DH hg hp;have:=k1.many hg;exact⟨k1,by omega,by omega,k5,k6,by omega,by omega⟩
def si{v:cA}{bX:Int}(h:(eN v bX).2=0):(fp v).2=0/\(eN v bX).1∈dn v.az/\(dn v.az).find? (ta bX)=some (eN v bX).1/\(eN v bX).1.first<=bX/\bX<(eN v bX).1.first+(eN v bX).1.many:=by
 unfold eN at h|-;by_cases he:(fp v).2=0
 ·rw[ax he]at h|-;cases hf:(dn v.az).find? (ta bX)with
  |none=>rw[hf]at h;exact absurd h (by decide)
  |some r=>have hi:=List.find?_some hf;unfold ta at hi;simp only[bK,mM]at hi;exact⟨he,HV hf,rfl,hi.1,hi.2⟩
 ·rw[ay he]at h;exact absurd h he
def bI(v:cA)(bX:Int):Lb×Int:=if(eN v bX).2=0 then(((eN v bX).1.sec,(eN v bX).1.row,(bX-(eN v bX).1.first).toNat),0)else((0,0,0),(eN v bX).2)
abbrev Zn(p:Lb):ae:=.agg #[.af (p.1:Int),.af (p.2.1:Int),.af (p.2.2:Int)]
def Tw{v:cA}{sv:ae}{W:AW}{bX:Int}(hs:fJ W sv v.az)(hv:v.az.length<1000):bm (.func (.func 139) #[] #[]) [fc v sv,.af bX] W=some (.tuple #[Zn (bI v bX).1,.af (bI v bX).2],W):=by
 refine bT rfl ?_ DS;unfold Ak bI;obtain⟨W1,hB,a8,hn,c4,c0,c3⟩:=gF v sv W;obtain⟨W2,b2,n2,l2,r2⟩:=KY W1;obtain⟨W3,b3,n3,l3,r3⟩:=SK W2;have cx:∀x,aH (W3.put W2.next x) W1.next=some [.af 0,.af 0,.af 0]:=λx=>by rw[bs _ (by omega),l3.aH (by omega)];exact r2
 have P1:=a8.next;have l03:=(a8.trans l2).trans l3;simp only[SX,hB,b2,b3,c4 _ l2,O8 (hs.mono (a8.trans l2)) hv,Dv r3];by_cases he:(eN v bX).2=0;case neg=>simp only[SX,he,bR,Oj,yw (cx _),eT,Q8,ld3 (bF _),bp,am];exact⟨rfl,(l03.put (by omega) _).put (by omega) _⟩
 obtain⟨h1,h2,h3,h4,h5⟩:=si he;obtain⟨k1,k2,k3,k4,k5,-,-⟩:=BB (eJ h1).1 h2;have hb:=bF (W:=W3) (b:=W2.next) (Ww (eN v bX).1);have ea:∀W',aw Tryz.prog .sub 3 false false (.af bX) (.af (eN v bX).1.first) W'=some (.af (bX-(eN v bX).1.first),W'):=λW'=>mC (by omega) (by omega)
 have et:((bX-(eN v bX).1.first).toNat:Int)=bX-(eN v bX).1.first:=xL (by omega);simp only[SX,aS he,ax he,aI,Bg (o:=0) hb rfl,Bg (o:=1) hb rfl,Bg (o:=2) hb rfl,ea,ai9,yw (cx _),eT,Q8,ld3 (bF _),bp,am];exact⟨by simp only[Zn];rw[et],(l03.put (by omega) _).put (by omega) _⟩
def fG(v:cA)(bX:Int):Int×Int:=if(eN v bX).2=0 then(bX % v.sh,0)else(0,(eN v bX).2)
def NF{v:cA}(h:vg v=false):1<=v.sh/\v.sh<=16:=by unfold vg jf at h;simp only[Bool.or_eq_false_iff,B8]at h;omega
def gA{v:cA}(h:(fp v).2=0):1<=v.sh/\v.sh<=16:=NF (eJ h).2.1
def Ef{v:cA}{sv:ae}{W:AW}{bX:Int}(hs:fJ W sv v.az)(hv:v.az.length<1000):bm (.func (.func 141) #[] #[]) [fc v sv,.af bX] W=some (.tuple #[.af (fG v bX).1,.af (fG v bX).2],W):=by
 refine bT rfl ?_ Ec;unfold AK fG;obtain⟨W1,hB,a8,hn,c4,c0,c3⟩:=gF v sv W;obtain⟨W3,b3,n3,l3,r3⟩:=SK W1;have P1:=a8.next;simp only[SX,hB,b3,c4 _ (.refl _),O8 (hs.mono a8) hv,Dv r3];by_cases he:(eN v bX).2=0;case neg=>simp only[SX,he,bR,am];exact⟨aA,(a8.trans l3).put (by omega) _⟩
 obtain⟨h1,h2,h3,h4,h5⟩:=si he;obtain⟨k1,k2,k3,k4,k5,-,-⟩:=BB (eJ h1).1 h2;have IK:=gA h1;have ea:∀W',aw Tryz.prog .rem 3 false false (.af bX) (.af v.sh) W'=some (.af (bX % v.sh),W'):=λW'=>by rw[xU (by omega),BF (by omega)]
 simp only[SX,aS he,ax he,aI,c0 _ (l3.put (aP _) _),ea,am];exact⟨aA,(a8.trans l3).put (by omega) _⟩
def eC(v:cA)(sec:Int):Int×Int:=if(sW v sec).2.2=0 then(v.sh+sec,0)else(0,(sW v sec).2.2)
def oz{v:cA}{sec:Int}(h:(sW v sec).2.2=0):(fp v).2=0/\0<=sec/\sec<v.az.length/\∃r l,(dn v.az).filter (dP sec)=r::l/\(sW v sec)=(r.first,dB ((dn v.az).filter (dP sec)),0):=by
 unfold sW at h|-;by_cases he:(fp v).2=0
 ·rw[ax he]at h|-;by_cases h2:dB ((dn v.az).filter (dP sec))=0
  ·rw[ax h2]at h;exact absurd h (by decide)
  ·rw[ay h2];cases hf:(dn v.az).filter (dP sec)with
   |nil=>rw[hf]at h2;exact absurd rfl h2
   |cons r l=>
    have hr:r∈(dn v.az).filter (dP sec):=by rw[hf];simp
    obtain⟨m1,m2⟩:=ky.1 hr;obtain⟨hi,-,-⟩:=kR m1;have:(r.sec:Int)=sec:=tz m2;exact⟨he,by omega,by omega,r,l,rfl,rfl⟩
 ·rw[ay he]at h;exact absurd h he
def Ol{v:cA}{sv:ae}{W:AW}{sec:Int}(hs:fJ W sv v.az)(hv:v.az.length<1000):bm (.func (.func 140) #[] #[]) [fc v sv,.af sec] W=some (.tuple #[.af (eC v sec).1,.af (eC v sec).2],W):=by
 refine bT rfl ?_ Ez;unfold Co eC;obtain⟨W1,hB,a8,hn,c4,c0,c3⟩:=gF v sv W;simp only[SX,hB,c4 _ (.refl _),Zu (hs.mono a8) hv];by_cases he:(sW v sec).2.2=0;case neg=>simp only[SX,he,bR,am];exact⟨aA,a8⟩
 obtain⟨h1,h2,h3,-⟩:=oz he;have IK:=gA h1;have ea:∀W',aw Tryz.prog .add 3 false false (.af v.sh) (.af sec) W'=some (.af (v.sh+sec),W'):=λW'=>da (by omega) (by omega)
 simp only[SX,aS he,ax he,aI,c0 _ (.refl _),ea,am];exact⟨aA,a8⟩
def acW(a b:Int)(W:AW):aB Tryz.prog .min #[3,3] 3 #[false,false] [.af a,.af b] W=some (.af (min a b),W):=by
 have e:aB Tryz.prog .min #[3,3] 3 #[false,false] [.af a,.af b] W=(j8 Tryz.prog ([Value.int .i64 a,.af b].all bC) (builtin .min #[3,3] 3 #[false,false] #[.af a,.af b])).map λv=>(v,W):=by unfold aB;rfl
 rw[e];have e2:builtin .min #[3,3] 3 #[false,false] #[.af a,.af b]=(do pure (.value (<-Builtin.min_ #[3,3] 3 #[.af a,.af b]))):=rfl;rw[e2];refine DM ?_ rfl _ rfl;unfold Builtin.min_;simp only[List.foldlM_cons,List.foldlM_nil,fq,Builtin.min2,fW,bp];congr 2;by_cases h:b<a
 ·rw[ax h];omega
 ·rw[ay h];omega
def Cw(a:Int)(W:AW):aD Tryz.prog 64 1 [(0,.af a)] W=some (.slice (some ⟨W.next,0,none⟩) 1 1,W.add (.cells [.af a])):=aJ (by kernel_rfl) rfl
def EK:iR Tryz.prog #[64,64] 1 8=true:=by kernel_rfl
def ws(sh first:Int)(n:Nat):List Int:=(List.range n).map λ(i:Nat)=>(first+(i:Int)) % sh
def Rj(sh first:Int)(n:Nat):ws sh first (n+1)=ws sh first n++[(first+(n:Int)) % sh]:=by simp[ws,ol]
def uh(sh first:Int)(n:Nat):(ws sh first n).length=n:=by simp[ws]
def gM(v:cA)(sec:Int):List Int×Int:=if(sW v sec).2.2=0 then(jZ (ws v.sh (sW v sec).1 (min (sW v sec).2.1 v.sh).toNat),0)else([],(sW v sec).2.2)
def zj{v:cA}{sec:Int}(h:(sW v sec).2.2=0):0<=(sW v sec).1/\(sW v sec).1<=8192/\1<=(sW v sec).2.1/\(sW v sec).2.1<=8192:=by
 obtain⟨h1,h2,h3,r,l,h4,h5⟩:=oz h;have hg:=(eJ h1).1;have hr:r∈(dn v.az).filter (dP sec):=by rw[h4];simp
 obtain⟨k1,k2,k3,k4,k5,-,-⟩:=BB hg (ky.1 hr).1;have hm:∀x∈dn v.az,1<=x.many:=λx hx=>((kR hx).many hg).1
 have aha:∀l:List fV,(∀x∈l,1<=x.many)->dB (l.filter (dP sec))<=dB l:=by
  intro l;induction l with
  |nil=>intro _;exact Int.le_refl _
  |cons x l ih=>
   intro h;have:=ih λy hy=>h y (by simp[hy])
   have:=h x (by simp);rw[List.filter_cons];split
   ·rw[dr,dr];omega
   ·rw[dr];omega
 have a8:=aha _ hm;rw[xI]at a8;have:=yQ hg;have zt:=nX (l:=(dn v.az).filter (dP sec)) (λx hx=>hm x (ky.1 hx).1);rw[h4,dE]at zt;rw[<-h4]at zt;rw[h5];exact⟨k2,by omega,by simp only;omega,by simp only;omega⟩
def T0{v:cA}{sv:ae}{W:AW}{sec:Int}(hs:fJ W sv v.az)(hv:v.az.length<1000):∃u W2,bm (.func (.func 138) #[] #[]) [fc v sv,.af sec] W=some (.tuple #[u,.af (gM v sec).2],W2)/\Le W W2/\kr W2 u (gM v sec).1:=by
 refine pZ ?_ D1;unfold AQ gM;obtain⟨W1,hB,a8,hn,c4,c0,c3⟩:=gF v sv W;have P1:=a8.next;simp only[SX,hB,c4 _ (.refl _),Zu (hs.mono a8) hv];by_cases he:(sW v sec).2.2=0;case neg=>simp only[SX,he,bR,am];exact⟨_,rfl,a8,Row.nil⟩
 obtain⟨h1,h2,h3,-⟩:=oz he;obtain⟨b1,b2,b3,b4⟩:=zj he;have IK:=gA h1;generalize hfm:sW v sec=fm at *;obtain⟨fi,ma,er⟩:=fm;simp only at he b1 b2 b3 b4|-;subst he;simp only[SX,bh,aI,c0 _ (.refl _),acW];obtain⟨n,hn2⟩:∃n:Nat,(n:Int)=min ma v.sh:=⟨(min ma v.sh).toNat,by omega⟩;have hn3:(min ma v.sh).toNat=n:=by omega
 rw[<-hn2];refine bY n (by omega) (λi R W'=>Le W1 W'/\R 2=.pointer (some ⟨W.next,0,none⟩)/\R 6=.af fi/\R 24=.af (n:Int)/\R 25=.af (i:Int)/\∃u,R 9=u/\pk W1.next W' 1 jE u (ws v.sh fi i))
  (λr=>Le W1 r.2.2/\r.1=.exit 0/\∃u,r.2.1 9=u/\pk W1.next r.2.2 1 jE u (ws v.sh fi n)) ⟨.refl _,rfl,rfl,rfl,rfl,_,rfl,.nil _ _ _ _⟩ ?_ ?_ ?_
 ·rintro i R W' hi ⟨hl,f2,f6,f24,f25,u,f9,hL⟩;unfold oH;have e1:((i:Int)<(n:Int)):=by omega
  have e2:(i:Int)+1=((i+1:Nat):Int):=by omega
  have ea:∀W',aw Tryz.prog .add 3 false false (.af fi) (.af (i:Int)) W'=some (.af (fi+(i:Int)),W'):=λW'=>da (by omega) (by omega)
  have er:∀W',aw Tryz.prog .rem 3 false false (.af (fi+(i:Int))) (.af v.sh) W'=some (.af ((fi+(i:Int)) % v.sh),W'):=λW'=>by rw[xU (by omega),BF (by omega)]
  have eb:∀W',aw Tryz.prog .add 3 false true (.af (i:Int)) (.af 1) W'=some (.af ((i+1:Nat):Int),W'):=λW'=>by rw[<-e2];exact da (by omega) (by omega)
  have P8:=hL.mono ((Le.refl W').add (.cells [.af ((fi+(i:Int)) % v.sh)]));obtain⟨v',W2,q1,q2,q3,q4⟩:=pk.push (P:=Tryz.prog) (a:=(fi+(i:Int)) % v.sh) (b:=W'.next) (c:=1) EK rC xG P8 bE (by rw[uh];omega) (by rw[uh];omega) (by rw[AW.aG];have:=hl.next;omega);simp only[SX,f2,f6,f9,f24,f25,e1,ea,aI,c0 _ hl,er,Cw,q1,eb,am];refine .inl ⟨aA,q4 _ (hl.add _) (aP _),f2,f6,f24,rfl,_,rfl,?_⟩;rw[Rj];exact q2
 ·rintro R W' ⟨hl,f2,f6,f24,f25,u,f9,hL⟩;unfold oH;have e1:¬((n:Int)<(n:Int)):=by omega
  simp only[SX,f24,f25,e1,am];exact⟨by simp,hl,aA,u,f9,hL⟩
 ·rintro⟨x,R,W'⟩ ⟨hl,hx,u,f9,hL⟩;simp only at hl hx f9 hL;subst hx;have fk:ws v.sh fi n≠[]:=λe=>by have:=uh v.sh fi n;rw[e]at this;simp at this;omega
  obtain⟨W2,s1,s2,s3,s4⟩:=hL.sort fk (by rw[uh];omega);simp only[SX,f9,XM s1,am];exact⟨_,rfl,a8.trans (s4 _ hl (aP _)),by rw[oY];exact s2.ints⟩
def adN.get{W:AW}{v:ae}{l:List Lb}(h:adN W v l){i:Nat}(hi:i<l.length):∃b o,(∀W' k,gn 3 v (.int k (i:Int)) W'=some (.pointer (some ⟨b,o,none⟩),W'))/\
 ∀W',Le W W'->aK (.pointer (some ⟨b,o,none⟩)) W'=some (.af (l[i].1:Int),W')/\aK (.pointer (some ⟨b,o+1,none⟩)) W'=some (.af (l[i].2.1:Int),W')/\bA 3 (.pointer (some ⟨b,o,none⟩)) W'=some (Zn l[i],W'):=by
 obtain⟨a,c,rfl,h⟩:=h;rcases h with rfl|⟨b,o,cs,rfl,hb,hc,mE⟩
 ·simp at hi
 ·refine⟨b,o+i*3,λW' k=>sf hi,λW' a8=>?_⟩;have sX:=(a8.aL hb).trans hc;obtain⟨h1,h2,h3⟩:=mE i hi;refine⟨df sX h1,df sX h2,?_⟩;have:=Oq h1 h2 h3;rw[zJ,sX,bp,this];rfl
def FY(b:Bool):aU ag b=false:=aJ (by unfold aU ag;rfl) rfl
def KS{α:Type}(p:α->Bool)(l:List α):Nat:=if(l.filter p).length=0 then 0 else l.findIdx p
def RC{α:Type}{p:α->Bool}{l:List α}{a:α}:KS p (l++[a])=if p a=true/\(l.filter p).length=0 then l.length else KS p l:=by
 unfold KS;cases ha:p a with
 |false=>rw[oq ha];simp only[gO,false_and,bR];by_cases h:(l.filter p).length=0
         ·rw[ax h,ax h]
         ·rw[ay h,ay h];have:l.findIdx p<l.length:=by rw[List.findIdx_lt_length];obtain⟨x,hx⟩:=List.exists_mem_of_length_pos (Nat.pos_of_ne_zero h);exact⟨x,(ky.1 hx).1,(ky.1 hx).2⟩
          rw[BM,ax this]
 |true=>
  rw[iL ha];by_cases h:(l.filter p).length=0
  ·simp only[h,nJ,bh,cK,dE,oG];have hn:l.findIdx p=l.length:=by
    rw[List.findIdx_eq_length];intro x hx;cases hp:p x with
    |false=>rfl
    |true=>have:x∈l.filter p:=ky.2 ⟨hx,hp⟩;rw[jR.1 h]at this;cases this
   rw[b8,BM,b8];simp[List.findIdx_cons,ha]
  ·simp only[h,and_false,bR];have:l.findIdx p<l.length:=by rw[List.findIdx_lt_length];obtain⟨x,hx⟩:=List.exists_mem_of_length_pos (Nat.pos_of_ne_zero h);exact⟨x,(ky.1 hx).1,(ky.1 hx).2⟩
   rw[ay (by rw[cK];simp),BM,ax this]
def eL(sec:Int)(q:Lb):Bool:=decide ((q.1:Int)=sec)
def rI(v:cA)(sec:Int):Int×Int×Int:=if(fp v).2=0 then
 if((je v.az).filter (eL sec)).length=0 then(0,0,4)else((KS (eL sec) (je v.az):Nat),(((je v.az).filter (eL sec)).length:Nat),0)
 else(0,0,(fp v).2)
def PF{v:cA}{sv:ae}{W:AW}{sec:Int}(hs:eY W sv v.az)(hv:v.az.length<1000)(hr:∀s∈v.az,s.rows.length<1000):bm (.func (.func 167) #[] #[]) [fc v sv,.af sec,.af (-1)] W=some (.tuple #[.af (rI v sec).1,.af (rI v sec).2.1,.af (rI v sec).2.2],W):=by
 refine bT rfl ?_ EV;unfold Dj rI;obtain⟨W1,hB,a8,hn,c4,c0,c3⟩:=gF v sv W;simp only[SX,hB,c4 _ (.refl _),vn (hs.mono a8) hv hr];by_cases he:(fp v).2=0;case neg=>simp only[SX,he,bR,am];exact⟨aA,a8⟩
 obtain⟨hg,-⟩:=eJ he;obtain⟨r,W2,q1,q2,q3⟩:=uO (hs.mono a8) hg;have oa:=rH hg;have htm:=yQ hg;simp only[SX,aS he,ax he,q1];have lh:∀(k:Nat) (W':AW),k<1000000->aw Tryz.prog .add 3 false true (.af (k:Int)) (.af 1) W'=some (.af ((k+1:Nat):Int),W'):=λk W' hk=>da (by omega) (by omega)
 generalize hl:je v.az=l at *;have Ev:∀i,((l.take i).filter (eL sec)).length<=l.length:=λi=>gQ (List.length_filter_le _ _) (by rw[dF];omega)
 refine bY l.length (by omega) (λi R W'=>W'=W2/\R 1=.af sec/\R 2=.af (-1)/\R 11=.af ((KS (eL sec) (l.take i):Nat):Int)/\R 12=.af (((l.take i).filter (eL sec)).length:Int)/\R 13=r/\R 14=.af (i:Int))
  (λq=>q.2.2=W2/\q.1=.exit 0/\q.2.1 11=.af ((KS (eL sec) l:Nat):Int)/\q.2.1 12=.af ((l.filter (eL sec)).length:Int)) ⟨rfl,rfl,rfl,rfl,rfl,rfl,rfl⟩ ?_ ?_ ?_
 ·rintro i R W' hi ⟨rfl,f1,f2,yI,Sn,f13,f14⟩;unfold qg;have e1:((i:Int)<(l.length:Int)):=by omega
  obtain⟨b,o,p1,p2⟩:=q3.get hi;obtain⟨p3,p4,p5⟩:=p2 W' (.refl _);have ht:l.take (i+1)=l.take i++[l[i]]:=by rw[sq,cL hi];rfl
  have hti:(l.take i).length=i:=by rw[dF];omega
  have Et:=RC (p:=eL sec) (l:=l.take i) (a:=l[i]);rw[hti,<-ht]at Et;simp only[SX,f1,f2,f13,f14,q3.len Xy,e1,p1,cC,p3];by_cases t1:(l[i].1:Int)=sec;case neg=>have hp:eL sec l[i]=false:=bq t1;rw[hp]at Et;simp only[gO,false_and,bR]at Et;simp only[SX,t1,FY,lh i _ (by omega),am];exact .inl ⟨aA,aA,f1,f2,by rw[Et];exact yI,by rw[ht,oq hp];exact Sn,f13,rfl⟩
  have hp:eL sec l[i]=true:=aS t1;rw[hp]at Et;simp only[true_and]at Et;have hc:=Ev i;simp only[SX,aS t1,Sn];by_cases t2:((l.take i).filter (eL sec)).length=0
  ·have t3:(((l.take i).filter (eL sec)).length:Int)=0:=by omega
   rw[ax t2]at Et;simp only[SX,aS t3,lh i _ (by omega),lh ((l.take i).filter (eL sec)).length _ (by omega),am];refine .inl ⟨aA,aA,f1,f2,by rw[Et];rfl,?_,f13,rfl⟩;rw[ht,iL hp,cK];rfl
  ·have t3:¬(((l.take i).filter (eL sec)).length:Int)=0:=by omega
   rw[ay t2]at Et;simp only[SX,t3,lh i _ (by omega),lh ((l.take i).filter (eL sec)).length _ (by omega),am];refine .inl ⟨aA,aA,f1,f2,by rw[Et];exact yI,?_,f13,rfl⟩;rw[ht,iL hp,cK];rfl
 ·rintro R W' ⟨rfl,f1,f2,yI,Sn,f13,f14⟩;unfold qg;have e1:¬((l.length:Int)<(l.length:Int)):=by omega
  rw[dd]at yI Sn;simp only[SX,f13,f14,q3.len Xy,e1,am];exact⟨by simp,aA,aA,yI,Sn⟩
 ·rintro⟨x,R,W'⟩ ⟨hW,hx,yI,Sn⟩;simp only at hW hx yI Sn;subst hW;subst hx;simp only[SX,Sn];by_cases t2:(l.filter (eL sec)).length=0
  ·have t3:((l.filter (eL sec)).length:Int)=0:=by omega
   simp only[SX,aS t3,ax t2,am];exact⟨aA,a8.trans q2⟩
  ·have t3:¬((l.filter (eL sec)).length:Int)=0:=by omega
   simp only[SX,t3,ay t2,yI,am];exact⟨aA,a8.trans q2⟩
def Kq{v:cA}{sv:ae}{W:AW}{sec:Int}(hs:eY W sv v.az)(hv:v.az.length<1000)(hr:∀s∈v.az,s.rows.length<1000):bm (.func (.func 142) #[] #[]) [fc v sv,.af sec] W=some (.tuple #[.af (rI v sec).1,.af (rI v sec).2.1,.af (rI v sec).2.2],W):=by refine bT rfl ?_ KW;unfold Ir;obtain⟨W1,hB,a8,hn,c4,c0,c3⟩:=gF v sv W;simp only[SX,hB,c4 _ (.refl _),PF (hs.mono a8) hv hr,am];exact⟨aA,a8⟩
def lA(r:fV):List Lb:=td r.sec r.row r.many.toNat
def nP(r:fV):(lA r).length=r.many.toNat:=by simp[lA,td]
def QW(r:fV){i:Nat}(h:i<r.many.toNat):(lA r)[i]? =some (r.sec,r.row,i):=by unfold lA td;rw[jh,B4 h];rfl
def Ap:∀{L:List fV} {s bX:Int},jk s L->(∀r∈L,1<=r.many)->s<=bX->bX<s+dB L->
 ∃r,L.find? (ta bX)=some r/\(L.flatMap lA)[(bX-s).toNat]? =some (r.sec,r.row,(bX-r.first).toNat)
 |[],s,bX,_,_,h1,h2=>by rw[i6]at h2;omega
 |r::L,s,bX,⟨hf,hF⟩,hm,h1,h2=>by
  have hr:=hm r (by simp);rw[dr]at h2;by_cases h:bX<s+r.many
  ·refine⟨r,?_,?_⟩
   ·rw[List.find?_cons_of_pos];unfold ta;simp only[bK,mM];omega
   ·rw[iD,tB (by rw[nP];omega),QW _ (by omega),hf]
  ·obtain⟨x,x1,x2⟩:=Ap (s:=s+r.many) hF (λy hy=>hm y (by simp[hy])) (by omega) (by omega:bX<s+r.many+dB L);refine⟨x,?_,?_⟩
   ·rw[List.find?_cons_of_neg,x1];unfold ta;simp only[bK,mM];omega
   ·rw[iD,gb (by rw[nP];omega),nP];rw[show(bX-s).toNat-r.many.toNat=(bX-(s+r.many)).toNat by omega];exact x2
def xe:∀{L:List fV} {s bX:Int},jk s L->(∀r∈L,1<=r.many)->(bX<s\/s+dB L<=bX)->L.find? (ta bX)=none
 |[],_,_,_,_,_=>rfl
 |r::L,s,bX,⟨hf,hF⟩,hm,h=>by
  have hr:=hm r (by simp);rw[dr]at h;have hp:=nX (l:=L) (λy hy=>hm y (by simp[hy]));rw[List.find?_cons_of_neg]
  ·exact xe hF (λy hy=>hm y (by simp[hy])) (by omega)
  ·unfold ta;simp only[bK,mM];omega
def Gb{sec:Int}{r:fV}(h:dP sec r=true):∀q∈lA r,eL sec q=true:=by intro q hq;unfold lA td at hq;obtain⟨j,_,rfl⟩:=kq.1 hq;exact h
def IT{sec:Int}{r:fV}(h:dP sec r=false):∀q∈lA r,eL sec q=false:=by intro q hq;unfold lA td at hq;obtain⟨j,_,rfl⟩:=kq.1 hq;exact h
def wV{sec:Int}:∀{L:List fV},(∀r∈L,1<=r.many)->(((L.flatMap lA).filter (eL sec)).length:Int)=dB (L.filter (dP sec))
 |[],_=>rfl
 |r::L,hm=>by
  have hr:=hm r (by simp);have ih:=wV (sec:=sec) (L:=L) (λy hy=>hm y (by simp[hy]));rw[iD,B6,cK,List.filter_cons];cases h:dP sec r with
  |true=>rw[ax rfl,dr,<-ih,List.filter_eq_self.2 (Gb h),nP];omega
  |false=>rw[ay (by simp),<-ih,List.filter_eq_nil_iff.2 (λq hq=>by rw[IT h q hq];simp)];simp
def wR{sec:Int}:∀{L:List fV} {s:Int} {r0:fV} {l0:List fV},jk s L->(∀r∈L,1<=r.many)->L.filter (dP sec)=r0::l0->s+((L.flatMap lA).findIdx (eL sec):Int)=r0.first
 |[],_,_,_,_,_,h=>by cases h
 |r::L,s,r0,l0,⟨hf,hF⟩,hm,h=>by
  have hr:=hm r (by simp);rw[iD];rw[List.filter_cons]at h;cases hs:dP sec r with
  |true=>
   rw[hs,ax rfl]at h;injection h with h1 h2;subst h1;have:((lA r++L.flatMap lA).findIdx (eL sec))=0:=by
    cases hc:lA r with
    |nil=>have:=nP r;rw[hc]at this;simp at this;omega
    |cons q l=>have:=Gb hs q (by rw[hc];simp);rw[qj,List.findIdx_cons,this];rfl
   rw[this];omega
  |false=>
   rw[hs,ay (by simp)]at h;have ih:=wR hF (λy hy=>hm y (by simp[hy])) h;have hn:(lA r).findIdx (eL sec)=(lA r).length:=by rw[List.findIdx_eq_length];intro x hx;exact IT hs x hx
   rw[BM,hn,b8,nP];omega
def Uo(v:cA)(sec:Int):rI v sec=sW v sec:=by
 unfold rI sW;by_cases he:(fp v).2=0;case neg=>rw[ay he,ay he]
 rw[ax he,ax he];obtain⟨hg,-⟩:=eJ he;have hm:∀x∈dn v.az,1<=x.many:=λx hx=>((kR hx).many hg).1
 have hc:=wV (sec:=sec) hm;have oa:(dn v.az).flatMap lA=je v.az:=(Au v.az).symm;rw[oa]at hc;by_cases h0:((je v.az).filter (eL sec)).length=0
 ·rw[ax h0,ou]
 ·rw[ay h0,b8];have hf:((KS (eL sec) (je v.az):Nat):Int)=Nx ((dn v.az).filter (dP sec)):=by
   unfold KS;rw[ay h0];cases hl:(dn v.az).filter (dP sec)with
   |nil=>rw[hl]at hc;rw[i6]at hc;omega
   |cons r l=>have:=wR (py v.az) hm hl;rw[oa]at this;show _=r.first;omega
  rw[hf,hc]
def zA(v:cA)(bX:Int):Lb×Int:=if(jG v).2=0 then(if bX<0\/(jG v).1<=bX then((0,0,0),4)else((je v.az).getD bX.toNat (0,0,0),0))else((0,0,0),(jG v).2)
def Po(v:cA)(bX:Int):zA v bX=bI v bX:=by
 unfold zA bI eN jG;by_cases he:(fp v).2=0;case neg=>simp only[ay he]
 simp only[ax he,bh];obtain⟨hg,-⟩:=eJ he;have hm:∀x∈dn v.az,1<=x.many:=λx hx=>((kR hx).many hg).1
 have oa:(dn v.az).flatMap lA=je v.az:=(Au v.az).symm;by_cases h:bX<0\/dQ v.az<=bX
 ·rw[ax h,xe (py v.az) hm (by rw[xI];omega)];rfl
 ·rw[ay h];obtain⟨r,r1,r2⟩:=Ap (py v.az) hm (by omega:0<=bX) (by rw[xI];omega);rw[oa,Int.sub_zero]at r2;rw[r1,iz,r2];rfl
def Ar{v:cA}{sv:ae}{W:AW}{bX:Int}(hs:eY W sv v.az)(hv:v.az.length<1000)(hr:∀s∈v.az,s.rows.length<1000):bm (.func (.func 107) #[] #[]) [fc v sv,.af bX] W=some (.tuple #[Zn (bI v bX).1,.af (bI v bX).2],W):=by
 rw[<-Po];refine bT rfl ?_ Dy;unfold AD zA;obtain⟨W1,hB,a8,hn,c4,c0,c3⟩:=gF v sv W;obtain⟨W2,b2,n2,l2,r2⟩:=KY W1;have P1:=a8.next;have ju:=a8.trans l2;simp only[SX,hB,b2,c4 _ l2,Kk (hs.mono ju) hv hr];by_cases he:(jG v).2=0;case neg=>simp only[SX,he,bR,FY,Oj,yw r2,eT,Q8,ld3 (bF _),bp,am];exact⟨rfl,ju.put (by omega) _⟩
 have e40:¬((4:Int)=0):=by decide
 simp only[SX,aS he,ax he];by_cases t1:bX<0
 ·simp only[SX,aS t1,ax (Or.inl t1:bX<0\/(jG v).1<=bX),e40,Oj,yw r2,eT,Q8,ld3 (bF _),bp,am];exact⟨rfl,ju.put (by omega) _⟩
 by_cases t2:(jG v).1<=bX
 ·simp only[SX,bq t1,aS t2,ax (Or.inr t2:bX<0\/(jG v).1<=bX),e40,Oj,yw r2,eT,Q8,ld3 (bF _),bp,am];exact⟨rfl,ju.put (by omega) _⟩
 have hvz:(fp v).2=0:=by
  unfold jG at he;split at he
  ·assumption
  ·exact he
 have nS:(jG v).1=dQ v.az:=by unfold jG;rw[ax hvz]
 obtain⟨hg,-⟩:=eJ hvz;obtain⟨r,W3,q1,q2,q3⟩:=uO (hs.mono ju) hg;have oa:=rH hg;have gZ:bX.toNat<(je v.az).length:=by omega
 obtain⟨b,o,p1,p2⟩:=q3.get gZ;obtain⟨-,-,p5⟩:=p2 W3 (.refl _);have ZK:=λW'=>p1 W' .i64
 rw[xL (by omega)]at ZK;have cx:aH W3 W1.next=some [.af 0,.af 0,.af 0]:=by rw[q2.aH (by omega)];exact r2
 simp only[SX,bq t1,bq t2,ay (λh=>h.elim t1 t2:¬(bX<0\/(jG v).1<=bX)),c4 _ l2,q1,ZK,p5,yw cx,eT,Q8,ld3 (bF _),bp,am];exact⟨by rw[iz,cL gZ];rfl,(ju.trans q2).put (by omega) _⟩
def JV{v:cA}{sv:ae}{W:AW}{bX:Int}(hs:eY W sv v.az)(hv:v.az.length<1000)(hr:∀s∈v.az,s.rows.length<1000):bm (.func (.func 108) #[] #[]) [fc v sv,.af bX] W=some (.tuple #[.af (fG v bX).1,.af (fG v bX).2],W):=by
 refine bT rfl ?_ DY;unfold Af fG;obtain⟨W1,hB,a8,hn,c4,c0,c3⟩:=gF v sv W;obtain⟨W3,b3,n3,l3,r3⟩:=KY W1;have P1:=a8.next;simp only[SX,hB,b3,c4 _ (.refl _),Ar (hs.mono a8) hv hr,yw r3];have hpe:(bI v bX).2=(eN v bX).2:=by
  unfold bI;by_cases he:(eN v bX).2=0
  ·rw[ax he,he]
  ·rw[ay he]
 rw[hpe];by_cases he:(eN v bX).2=0;case neg=>simp only[SX,he,bR,am];exact⟨aA,(a8.trans l3).put (by omega) _⟩
 obtain⟨h1,h2,h3,h4,h5⟩:=si he;obtain⟨k1,k2,k3,k4,k5,-,-⟩:=BB (eJ h1).1 h2;have IK:=gA h1;have ea:∀W',aw Tryz.prog .rem 3 false false (.af bX) (.af v.sh) W'=some (.af (bX % v.sh),W'):=λW'=>by rw[xU (by omega),BF (by omega)]
 simp only[SX,aS he,ax he,aI,c0 _ (l3.put (aP _) _),ea,am];exact⟨aA,(a8.trans l3).put (by omega) _⟩
def oB{v:cA}{sv:ae}{W:AW}{sec:Int}(hs:eY W sv v.az)(hv:v.az.length<1000)(hr:∀s∈v.az,s.rows.length<1000):bm (.func (.func 105) #[] #[]) [fc v sv,.af sec] W=some (.tuple #[.af (eC v sec).1,.af (eC v sec).2],W):=by
 refine bT rfl ?_ ET;unfold CN eC;obtain⟨W1,hB,a8,hn,c4,c0,c3⟩:=gF v sv W;simp only[SX,hB,c4 _ (.refl _),Kq (hs.mono a8) hv hr,Uo];by_cases he:(sW v sec).2.2=0;case neg=>simp only[SX,he,bR,am];exact⟨aA,a8⟩
 obtain⟨h1,h2,h3,-⟩:=oz he;have IK:=gA h1;have ea:∀W',aw Tryz.prog .add 3 false false (.af v.sh) (.af sec) W'=some (.af (v.sh+sec),W'):=λW'=>da (by omega) (by omega)
 simp only[SX,aS he,ax he,aI,c0 _ (.refl _),ea,am];exact⟨aA,a8⟩
def CV(sh fi:Int)(m:Nat)(s:Nat):Bool:=(List.range m).any λ(i:Nat)=>decide ((fi+(i:Int)) % sh=(s:Int))
def RU(sh fi:Int)(m s:Nat):CV sh fi (m+1) s=(CV sh fi m s||decide ((fi+(m:Int)) % sh=(s:Int))):=by simp[CV,ol]
def jj(sh fi:Int)(m:Nat)(k:Nat):List Int:=((List.range k).filter (CV sh fi m)).map λ(s:Nat)=>(s:Int)
def JO(sh fi:Int)(m k:Nat):jj sh fi m (k+1)=if CV sh fi m k=true then jj sh fi m k++[(k:Int)]else jj sh fi m k:=by
 unfold jj;rw[ol];cases h:CV sh fi m k with
 |true=>rw[iL h,ax rfl,mU];rfl
 |false=>rw[oq h,ay (by simp)]
def LW(sh fi:Int)(m k:Nat):(jj sh fi m k).length<=k:=by unfold jj;rw[gR];have:=List.length_filter_le (CV sh fi m) (List.range k);rwa [sR]at this
def Oc{sh fi:Int}{m:Nat}(IK:1<=sh)(hfi:0<=fi):jj sh fi m sh.toNat=jZ (ws sh fi (min (m:Int) sh).toNat):=by
 have hp:(jj sh fi m sh.toNat).Pairwise λa b=>a<b:=by unfold jj;rw[BK];exact(BQ.filter _).imp λh=>by omega
 have hn1:(jj sh fi m sh.toNat).Nodup:=hp.imp λh=>by omega
 have hn2:(ws sh fi (min (m:Int) sh).toNat).Nodup:=by unfold ws List.Nodup;rw[BK];refine List.Pairwise.imp_of_mem ?_ (BQ (n:=(min (m:Int) sh).toNat));intro i j hi hj hij he;rw[pW]at hi hj;have h1:=Int.emod_emod_of_dvd (fi+(j:Int)) (Int.dvd_refl sh);have h2:=(Int.emod_eq_emod_iff_emod_sub_eq_zero).1 he.symm;rw[show fi+(j:Int)-(fi+(i:Int))=(j:Int)-i by omega,Int.emod_eq_of_lt (by omega) (by omega)]at h2;omega
 have aiK:(ws sh fi (min (m:Int) sh).toNat).Perm (jj sh fi m sh.toNat):=by
  rw[List.perm_ext_iff_of_nodup hn2 hn1];intro a;unfold ws jj CV;simp only[kq,pW,ky,uL,mM];constructor
  ·rintro⟨i,hi,rfl⟩;have h1:=Int.emod_nonneg (fi+(i:Int)) (by omega:sh≠0);have h2:=yc (fi+(i:Int)) (by omega:0<sh);exact⟨((fi+(i:Int)) % sh).toNat,⟨by omega,i,by omega,by omega⟩,by omega⟩
  ·rintro⟨s,⟨hs,i,hi,he⟩,rfl⟩;by_cases hc:(m:Int)<=sh
   ·exact⟨i,by omega,he⟩
   ·have h1:=Int.emod_nonneg (i:Int) (by omega:sh≠0);have h2:=yc (i:Int) (by omega:0<sh);refine⟨((i:Int) % sh).toNat,by omega,?_⟩;rw[xL h1,Int.add_emod_emod];exact he
 refine List.Perm.eq_of_pairwise (le:=λa b=>a<=b) (λa b _ _ h1 h2=>by omega) (hp.imp λh=>by omega) ?_ (aiK.symm.trans (List.mergeSort_perm _ _).symm);refine(List.pairwise_mergeSort (le:=λx y:Int=>decide (x<=y)) ?_ ?_ _).imp λh=>tz h
 ·intro a b c h1 h2;have:=tz h1;have:=tz h2;exact jr
 ·intro a b;by_cases h:a<=b
  ·rw[aS h];rfl
  ·rw[aS (show b<=a by omega),vb]
def Kp{v:cA}{sv:ae}{W:AW}{sec:Int}(hs:eY W sv v.az)(hv:v.az.length<1000)(hr:∀s∈v.az,s.rows.length<1000):∃u W2,bm (.func (.func 106) #[] #[]) [fc v sv,.af sec] W=some (.tuple #[u,.af (gM v sec).2],W2)/\Le W W2/\kr W2 u (gM v sec).1:=by
 refine pZ ?_ C1;unfold Ag gM;obtain⟨W1,hB,a8,hn,c4,c0,c3⟩:=gF v sv W;have P1:=a8.next;simp only[SX,hB,c4 _ (.refl _),Kq (hs.mono a8) hv hr,Uo];by_cases he:(sW v sec).2.2=0;case neg=>simp only[SX,he,bR,am];exact⟨_,rfl,a8,Row.nil⟩
 obtain⟨h1,h2,h3,-⟩:=oz he;obtain⟨b1,b2,b3,b4⟩:=zj he;have IK:=gA h1;generalize hfm:sW v sec=fm at *;obtain⟨fi,ma,er⟩:=fm;simp only at he b1 b2 b3 b4|-;subst he;obtain⟨m,rfl⟩:∃m:Nat,ma=(m:Int):=⟨ma.toNat,by omega⟩;simp only[SX,bh];rw[<-Oc IK.1 b1];have lh:∀(k:Int) (W':AW),0<=k->k<1000000->aw Tryz.prog .add 3 false true (.af k) (.af 1) W'=some (.af (k+1),W'):=λk W' _ hk=>da (by omega) (by omega)
 have efm:∀W',aw Tryz.prog .add 3 false false (.af fi) (.af (m:Int)) W'=some (.af (fi+(m:Int)),W'):=λW'=>da (by omega) (by omega)
 refine bY v.sh.toNat (by omega) (λk R W'=>Le W1 W'/\R 2=.pointer (some ⟨W.next,0,none⟩)/\R 6=.af fi/\R 7=.af (m:Int)/\R 10=.af (k:Int)/\∃u,R 9=u/\pk W1.next W' 1 jE u (jj v.sh fi m k))
  (λr=>Le W1 r.2.2/\r.1=.exit 0/\∃u,r.2.1 9=u/\pk W1.next r.2.2 1 jE u (jj v.sh fi m v.sh.toNat)) ⟨.refl _,rfl,rfl,rfl,rfl,_,rfl,.nil _ _ _ _⟩ ?_ ?_ ?_
 ·rintro k R W' hk ⟨hl,f2,f6,f7,xV,u,f9,hL⟩;unfold oO;have e1:((k:Int)<v.sh):=by omega
  have hkl:=LW v.sh fi m k;have e2:(k:Int)+1=((k+1:Nat):Int):=by omega
  simp only[SX,f2,f6,xV,aI,c0 _ hl,e1];refine bY m (by omega) (λj R W2=>W2=W'/\R 2=.pointer (some ⟨W.next,0,none⟩)/\R 6=.af fi/\R 7=.af (m:Int)/\R 10=.af (k:Int)/\R 9=u/\R 11=.bool (CV v.sh fi j k)/\R 12=.af (fi+(j:Int)))
   (λr=>r.1=.exit 2/\r.2.2=W'/\r.2.1 2=.pointer (some ⟨W.next,0,none⟩)/\r.2.1 6=.af fi/\r.2.1 7=.af (m:Int)/\r.2.1 10=.af (k:Int)/\r.2.1 9=u/\r.2.1 11=.bool (CV v.sh fi m k)) ⟨rfl,f2,f6,f7,xV,f9,rfl,by show Value.int .i64 fi=_;congr 1;omega⟩ ?_ ?_ ?_
  ·rintro j R W2 hj ⟨rfl,f2,f6,f7,xV,f9,yI,Sn⟩;unfold kb;have e3:(fi+(j:Int)<fi+(m:Int)):=by omega
   have er:∀W',aw Tryz.prog .rem 3 false false (.af (fi+(j:Int))) (.af v.sh) W'=some (.af ((fi+(j:Int)) % v.sh),W'):=λW'=>by rw[xU (by omega),BF (by omega)]
   have e4:fi+(j:Int)+1=fi+((j+1:Nat):Int):=by omega
   have hh:=RU v.sh fi j k;simp only[SX,f2,f6,f7,xV,Sn,efm,e3,aI,c0 _ hl,er];by_cases t:(fi+(j:Int)) % v.sh=(k:Int)
   ·rw[aS t,vb]at hh;simp only[SX,aS t,lh (fi+(j:Int)) _ (by omega) (by omega),am];exact .inl ⟨aA,aA,f2,f6,f7,xV,f9,by rw[hh];rfl,by rw[<-e4];rfl⟩
   ·rw[bq t,Bool.or_false]at hh;simp only[SX,bq t,lh (fi+(j:Int)) _ (by omega) (by omega),am];exact .inl ⟨aA,aA,f2,f6,f7,xV,f9,by rw[hh];exact yI,by rw[<-e4];rfl⟩
  ·rintro R W2 ⟨rfl,f2,f6,f7,xV,f9,yI,Sn⟩;unfold kb;have e3:¬(fi+(m:Int)<fi+(m:Int)):=by omega
   simp only[SX,f6,f7,Sn,efm,e3,am];exact⟨by simp,aA,aA,f2,f6,f7,xV,f9,yI⟩
  ·rintro⟨x,R,W2⟩ ⟨hx,hW,f2,f6,f7,xV,f9,yI⟩;simp only at hx hW f2 f6 f7 xV f9 yI;subst hx;subst hW;have hc:=JO v.sh fi m k;simp only[SX,yI];cases hb:CV v.sh fi m k
   ·rw[hb,ay (by simp)]at hc;simp only[SX,xV,lh (k:Int) _ (by omega) (by omega),am];exact .inl ⟨aA,hl,f2,f6,f7,by rw[<-e2];rfl,u,f9,by rw[hc];exact hL⟩
   ·rw[hb,ax rfl]at hc;have P8:=hL.mono ((Le.refl W2).add (.cells [.af (k:Int)]));obtain⟨v',W3,q1,q2,q3,q4⟩:=pk.push (P:=Tryz.prog) (a:=(k:Int)) (b:=W2.next) (c:=1) EK rC xG P8 bE (by omega) (by omega) (by rw[AW.aG];have:=hl.next;omega);simp only[SX,f9,xV,Cw,q1,lh (k:Int) _ (by omega) (by omega),am];exact .inl ⟨aA,q4 _ (hl.add _) (aP _),f2,f6,f7,by rw[<-e2];rfl,_,rfl,by rw[hc];exact q2⟩
 ·rintro R W' ⟨hl,f2,f6,f7,xV,u,f9,hL⟩;unfold oO;have e1:¬((v.sh.toNat:Int)<v.sh):=by omega
  simp only[SX,f2,xV,aI,c0 _ hl,e1,am];exact⟨by simp,hl,aA,u,f9,hL⟩
 ·rintro⟨x,R,W'⟩ ⟨hl,hx,u,f9,hL⟩;simp only at hl hx f9 hL;subst hx;simp only[SX,f9,am];exact⟨_,rfl,a8.trans hl,hL.ints⟩
def g27:Tryz.prog.eqGuardType Tryz.prog.depth 41=false:=by kernel_rfl
def ur(r:Option Bool):List (Int×Int)->Option Bool
 |[]=>r
 |p::l=>match some (p.1==p.2)with
  |some true=>ur r l
  |some false=>some false
  |none=>none
def qG(b:Bool):∀l:List (Int×Int),ur (some b) l=some ((l.all λp=>p.1==p.2)&&b)
 |[]=>rfl
 |p::l=>by
  unfold ur;cases h:p.1==p.2 with
  |true=>simp only[fa,h,jK];exact qG b l
  |false=>simp only[fa,h,kP]
def q27(k ow un se sc n to t1 t2 t3 t4 nw k' ow' un' se' sc' n' to' Ms NT WZ WT Yd:Int):Ba Tryz.prog 8 41 (.agg (fy k ow un se sc n to t1 t2 t3 t4 nw)) (.agg (fy k' ow' un' se' sc' n' to' Ms NT WZ WT Yd))=
 ur (match lB [(t1,Ms),(t2,NT),(t3,WZ),(t4,WT)]with|some true=>lB [(nw,Yd)]|some false=>some false|none=>none) [(k,k'),(ow,ow'),(un,un'),(se,se'),(sc,sc'),(n,n'),(to,to')]:=by kernel_rfl
def aey(k ow un se sc n to t1 t2 t3 t4 nw k' ow' un' se' sc' n' to' Ms NT WZ WT Yd:Int):Bool:=
 ([(k,k'),(ow,ow'),(un,un'),(se,se'),(sc,sc'),(n,n'),(to,to')]:List (Int×Int)).all (λp=>p.1==p.2)&&(([(t1,Ms),(t2,NT),(t3,WZ),(t4,WT)]:List (Int×Int)).all (λp=>p.1==p.2)&&([(nw,Yd)]:List (Int×Int)).all (λp=>p.1==p.2))
def aeC(k ow un se sc n to t1 t2 t3 t4 nw k' ow' un' se' sc' n' to' Ms NT WZ WT Yd:Int)(c d:Bool)(W:AW):
 aw Tryz.prog .neq 41 c d (.agg #[.af k,.int .u32 ow,.af un,.af se,.af sc,.af n,.int .u32 to,.int .u32 t1,.int .u32 t2,.int .u64 t3,.int .u64 t4,.af nw]) (.agg #[.af k',.int .u32 ow',.af un',.af se',.af sc',.af n',.int .u32 to',.int .u32 Ms,.int .u32 NT,.int .u64 WZ,.int .u64 WT,.af Yd]) W=
  some (.bool (!aey k ow un se sc n to t1 t2 t3 t4 nw k' ow' un' se' sc' n' to' Ms NT WZ WT Yd),W):=by
 refine hX g27 ((q27 ..).trans ?_);have h:(match lB [(t1,Ms),(t2,NT),(t3,WZ),(t4,WT)]with|some true=>lB [(nw,Yd)]|some false=>some false|none=>none)=some (([(t1,Ms),(t2,NT),(t3,WZ),(t4,WT)]:List (Int×Int)).all (λp=>p.1==p.2)&&([(nw,Yd)]:List (Int×Int)).all (λp=>p.1==p.2)):=by
  rw[kh];cases([(t1,Ms),(t2,NT),(t3,WZ),(t4,WT)]:List (Int×Int)).all (λp=>p.1==p.2)with
  |true=>rw[jK];exact kh _
  |false=>rfl
 rw[h,qG];rfl
def e1:∀b0 b1 b2 b3 b4 b5 b6 b7:Bool,Fg b0 b1 b2 b3 b4 b5 b6 b7 1=if(b1||(b2||(b3||(b4||(b5||(b6||b7))))))=true then 2 else 0:=by decide+kernel
def e7:∀b0 b1 b2 b3 b4 b5 b6 b7:Bool,Fg b0 b1 b2 b3 b4 b5 b6 b7 7=if(b3||(b4||(b5||(b6||b7))))=true then 2 else 0:=by decide+kernel
def e27:∀b0 b1 b2 b3 b4 b5 b6 b7:Bool,Fg b0 b1 b2 b3 b4 b5 b6 b7 27=if(b2||(b5||(b6||b7)))=true then 2 else 0:=by decide+kernel
def e99:∀b0 b1 b2 b3 b4 b5 b6 b7:Bool,Fg b0 b1 b2 b3 b4 b5 b6 b7 99=if(b2||(b3||(b4||b7)))=true then 2 else 0:=by decide+kernel
def e67:∀b0 b1 b2 b3 b4 b5 b6 b7:Bool,Fg b0 b1 b2 b3 b4 b5 b6 b7 67=if(b2||(b3||(b4||(b5||b7))))=true then 2 else 0:=by decide+kernel
def e64:∀b0 b1 b2 b3 b4 b5 b6 b7:Bool,Fg b0 b1 b2 b3 b4 b5 b6 b7 64=if(b0||(b1||(b2||(b3||(b4||(b5||b7))))))=true then 2 else 0:=by decide+kernel
def e11:∀b0 b1 b2 b3 b4 b5 b6 b7:Bool,Fg b0 b1 b2 b3 b4 b5 b6 b7 11=if(b2||(b4||(b5||(b6||b7))))=true then 2 else 0:=by decide+kernel
def am9:∀b0 b1 b2 b3 b4 b5 b6 b7:Bool,Fg b0 b1 b2 b3 b4 b5 b6 b7 128=if(b0||(b1||(b2||(b3||(b4||(b5||b6))))))=true then 2 else 0:=by decide+kernel
def afU(W:AW):aY Tryz.prog 41 W=some (.pointer (some ⟨W.next,0,none⟩),W.add (.cells [.af 0,.int .u32 0,.af 0,.af 0,.af 0,.af 0,.int .u32 0,.int .u32 0,.int .u32 0,.int .u64 0,.int .u64 0,.af 0])):=aJ (by kernel_rfl) rfl
def ag7(k:Int)(W:AW):bD Tryz.prog 41 [(0,.af k)] W=some (.agg #[.af k,.int .u32 0,.af 0,.af 0,.af 0,.af 0,.int .u32 0,.int .u32 0,.int .u32 0,.int .u64 0,.int .u64 0,.af 0],W):=aJ (by kernel_rfl) rfl
def aiE{ρ:Type}{c:Bool}{a b:ρ}{G:ρ->Prop}(h1:c=false->G a)(h2:c=true->G b):Ok (aQ (!c) (some a) (some b)) G:=by
 cases c with
 |false=>exact am.2 (h1 rfl)
 |true=>exact am.2 (h2 rfl)
def MT(k ow un se sc n to t1 t2 t3 t4 nw:Int)(W:AW):Ok (pv bm (.agg (fy k ow un se sc n to t1 t2 t3 t4 nw)) W) λr=>r.1=.af (sG k ow un se sc n to t1 t2 t3 t4 nw)/\Le W r.2:=by
 by_cases hk:k<1\/12<k
 ·have h1:∀m:Int,1<=m/\m<=12->decide (k=m)=false:=λm h1=>dS
  unfold pv fy;simp(maxDischargeDepth:=9) only[SX,MX,HX,Nat.reduceAdd,Nat.reduceLeDiff,Nat.reduceLT,afU,ag7,dI,kI,gT,h1 1 (by decide),h1 2 (by decide),h1 3 (by decide),h1 4 (by decide),h1 5 (by decide),h1 6 (by decide),h1 7 (by decide),h1 8 (by decide),h1 9 (by decide),h1 10 (by decide),h1 11 (by decide),h1 12 (by decide)];unfold sG;rw[ax hk]
 obtain rfl|rfl|rfl|rfl|rfl|rfl|rfl|rfl|rfl|rfl|rfl|rfl:k=1\/k=2\/k=3\/k=4\/k=5\/k=6\/k=7\/k=8\/k=9\/k=10\/k=11\/k=12:=by omega
 all_goals
  unfold pv fy sG JB
  simp(maxDischargeDepth:=9) only[SX,MX,HX,Nat.reduceAdd,Nat.reduceLeDiff,Nat.reduceLT,afU,ag7,aeC,gI,Int.reduceEq,dI,kI,gT]
  refine aiE (λhb=>?_) (λhb=>?_)
  all_goals
   refine⟨cR (Value.int .i64) ?_,by simp(maxDischargeDepth:=9) only[HX]⟩
   rw[b8]
   simp only[Nd,Int.reduceToNat,List.getD_cons_succ,List.getD_cons_zero,e1,e7,e11,e27,e64,e67,e99,am9]
   unfold aey at hb
   simp only[fa,mf,iM,mV,bK,mn,tD,B8,Bool.and_eq_false_iff,beq_eq_false_iff_ne,true_and,and_true,ne_eq,ve,false_or,or_false]at hb|-
   split<;>first|rfl|(exfalso;omega)
def AY(k ow un se sc n to t1 t2 t3 t4 nw:Int)(W:AW):bm (.func (.func 79) #[] #[]) [.agg (fy k ow un se sc n to t1 t2 t3 t4 nw)] W=some (.af (sG k ow un se sc n to t1 t2 t3 t4 nw),W):=
 bT rfl (MT k ow un se sc n to t1 t2 t3 t4 nw W) CI
def Ma(k se sc t1 e:Int):Int×Int×Int:=
 if e≠0 then(0,0,e)else if k=2\/k=4\/k=5\/k=8 then(se,-1,0)else if k=6\/k=7\/k=9 then(IntKind.i64.wrap t1,-1,0)else if k=3\/k=10\/k=11 then(-1,sc,0)else(-1,-1,0)
def X6(x:Int×Int×Int):ae:=.tuple #[.af x.1,.af x.2.1,.af x.2.2]
def NY(n:Int)(W:AW):FT Tryz.prog 36 3 (.int .u32 n) W=some (.af (IntKind.i64.wrap n),W):=aJ (by kernel_rfl) rfl
def na(a b:Int):Int:=IntKind.i64.wrap ↑(BitVec.ofInt IntKind.i64.bits a&&&BitVec.ofInt IntKind.i64.bits b).toNat
def RV{t:ai}{c d:Bool}{a b:Int}{W:AW}:aw Tryz.prog .and t c d (.af a) (.af b) W=some (.af (na a b),W):=UD
def aiQ:na 1 4=0/\na 1 64=0/\na 1 8=0/\na 7 4=4/\na 7 64=0/\na 7 8=0/\na 11 4=0/\na 11 64=0/\na 11 8=8/\na 27 4=0/\na 27 64=0/\na 27 8=8/\na 64 4=0/\na 64 64=64/\na 64 8=0/\na 67 4=0/\na 67 64=64/\na 67 8=0/\na 99 4=0/\na 99 64=64/\na 99 8=0/\na 128 4=0/\na 128 64=0/\na 128 8=0:=by decide+kernel
def CL(k:Int):k=1\/k=2\/k=3\/k=4\/k=5\/k=6\/k=7\/k=8\/k=9\/k=10\/k=11\/k=12\/k<1\/12<k:=by omega
def O6{k ow un se sc n to t1 t2 t3 t4 nw:Int}(hk:k<1\/12<k):sG k ow un se sc n to t1 t2 t3 t4 nw=2:=ax hk
def EF(k ow un se sc n to t1 t2 t3 t4 nw:Int){W:AW}(hG:GW W):bm (.func (.func 66) #[] #[]) [.agg (fy k ow un se sc n to t1 t2 t3 t4 nw)] W=some (X6 (Ma k se sc t1 (sG k ow un se sc n to t1 t2 t3 t4 nw)),W):=by
 refine bT rfl ?_ Bq;have hP:∀o,bm (.func (.func 75) #[] #[]) [.agg (fy k ow un se sc n to t1 t2 t3 t4 nw)] (W.add o)=some (.af (sG k ow un se sc n to t1 t2 t3 t4 nw),W.add o):=λo=>yn k ow un se sc n to t1 t2 t3 t4 nw (hG.mono ((Le.refl W).add o))
 have hU:∀o,aL (W.add o) 0=some rz:=λo=>GW.cells (hG.mono ((Le.refl W).add o))
 have hp:=hG.pos;have ix:∀(i:Int) (U:AW),0<=i/\i<13->Gt 13 1 (.pointer (some ⟨0,0,none⟩)) (.af i) U=some (.pointer (some ⟨0,i.toNat,none⟩),U):=λi U hi=>by have:=OQ (len:=13) (z:=1) (b:=0) (o:=0) (n:=i) (k:=.i64) (W:=U) hi.1 (by omega);simpa using this
 have h0:¬(0=W.next):=by omega
 have hUW:=hG.cells;unfold fy at hP;unfold w7 fy Ma;by_cases he:sG k ow un se sc n to t1 t2 t3 t4 nw=0;case neg=>have d:=bq he;simp(maxDischargeDepth:=9) only[SX,MX,HX,Nat.reduceAdd,hP,d,ax he];rfl
 obtain rfl|rfl|rfl|rfl|rfl|rfl|rfl|rfl|rfl|rfl|rfl|rfl|h:=CL k;rotate_right
 ·rw[O6 h]at he;cases he
 all_goals
  simp(maxDischargeDepth:=9) only[SX,MX,HX,Nat.reduceAdd,hP,he,ix,hU,rz,Nd,jd,mO,RV,Int.reduceToNat,Int.reduceLT,Int.reduceLE,Int.reduceEq,aiQ,NY]
  simp[X6]
def Hi(k ow un se sc n to t1 t2 t3 t4 nw:Int)(W:AW):bm (.func (.func 104) #[] #[]) [.agg (fy k ow un se sc n to t1 t2 t3 t4 nw)] W=some (X6 (Ma k se sc t1 (sG k ow un se sc n to t1 t2 t3 t4 nw)),W):=by
 refine bT rfl ?_ Bw;have hP:∀o,bm (.func (.func 79) #[] #[]) [.agg (fy k ow un se sc n to t1 t2 t3 t4 nw)] (W.add o)=some (.af (sG k ow un se sc n to t1 t2 t3 t4 nw),W.add o):=λo=>AY k ow un se sc n to t1 t2 t3 t4 nw (W.add o)
 unfold fy at hP;unfold xK fy Ma;by_cases he:sG k ow un se sc n to t1 t2 t3 t4 nw=0;case neg=>have d:=bq he;simp(maxDischargeDepth:=9) only[SX,MX,HX,Nat.reduceAdd,hP,d,ax he];rfl
 obtain rfl|rfl|rfl|rfl|rfl|rfl|rfl|rfl|rfl|rfl|rfl|rfl|h:=CL k;rotate_right
 ·rw[O6 h]at he;cases he
 all_goals
  simp(maxDischargeDepth:=9) only[SX,MX,HX,Nat.reduceAdd,hP,he,Int.reduceEq,NY,jx,jz,ii]
  simp[X6]
structure qS where
 k:Int
 ow:Int
 un:Int
 se:Int
 sc:Int
 n:Int
 to:Int
 t1:Int
 t2:Int
 t3:Int
 t4:Int
 nw:Int
abbrev z8(o:qS):ae:=.agg (fy o.k o.ow o.un o.se o.sc o.n o.to o.t1 o.t2 o.t3 o.t4 o.nw)
def jL(o:qS):Int×Int×Int:=Ma o.k o.se o.sc o.t1 (sG o.k o.ow o.un o.se o.sc o.n o.to o.t1 o.t2 o.t3 o.t4 o.nw)
def Lt{k ow un se sc n to t1 t2 t3 t4 nw:Int}(h:sG k ow un se sc n to t1 t2 t3 t4 nw=0):1<=k/\k<=12:=by
 unfold sG at h;split at h
 ·exact absurd h (by decide)
 ·omega
def CW{o:qS}(h:(jL o).2.2=0):1<=o.k/\o.k<=12:=by
 have he:sG o.k o.ow o.un o.se o.sc o.n o.to o.t1 o.t2 o.t3 o.t4 o.nw=0:=by
  unfold jL Ma at h;split at h
  ·exact h
  ·rename_i h2;exact sk.1 h2
 exact Lt he
def LJ(o:qS){W:AW}(h:GW W):bm (.func (.func 66) #[] #[]) [z8 o] W=some (.tuple #[.af (jL o).1,.af (jL o).2.1,.af (jL o).2.2],W):=EF _ _ _ _ _ _ _ _ _ _ _ _ h
def QU(o:qS)(W:AW):bm (.func (.func 104) #[] #[]) [z8 o] W=some (.tuple #[.af (jL o).1,.af (jL o).2.1,.af (jL o).2.2],W):=Hi _ _ _ _ _ _ _ _ _ _ _ _ W
def fz(v:cA)(k s c:Int):List Int:=
 if k=12 then(List.range (v.sh.toNat+v.az.length)).map λ(i:Nat)=>(i:Int)
 else if k=3 then(gM v c).1
 else if k=4\/k=7\/k=8 then(if(bI v s).2=0 then [(fG v s).1,(eC v ((bI v s).1.1:Int)).1]else [])
 else if k=2\/k=5\/k=6\/k=9 then(if(bI v s).2=0 then [(fG v s).1]else [])
 else if k=10\/k=11 then(if(eC v c).2=0 then [(eC v c).1]else [])
 else []
def bZ(v:cA)(o:qS):List Int×Int:=if(fp v).2=0 then(if(jL o).2.2=0 then(fz v o.k (jL o).1 (jL o).2.1,0)else([],(jL o).2.2))else([],(fp v).2)
def Iw(o:qS)(W:AW):∃W1,cD (z8 o) W=some (.pointer (some ⟨W.next,0,none⟩),W1)/\W1.next=W.next+1/\Le W W1/\(∀W',Le W1 W'->bA 12 (.pointer (some ⟨W.next,0,none⟩)) W'=some (z8 o,W'))/\(∀W',Le W1 W'->aK (.pointer (some ⟨W.next,0,none⟩)) W'=some (.af o.k,W')):=by
 have hc:aL (W.add (.cells (fy o.k o.ow o.un o.se o.sc o.n o.to o.t1 o.t2 o.t3 o.t4 o.nw).toList)) W.next=some (fy o.k o.ow o.un o.se o.sc o.n o.to o.t1 o.t2 o.t3 o.t4 o.nw).toList:=bE;have hn:W.next<(W.add (.cells (fy o.k o.ow o.un o.se o.sc o.n o.to o.t1 o.t2 o.t3 o.t4 o.nw).toList)).next:=by rw[AW.aG];omega
 exact⟨_,gD _,AW.aG _ _,(Le.refl W).add _,λW' k=>mh (by rw[k.aL hn];exact hc) rfl,λW' k=>df (by rw[k.aL hn];exact hc) rfl⟩
def pY(v:cA)(s:Int):(fG v s).2=(bI v s).2:=by
 unfold fG bI;by_cases he:(eN v s).2=0
 ·rw[ax he,ax he]
 ·rw[ay he,ay he]
def Dp(v:cA)(c:Int):(gM v c).2=(eC v c).2:=by
 unfold gM eC;by_cases he:(sW v c).2.2=0
 ·rw[ax he,ax he]
 ·rw[ay he,ay he]
def wh{v:cA}{c:Int}(h:¬(gM v c).2=0):(gM v c).1=[]:=by
 unfold gM at h|-;by_cases he:(sW v c).2.2=0
 ·rw[ax he]at h;exact absurd rfl h
 ·rw[ay he]
def Is:((#[22]:Array ai)[0]?).bind Tryz.prog.underlying=some (.slice 66):=by kernel_rfl
def ajf(x:Int)(W:AW):kr (W.add (.cells [.af x])) (.slice (some ⟨W.next,0,none⟩) 1 (gU+1)) [x]:=xw [x] _ W
def ahP(x y:Int)(W:AW):kr (W.add (.cells [.af x,.af y])) (.slice (some ⟨W.next,0,none⟩) 2 (gU+1)) [x,y]:=xw [x,y] _ W
def N5(x:Int)(W:AW):kr (W.add (.cells [.af x])) (.slice (some ⟨W.next,0,none⟩) 1 1) [x]:=xw [x] _ W
def WJ(x:Int)(W:AW):aN Tryz.prog (W.add (.cells [.af x])) #[64,64] (.slice none 0 0) (.slice (some ⟨W.next,0,none⟩) 1 1)=some (.slice (some ⟨(W.add (.cells [.af x])).next,0,none⟩) 1 (gU+1),(W.add (.cells [.af x])).add (.cells [.af x])):=
 B7 EK bE rfl rfl (by omega) rfl (by omega) (by omega)
def Zq(a:Option Addr)(W:AW):aN Tryz.prog W #[64,64] (.slice a 1 1) (.slice none 0 0)=some (.slice a 1 1,W):=Tu EK (by omega) (by omega) (by omega)
def ada(x y:Int){W:AW}{b c:Nat}(h:aL W b=some [.af y])(hb:b<W.next):aN Tryz.prog (W.add (.cells [.af x])) #[64,64] (.slice (some ⟨W.next,0,none⟩) 1 1) (.slice (some ⟨b,0,none⟩) 1 c)=some (.slice (some ⟨(W.add (.cells [.af x])).next,0,none⟩) 2 (gU+1),(W.add (.cells [.af x])).add (.cells [.af x,.af y])):=
 NP (n:=1) (m:=1) (o:=0) EK (by rw[tR _ hb];exact h) rfl rfl (by omega) rfl bE rfl (by omega) (by omega) (by omega)
def Od(v:cA)(s c:Int):fz v 1 s c=[]:=by simp[fz]
def Pc(v:cA)(s c:Int):fz v 3 s c=(gM v c).1:=by simp[fz]
def Pb(v:cA)(s c:Int):fz v 4 s c=(if(bI v s).2=0 then [(fG v s).1,(eC v ((bI v s).1.1:Int)).1]else []):=by simp[fz]
def Pa(v:cA)(s c:Int):fz v 7 s c=(if(bI v s).2=0 then [(fG v s).1,(eC v ((bI v s).1.1:Int)).1]else []):=by simp[fz]
def Ov(v:cA)(s c:Int):fz v 8 s c=(if(bI v s).2=0 then [(fG v s).1,(eC v ((bI v s).1.1:Int)).1]else []):=by simp[fz]
def OB(v:cA)(s c:Int):fz v 2 s c=(if(bI v s).2=0 then [(fG v s).1]else []):=by simp[fz]
def OC(v:cA)(s c:Int):fz v 5 s c=(if(bI v s).2=0 then [(fG v s).1]else []):=by simp[fz]
def N2(v:cA)(s c:Int):fz v 6 s c=(if(bI v s).2=0 then [(fG v s).1]else []):=by simp[fz]
def OK(v:cA)(s c:Int):fz v 9 s c=(if(bI v s).2=0 then [(fG v s).1]else []):=by simp[fz]
def I0(v:cA)(s c:Int):fz v 10 s c=(if(eC v c).2=0 then [(eC v c).1]else []):=by simp[fz]
def KG(v:cA)(s c:Int):fz v 11 s c=(if(eC v c).2=0 then [(eC v c).1]else []):=by simp[fz]
def DN(n:Nat):List Int:=(List.range n).map λ(i:Nat)=>(i:Int)
def Fz(n:Nat):DN (n+1)=DN n++[(n:Int)]:=by simp[DN,ol]
def xp(n:Nat):(DN n).length=n:=by simp[DN]
def Jj(v:cA)(s c:Int):fz v 12 s c=DN (v.sh.toNat+v.az.length):=by simp[fz,DN]
def yo{v:cA}{o:qS}{sv:ae}{W:AW}(hs:fJ W sv v.az)(hv:v.az.length<1000)(hG:GW W):
 ∃u W2,bm (.func (.func 101) #[] #[]) [fc v sv,z8 o] W=some (.tuple #[u,.af (bZ v o).2],W2)/\Le W W2/\kr W2 u (bZ v o).1:=by
 refine pZ ?_ Dk;unfold AV bZ;obtain⟨W1,hB,a8,hn,c4,c0,c3⟩:=gF v sv W;obtain⟨W2,b2,n2,l2,UM,k0⟩:=Iw o W1;have ju:=a8.trans l2;have P1:=a8.next;have nI:=hs.mono ju;simp only[SX,hB,b2,c4 _ l2,pB nI hv];by_cases he:(fp v).2=0;case neg=>simp only[SX,he,bR,am];exact⟨_,rfl,ju,Row.nil⟩
 simp only[SX,aS he,ax he,UM _ (.refl _),LJ o (hG.mono ju)];by_cases ht:(jL o).2.2=0;case neg=>simp only[SX,ht,bR,am];exact⟨_,rfl,ju,Row.nil⟩
 have hk:=CW ht;simp only[SX,aS ht,ax ht,aI,k0 _ (.refl _)];clear ht UM k0 b2;generalize(jL o).1=s,(jL o).2.1=c,o.k=kk at *;have F0:kk=1\/kk=3\/kk=12\/(kk=2\/kk=5\/kk=6\/kk=9)\/(kk=4\/kk=7\/kk=8)\/(kk=10\/kk=11):=by omega
 rcases F0 with rfl|rfl|rfl|F0|F0|F0
 ·rw[Od];simp only[SX,Int.reduceEq,am];exact⟨_,rfl,ju,Row.nil⟩
 ·rw[Pc];obtain⟨u,W4,q1,q2,q3⟩:=T0 (sec:=c) nI hv;simp only[SX,Int.reduceEq,c4 _ l2,q1];by_cases hc:(gM v c).2=0
  ·simp only[SX,aS hc,am];exact⟨_,rfl,ju.trans q2,q3⟩
  ·rw[wh hc];simp only[SX,hc,am];exact⟨_,rfl,ju.trans q2,Row.nil⟩
 ·rw[Jj];have IK:=gA he;have ea:∀W',aw Tryz.prog .add 3 false false (.af v.sh) (.af (v.az.length:Int)) W'=some (.af ((v.sh.toNat+v.az.length:Nat):Int),W'):=λW'=>by rw[da (by omega) (by omega)];congr 3;omega
  simp only[SX,c0 _ l2,c3 _ l2,nI.1.len Is,ea];generalize hm:v.sh.toNat+v.az.length=m at *;refine bY m (by omega) (λi R W'=>Le W2 W'/\R 63=.af (m:Int)/\R 64=.af (i:Int)/\∃u,R 11=u/\pk W2.next W' 1 jE u (DN i))
   (λr=>Le W2 r.2.2/\r.1=.exit 6/\∃u,r.2.1 11=u/\pk W2.next r.2.2 1 jE u (DN m)) ⟨.refl _,rfl,rfl,_,rfl,.nil _ _ _ _⟩ ?_ ?_ ?_
  ·rintro i R W' hi ⟨hl,f63,f64,u,yI,hL⟩;unfold oP;have e1:((i:Int)<(m:Int)):=by omega
   have eb:∀W',aw Tryz.prog .add 3 false true (.af (i:Int)) (.af 1) W'=some (.af ((i+1:Nat):Int),W'):=λW'=>da (by omega) (by omega)
   have P8:=hL.mono ((Le.refl W').add (.cells [.af (i:Int)]));obtain⟨v',W3,q1,q2,q3,q4⟩:=pk.push (P:=Tryz.prog) (a:=(i:Int)) (b:=W'.next) (c:=1) EK rC xG P8 bE (by rw[xp];omega) (by rw[xp];omega) (by rw[AW.aG];have:=hl.next;omega);simp only[SX,f63,f64,yI,e1,Cw,q1,eb,am];exact .inl ⟨aA,q4 _ (hl.add _) (aP _),f63,rfl,_,rfl,by rw[Fz];exact q2⟩
  ·rintro R W' ⟨hl,f63,f64,u,yI,hL⟩;unfold oP;have e1:¬((m:Int)<(m:Int)):=by omega
   simp only[SX,f63,f64,e1,am];exact⟨by simp,hl,aA,u,yI,hL⟩
  ·rintro⟨x,R,W'⟩ ⟨hl,hx,u,yI,hL⟩;simp only at hl hx yI hL;subst hx;simp only[SX,yI,am];exact⟨_,rfl,ju.trans hl,hL.ints⟩
 ·rcases F0 with rfl|rfl|rfl|rfl<;>(
   first|rw[OB]|rw[OC]|rw[N2]|rw[OK]
   simp only[SX,Int.reduceEq,c4 _ l2,Ef nI hv,pY]
   by_cases hp:(bI v s).2=0
   ·simp only[SX,aS hp,ax hp,Cw,Zq,am];exact⟨_,rfl,ju.add _,N5 _ _⟩
   ·simp only[SX,hp,bR,am];exact⟨_,rfl,ju,Row.nil⟩)
 ·obtain⟨W3,b3,n3,l3,r3⟩:=KY W2;have Se:=l3.put (aP _) (.cells [.af ((bI v s).1.1:Int),.af ((bI v s).1.2.1:Int),.af ((bI v s).1.2.2:Int)]);have rX:=bF (W:=W3) (b:=W2.next) [.af ((bI v s).1.1:Int),.af ((bI v s).1.2.1:Int),.af ((bI v s).1.2.2:Int)];have hk4:fz v kk s c=(if(bI v s).2=0 then [(fG v s).1,(eC v ((bI v s).1.1:Int)).1]else []):=by
   rcases F0 with rfl|rfl|rfl
   ·exact Pb _ _ _
   ·exact Pa _ _ _
   ·exact Ov _ _ _
  rw[hk4];rcases F0 with rfl|rfl|rfl<;>(
   simp only[SX,Int.reduceEq,c4 _ l2,Tw nI hv,b3,yw r3]
   generalize W3.put W2.next (.cells [.af ((bI v s).1.1:Int),.af ((bI v s).1.2.1:Int),.af ((bI v s).1.2.2:Int)])=X at *
   by_cases hp:(bI v s).2=0
   ·simp only[SX,aS hp,ax hp,c4 _ (l2.trans Se),aI,Bg (o:=0) rX rfl,Ol (nI.mono Se) hv,Cw,WJ];have lY:=(Se.add (.cells [.af (eC v ((bI v s).1.1:Int)).1])).add (.cells [.af (eC v ((bI v s).1.1:Int)).1]);have hY:aL ((X.add (.cells [.af (eC v ((bI v s).1.1:Int)).1])).add (.cells [.af (eC v ((bI v s).1.1:Int)).1])) (X.add (.cells [.af (eC v ((bI v s).1.1:Int)).1])).next=some [.af (eC v ((bI v s).1.1:Int)).1]:=bE;have hY2:(X.add (.cells [.af (eC v ((bI v s).1.1:Int)).1])).next<((X.add (.cells [.af (eC v ((bI v s).1.1:Int)).1])).add (.cells [.af (eC v ((bI v s).1.1:Int)).1])).next:=Nat.lt_of_lt_of_eq (Nat.lt_succ_self _) (AW.aG _ _).symm;generalize(X.add (.cells [.af (eC v ((bI v s).1.1:Int)).1])).add (.cells [.af (eC v ((bI v s).1.1:Int)).1])=Y at *;simp only[SX,c4 _ (l2.trans lY),Ef (nI.mono lY) hv,pY,aS hp,Cw,ada _ _ hY hY2,am];exact⟨_,rfl,((ju.trans lY).add _).add _,ahP _ _ _⟩
   ·simp only[SX,hp,bR,c4 _ (l2.trans Se),Ef (nI.mono Se) hv,pY,am];exact⟨_,rfl,ju.trans Se,Row.nil⟩)
 ·rcases F0 with rfl|rfl<;>(
   first|rw[I0]|rw[KG]
   simp only[SX,Int.reduceEq,c4 _ l2,Ol nI hv]
   by_cases hp:(eC v c).2=0
   ·simp only[SX,aS hp,ax hp,Cw,WJ,am];exact⟨_,rfl,(ju.add _).add _,ajf _ _⟩
   ·simp only[SX,hp,bR,am];exact⟨_,rfl,ju,Row.nil⟩)
def abC(a b:Int)(W:AW):aD Tryz.prog 64 2 [(0,.af a),(1,.af b)] W=some (.slice (some ⟨W.next,0,none⟩) 2 2,W.add (.cells [.af a,.af b])):=aJ (by kernel_rfl) rfl
def Zs(x y:Int)(W:AW):kr (W.add (.cells [.af x,.af y])) (.slice (some ⟨W.next,0,none⟩) 2 2) [x,y]:=xw [x,y] _ W
def Px{o:qS}(h:(jL o).2.2=0):((o.k=3\/o.k=10\/o.k=11)/\(jL o).1= -1)\/((o.k=1\/o.k=12)/\(jL o).1= -1/\(jL o).2.1= -1)\/((o.k=2\/o.k=4\/o.k=5\/o.k=8\/o.k=6\/o.k=7\/o.k=9)/\(jL o).2.1= -1):=by
 have hr:=CW h;unfold jL Ma at h|-;split at h
 ·rename_i h2;exact absurd h h2
 rename_i h2;rw[ay h2];split
 ·exact .inr (.inr ⟨by omega,rfl⟩)
 split
 ·exact .inr (.inr ⟨by omega,rfl⟩)
 split
 ·exact .inl ⟨by omega,rfl⟩
 ·exact .inr (.inl ⟨by omega,rfl,rfl⟩)
def Kf{v:cA}{o:qS}{sv:ae}{W:AW}(hs:eY W sv v.az)(hv:v.az.length<1000)(hr:∀s∈v.az,s.rows.length<1000):
 ∃u W2,bm (.func (.func 80) #[] #[]) [fc v sv,z8 o] W=some (.tuple #[u,.af (bZ v o).2],W2)/\Le W W2/\kr W2 u (bZ v o).1:=by
 refine pZ ?_ D7;unfold Aw bZ;obtain⟨W1,hB,a8,hn,c4,c0,c3⟩:=gF v sv W;obtain⟨W2,b2,n2,l2,UM,k0⟩:=Iw o W1;have ju:=a8.trans l2;have P1:=a8.next;have nI:=hs.mono ju;simp only[SX,hB,b2,c4 _ l2,vn nI hv hr];by_cases he:(fp v).2=0;case neg=>simp only[SX,he,bR,am];exact⟨_,rfl,ju,Row.nil⟩
 simp only[SX,aS he,ax he,UM _ (.refl _),QU o];by_cases ht:(jL o).2.2=0;case neg=>simp only[SX,ht,bR,am];exact⟨_,rfl,ju,Row.nil⟩
 have hk:=Px ht;simp only[SX,aS ht,ax ht,aI,k0 _ (.refl _)];clear ht UM b2;generalize(jL o).1=s,(jL o).2.1=c,o.k=kk at *;have k0':∀W',Le W2 W'->aK (.pointer (some ⟨W1.next,0,none⟩)) W'=some (.af kk,W'):=k0;clear k0;rcases hk with⟨F0,rfl⟩|⟨F0,rfl,rfl⟩|⟨F0,rfl⟩
 ·
  have ge1:¬((0:Int)<= -1):=by decide
  rcases F0 with rfl|F0
  ·rw[Pc];obtain⟨u,W4,q1,q2,q3⟩:=Kp (sec:=c) nI hv hr;by_cases XO:0<=c
   ·simp only[SX,Int.reduceEq,k0' _ (.refl _),aS XO,c4 _ l2,oB nI hv hr,<-Dp];by_cases hc:(gM v c).2=0
    ·simp only[SX,q1,hc,am];exact⟨_,rfl,ju.trans q2,q3⟩
    ·rw[wh hc];simp only[SX,hc,am];exact⟨_,rfl,ju,Row.nil⟩
   ·simp only[SX,Int.reduceEq,k0' _ (.refl _),bq XO,c4 _ l2,oB nI hv hr,<-Dp];by_cases hc:(gM v c).2=0
    ·simp only[SX,q1,hc,am];exact⟨_,rfl,ju.trans q2,q3⟩
    ·rw[wh hc];simp only[SX,hc,am];exact⟨_,rfl,ju,Row.nil⟩
  ·rcases F0 with rfl|rfl<;>(
    first|rw[I0]|rw[KG]
    by_cases XO:0<=c
    ·simp only[SX,Int.reduceEq,k0' _ (.refl _),aS XO,c4 _ l2,oB nI hv hr];by_cases hp:(eC v c).2=0
     ·simp only[SX,aS hp,ax hp,Cw,am];exact⟨_,rfl,ju.add _,N5 _ _⟩
     ·simp only[SX,hp,bR,am];exact⟨_,rfl,ju,Row.nil⟩
    ·simp only[SX,Int.reduceEq,k0' _ (.refl _),bq XO,c4 _ l2,oB nI hv hr];by_cases hp:(eC v c).2=0
     ·simp only[SX,aS hp,ax hp,Cw,am];exact⟨_,rfl,ju.add _,N5 _ _⟩
     ·simp only[SX,hp,bR,am];exact⟨_,rfl,ju,Row.nil⟩)
 ·rcases F0 with rfl|rfl
  ·rw[Od];simp only[SX,Int.reduceEq,am];exact⟨_,rfl,ju,Row.nil⟩
  ·rw[Jj];have IK:=gA he;have ea:∀W',aw Tryz.prog .add 3 false false (.af v.sh) (.af (v.az.length:Int)) W'=some (.af ((v.sh.toNat+v.az.length:Nat):Int),W'):=λW'=>by rw[da (by omega) (by omega)];congr 3;omega
   simp only[SX];refine bY (v.sh.toNat+v.az.length) (by omega) (λi R W'=>Le W2 W'/\R 2=.pointer (some ⟨W.next,0,none⟩)/\R 11=.af (i:Int)/\∃u,R 10=u/\pk W2.next W' 1 jE u (DN i))
    (λr=>Le W2 r.2.2/\r.1=.exit 0/\∃u,r.2.1 10=u/\pk W2.next r.2.2 1 jE u (DN (v.sh.toNat+v.az.length))) ⟨.refl _,rfl,rfl,_,rfl,.nil _ _ _ _⟩ ?_ ?_ ?_
   ·rintro i R W' hi ⟨hl,f2,yI,u,xV,hL⟩;unfold oF;have e1:((i:Int)<((v.sh.toNat+v.az.length:Nat):Int)):=by omega
    have eb:∀W',aw Tryz.prog .add 3 false true (.af (i:Int)) (.af 1) W'=some (.af ((i+1:Nat):Int),W'):=λW'=>da (by omega) (by omega)
    have P8:=hL.mono ((Le.refl W').add (.cells [.af (i:Int)]));obtain⟨v',W3,q1,q2,q3,q4⟩:=pk.push (P:=Tryz.prog) (a:=(i:Int)) (b:=W'.next) (c:=1) EK rC xG P8 bE (by rw[xp];omega) (by rw[xp];omega) (by rw[AW.aG];have:=hl.next;omega);simp only[SX,f2,yI,xV,aI,c0 _ (l2.trans hl),c3 _ (l2.trans hl),(nI.mono hl).len Is,ea,e1,Cw,q1,eb,am];exact .inl ⟨aA,q4 _ (hl.add _) (aP _),f2,rfl,_,rfl,by rw[Fz];exact q2⟩
   ·rintro R W' ⟨hl,f2,yI,u,xV,hL⟩;unfold oF;have e1:¬(((v.sh.toNat+v.az.length:Nat):Int)<((v.sh.toNat+v.az.length:Nat):Int)):=by omega
    simp only[SX,f2,yI,aI,c0 _ (l2.trans hl),c3 _ (l2.trans hl),(nI.mono hl).len Is,ea,e1,am];exact⟨by simp,hl,aA,u,xV,hL⟩
   ·rintro⟨x,R,W'⟩ ⟨hl,hx,u,xV,hL⟩;simp only at hl hx xV hL;subst hx;simp only[SX,xV,am];exact⟨_,rfl,ju.trans hl,hL.ints⟩
 ·
  have ge1:¬((0:Int)<= -1):=by decide
  obtain⟨W3,b3,n3,l3,r3⟩:=KY W2;have Se:=l3.put (aP _) (.cells [.af ((bI v s).1.1:Int),.af ((bI v s).1.2.1:Int),.af ((bI v s).1.2.2:Int)]);have rX:=bF (W:=W3) (b:=W2.next) [.af ((bI v s).1.1:Int),.af ((bI v s).1.2.1:Int),.af ((bI v s).1.2.2:Int)];rcases F0 with rfl|rfl|rfl|rfl|rfl|rfl|rfl<;>(
   first|rw[OB]|rw[Pb]|rw[OC]|rw[Ov]|rw[N2]|rw[Pa]|rw[OK]
   simp only[SX,Int.reduceEq,aI,k0' _ (.refl _),ge1,c4 _ l2,Ar nI hv hr,b3,yw r3]
   generalize W3.put W2.next (.cells [.af ((bI v s).1.1:Int),.af ((bI v s).1.2.1:Int),.af ((bI v s).1.2.2:Int)])=X at *
   by_cases hp:(bI v s).2=0
   ·simp only[SX,Int.reduceEq,aS hp,ax hp,k0' _ Se,c4 _ (l2.trans Se),JV (nI.mono Se) hv hr,Bg (o:=0) rX rfl,oB (nI.mono Se) hv hr,Cw,abC,am];exact⟨_,rfl,(ju.trans Se).add _,by first|exact N5 _ _|exact Zs _ _ _⟩
   ·simp only[SX,hp,bR,am];exact⟨_,rfl,ju.trans Se,Row.nil⟩)
def FL:((#[64]:Array ai)[0]?).bind Tryz.prog.underlying=some (.slice 3):=by kernel_rfl
def PG(v:cA)(he:(fp v).2=0)(k s c:Int):(fz v k s c).length<=24:=by
 have IK:=gA he;have hg:=(eJ he).1.len;unfold fz;split
 ·rw[gR,sR];omega
 split
 ·unfold gM;split
  ·rw[uK,uh];omega
  ·simp
 split
 ·split<;>simp
 split
 ·split<;>simp
 split
 ·split<;>simp
 ·simp
def sM(v:cA)(o:qS):(bZ v o).1.length<=24:=by
 unfold bZ;split
 ·rename_i he;split
  ·exact PG v he _ _ _
  ·simp
 ·simp
def g46:Tryz.prog.eqGuardType Tryz.prog.depth 135=false:=by kernel_rfl
def q46(a b a' b':Int):Ba Tryz.prog 8 135 (.agg #[.af a,.af b]) (.agg #[.af a',.af b'])=lB [(a,a'),(b,b')]:=by kernel_rfl
def FG(a b a' b':Int)(c d:Bool)(W:AW):aw Tryz.prog .neq 135 c d (.agg #[.af a,.af b]) (.agg #[.af a',.af b']) W=some (.bool (!(a==a'&&b==b')),W):=by refine hX g46 ((q46 ..).trans ?_);rw[kh];simp
abbrev Ig:=Int×Int
abbrev EH(p:Ig):ae:=.agg #[.af p.1,.af p.2]
def JK(p:Ig):List ae:=[.af p.1,.af p.2]
def aal(cs:List ae)(p:Nat)(a:Ig):Prop:=cs[p]? =some (.af a.1)/\cs[p+1]? =some (.af a.2)
def xE(p:Ig):(JK p).length=2:=rfl
def En(p:Ig):(JK p).all Eng.one=true:=rfl
def Xr(a:Ig)(pre post:List ae):aal (pre++(JK a++post)) pre.length a:=by refine⟨?_,?_⟩<;>(rw[gb (by omega)];simp[JK])
abbrev Zk(W:AW)(v:ae)(l:List Ig):Prop:=Row W 2 aal v l
def adF:iR Tryz.prog #[130,130] 2 16=true:=by kernel_rfl
def ZA:((#[130]:Array ai)[0]?).bind Tryz.prog.underlying=some (.slice 135):=by kernel_rfl
def Lj(a b:Int)(W:AW):bD Tryz.prog 135 [(0,.af a),(1,.af b)] W=some (EH (a,b),W):=aJ (by kernel_rfl) rfl
def Og(a:Int)(W:AW):bD Tryz.prog 135 [(0,.af a)] W=some (EH (a,0),W):=aJ (by kernel_rfl) rfl
def ZM(W:AW):bD Tryz.prog 135 [] W=some (EH (0,0),W):=aJ (by kernel_rfl) rfl
def aaY(a b:Int)(W:AW):aD Tryz.prog 130 1 [(0,.agg #[.af a,.af b])] W=some (.slice (some ⟨W.next,0,none⟩) 1 1,W.add (.cells [.af a,.af b])):=aJ (by kernel_rfl) rfl
def UI(W:AW):aY Tryz.prog 135 W=some (.pointer (some ⟨W.next,0,none⟩),W.add (.cells [.af 0,.af 0])):=aJ (by kernel_rfl) rfl
def adY(x:ae)(W:AW):iV Tryz.prog 135 x W=bA 2 x W:=by kernel_rfl
def ahF(W:AW):∃W1,aY Tryz.prog 135 W=some (.pointer (some ⟨W.next,0,none⟩),W1)/\W1.next=W.next+1/\Le W W1/\aH W1 W.next=some [.af 0,.af 0]:=⟨_,UI W,AW.aG _ _,(Le.refl W).add _,cg⟩
def ld2{b:Nat}{x y:ae}{W:AW}(h:aH W b=some [x,y]):bA 2 (.pointer (some ⟨b,0,none⟩)) W=some (.agg #[x,y],W):=mh (fR h) rfl
def DJ{b:Nat}{a c:Int}{x y:ae}{W:AW}(h:aH W b=some [x,y]):bP 2 (.pointer (some ⟨b,0,none⟩)) (.agg #[.af a,.af c]) W=some (ag,W.put b (.cells [.af a,.af c])):=by rw[vf,h,bp,ax ⟨rfl,by simp,by simp[kA]⟩];rfl
def Zk.get{W:AW}{v:ae}{l:List Ig}(h:Zk W v l){i:Nat}(hi:i<l.length):∃b o,(∀W' k,gn 2 v (.int k (i:Int)) W'=some (.pointer (some ⟨b,o,none⟩),W'))/\∀W',Le W W'->bA 2 (.pointer (some ⟨b,o,none⟩)) W'=some (EH l[i],W'):=by
 obtain⟨a,c,rfl,h⟩:=h;rcases h with rfl|⟨b,o,cs,rfl,hb,hc,mE⟩
 ·simp at hi
 ·refine⟨b,o+i*2,λW' k=>sf hi,λW' a8=>?_⟩;have sX:=(a8.aL hb).trans hc;obtain⟨h1,h2⟩:=mE i hi;rw[zJ,sX,bp];have:(cs.drop (o+i*2)).take 2=[.af l[i].1,.af l[i].2]:=by
   apply rR;intro j;rw[mb];match j with
   |0=>simpa using h1
   |1=>simpa using h2
   |j+2=>simp;omega
  rw[this];rfl
def dJ(l:List Int)(i:Nat):Ig:=if i<l.length then(1,l.getD i 0)else if i=l.length then(2,0)else(3,l.getD (2*l.length-i) 0)
def od(l:List Int)(k:Nat):List Ig:=(l.take k).map λx=>(1,x)
def qt(l:List Int)(k:Nat):List Ig:=(List.range k).map λj=>(3,l.getD (l.length-1-j) 0)
def Na(l:List Int):List Ig:=od l l.length++[(2,0)]++qt l l.length
def KQ(l:List Int){k:Nat}(hk:k<l.length):od l (k+1)=od l k++[(1,l[k])]:=by unfold od;rw[sq,cL hk,mU];rfl
def Ja(l:List Int)(k:Nat):qt l (k+1)=qt l k++[(3,l.getD (l.length-1-k) 0)]:=by unfold qt;rw[ol,mU];rfl
def jJ(l:List Int)(k:Nat)(h:k<=l.length):(od l k).length=k:=by unfold od;rw[gR,dF];omega
def Ea(l:List Int)(k:Nat):(qt l k).length=k:=by simp[qt]
def Dq(l:List Int):(Na l).length=2*l.length+1:=by unfold Na;rw[cK,cK,jJ l _ (aP _),Ea];simp;omega
def Ub(l:List Int){i:Nat}(hi:i<2*l.length+1):(Na l)[i]? =some (dJ l i):=by
 unfold Na dJ;have ht:=jJ l _ (aP l.length);by_cases h1:i<l.length
 ·rw[ax h1,jQ,tB (by omega)];unfold od;rw[dd,jh,cL h1,iz,cL h1];rfl
 ·rw[ay h1];by_cases h2:i=l.length
  ·rw[ax h2,jQ,gb (by omega),ht,h2,pT];rfl
  ·rw[ay h2,gb (by rw[cK,ht];simp;omega),cK,ht];unfold qt;rw[jh,B4 (by simp;omega)];simp only[cS,dE,oG];congr 3;omega
def km(v:cA)(o:qS):Int×Int:=if(bZ v o).2=0 then(2*((bZ v o).1.length:Int)+1,0)else(0,(bZ v o).2)
def iK(v:cA)(o:qS)(i:Int):Ig×Int:=if(bZ v o).2=0 then(if 0<=i/\i<2*((bZ v o).1.length:Int)+1 then(dJ (bZ v o).1 i.toNat,0)else((0,0),7))else((0,0),(bZ v o).2)
def wT(v:cA)(o:qS):List Ig:=if(bZ v o).2=0 then Na (bZ v o).1 else []
def H1{v:cA}{o:qS}{sv:ae}{W:AW}(hs:fJ W sv v.az)(hv:v.az.length<1000)(hG:GW W):bm (.func (.func 77) #[] #[]) [fc v sv,z8 o] W=some (.tuple #[.af (km v o).1,.af (km v o).2],W):=by
 refine bT rfl ?_ Cp;unfold AU km;obtain⟨W1,hB,a8,hn,c4,c0,c3⟩:=gF v sv W;obtain⟨W2,b2,n2,l2,UM,k0⟩:=Iw o W1;have ju:=a8.trans l2;obtain⟨u,W3,q1,q2,q3⟩:=yo (o:=o) (hs.mono ju) hv (hG.mono ju);have eA:=sM v o;simp only[SX,hB,b2,c4 _ l2,UM _ (.refl _),q1];by_cases he:(bZ v o).2=0;case neg=>simp only[SX,he,bR,am];exact⟨aA,ju.trans q2⟩
 have ea:∀W',aw Tryz.prog .mul 3 true false (.af 2) (.af ((bZ v o).1.length:Int)) W'=some (.af (2*((bZ v o).1.length:Int)),W'):=λW'=>JQ (by omega) (by omega)
 have eb:∀W',aw Tryz.prog .add 3 false true (.af (2*((bZ v o).1.length:Int))) (.af 1) W'=some (.af (2*((bZ v o).1.length:Int)+1),W'):=λW'=>da (by omega) (by omega)
 simp only[SX,aS he,ax he,q3.len FL,ea,eb,am];exact⟨aA,ju.trans q2⟩
def QK{v:cA}{o:qS}{sv:ae}{W:AW}(hs:eY W sv v.az)(hv:v.az.length<1000)(hr:∀s∈v.az,s.rows.length<1000):
 ∃u W2,bm (.func (.func 60) #[] #[]) [fc v sv,z8 o] W=some (.tuple #[u,.af (bZ v o).2],W2)/\Le W W2/\Zk W2 u (wT v o):=by
 refine pZ ?_ Gl;unfold FF wT;obtain⟨W1,hB,a8,hn,c4,c0,c3⟩:=gF v sv W;obtain⟨W2,b2,n2,l2,UM,k0⟩:=Iw o W1;have ju:=a8.trans l2;obtain⟨u,W3,q1,q2,q3⟩:=Kf (o:=o) (hs.mono ju) hv hr;have eA:=sM v o;simp only[SX,hB,b2,c4 _ l2,UM _ (.refl _),q1];by_cases he:(bZ v o).2=0;case neg=>simp only[SX,he,bR,am];exact⟨_,rfl,ju.trans q2,Row.nil⟩
 simp only[SX,he,bh];generalize(bZ v o).1=l at *;have lh:∀(k:Nat) (W':AW),k<1000000->aw Tryz.prog .add 3 false true (.af (k:Int)) (.af 1) W'=some (.af ((k+1:Nat):Int),W'):=λk W' hk=>da (by omega) (by omega)
 have ak3:∀(k:Int) (W':AW),0<=k->k<1000000->aw Tryz.prog .sub 3 false true (.af k) (.af 1) W'=some (.af (k-1),W'):=λk W' h0 hk=>mC (by omega) (by omega)
 refine bY l.length (by omega) (λi R W'=>Le W3 W'/\R 6=u/\R 9=.af (i:Int)/\∃x,R 8=x/\pk W3.next W' 2 JK x (od l i))
  (λr=>Le W3 r.2.2/\r.1=.exit 0/\r.2.1 6=u/\∃x,r.2.1 8=x/\pk W3.next r.2.2 2 JK x (od l l.length)) ⟨.refl _,rfl,rfl,_,rfl,.nil _ _ _ _⟩ ?_ ?_ ?_
 ·rintro i R W' hi ⟨hl,f6,f9,x,f8,hL⟩;unfold rQ;have e1:((i:Int)<(l.length:Int)):=by omega
  obtain⟨p,p1,p2⟩:=q3.get hi;have P8:=hL.mono ((Le.refl W').add (.cells [.af 1,.af l[i]]));obtain⟨v',W4,s1,s2,s3,s4⟩:=pk.push (P:=Tryz.prog) (a:=((1,l[i]):Ig)) (b:=W'.next) (c:=1) adF xE En P8 bE (by rw[jJ l _ (by omega)];omega) (by rw[jJ l _ (by omega)];omega) (by rw[AW.aG];have:=hl.next;omega);simp only[SX,f6,f8,f9,q3.len FL,e1,p1,p2 _ hl,Lj,aaY,s1,lh i _ (by omega),am];exact .inl ⟨aA,s4 _ (hl.add _) (aP _),f6,rfl,_,rfl,by rw[KQ l hi];exact s2⟩
 ·rintro R W' ⟨hl,f6,f9,x,f8,hL⟩;unfold rQ;have e1:¬((l.length:Int)<(l.length:Int)):=by omega
  simp only[SX,f6,f9,q3.len FL,e1,am];exact⟨by simp,hl,aA,f6,x,f8,hL⟩
 ·rintro⟨x,R,W'⟩ ⟨hl,hx,f6,y,f8,hL⟩;simp only at hl hx f6 f8 hL;subst hx;have P8:=hL.mono ((Le.refl W').add (.cells [.af 2,.af 0]));obtain⟨v',W4,s1,s2,s3,s4⟩:=pk.push (P:=Tryz.prog) (a:=((2,0):Ig)) (b:=W'.next) (c:=1) adF xE En P8 bE (by rw[jJ l _ (by omega)];omega) (by rw[jJ l _ (by omega)];omega) (by rw[AW.aG];have:=hl.next;omega);have hl4:=s4 _ (hl.add _) (aP _);have alD:∀W',aw Tryz.prog .sub 3 false true (.af (l.length:Int)) (.af 1) W'=some (.af ((l.length:Int)-1),W'):=λW'=>mC (by omega) (by omega)
  simp only[SX,f6,f8,Og,aaY,s1,q3.len FL,alD];refine bY l.length (by omega) (λi R W'=>Le W3 W'/\R 6=u/\R 10=.af ((l.length:Int)-1-i)/\∃x,R 8=x/\pk W3.next W' 2 JK x (od l l.length++[(2,0)]++qt l i))
   (λr=>Le W3 r.2.2/\r.1=.exit 2/\∃x,r.2.1 8=x/\pk W3.next r.2.2 2 JK x (Na l)) ⟨hl4,f6,by show Value.int .i64 _=_;congr 1;omega,_,rfl,by rw[show qt l 0=[]from rfl,jn];exact s2⟩ ?_ ?_ ?_
  ·rintro i R W' hi ⟨hl,f6,xV,x,f8,hL⟩;unfold sH;have e1:((0:Int)<=(l.length:Int)-1-i):=by omega
   have Xb:l.length-1-i<l.length:=by omega
   obtain⟨p,p1,p2⟩:=q3.get Xb;have ZK:=λW'=>p1 W' .i64
   rw[show((l.length-1-i:Nat):Int)=(l.length:Int)-1-i by omega]at ZK;have P8:=hL.mono ((Le.refl W').add (.cells [.af 3,.af l[l.length-1-i]]));have hll:(od l l.length++[(2,0)]++qt l i).length<=60:=by rw[cK,cK,jJ l _ (aP _),Ea];simp;omega
   obtain⟨v',W4,s1,s2,s3,s4⟩:=pk.push (P:=Tryz.prog) (a:=((3,l[l.length-1-i]):Ig)) (b:=W'.next) (c:=1) adF xE En P8 bE (by omega) (by omega) (by rw[AW.aG];have:=hl.next;omega);simp only[SX,f6,f8,xV,e1,ZK,p2 _ hl,Lj,aaY,s1,ak3 ((l.length:Int)-1-i) _ (by omega) (by omega),am];refine .inl ⟨aA,s4 _ (hl.add _) (aP _),f6,by show Value.int .i64 _=_;congr 1;omega,_,rfl,?_⟩;rw[Ja,<-jQ,iz,cL Xb];exact s2
  ·rintro R W' ⟨hl,f6,xV,x,f8,hL⟩;unfold sH;have e1:¬((0:Int)<=(l.length:Int)-1-l.length):=by omega
   simp only[SX,xV,e1,am];exact⟨by simp,hl,aA,x,f8,hL⟩
  ·rintro⟨x,R,W'⟩ ⟨hl,hx,y,f8,hL⟩;simp only at hl hx f8 hL;subst hx;simp only[SX,f8,am];exact⟨_,rfl,(ju.trans q2).trans hl,hL.row xE Xr⟩
def Uh{l:List Int}{u f:ae}{bx:Nat}{W0 W:AW}(hu:kr W0 u l)(eA:l.length<=24)(hb:∀W',Le W0 W'->aK (.pointer (some ⟨bx,0,none⟩)) W'=some (u,W'))(I:Nat->AW->Prop)(Q:AW->Prop)
 (hI:I 0 W)(hS:∀i W',I i W'->Le W0 W')(hA:∀i W' cs,I i W'->I i (W'.add (.cells cs)))
 (step:∀i W',i<2*l.length+1->I i W'->∃b W2,bm f [.af (i:Int),EH (dJ l i)] W'=some (.bool b,W2)/\(b=true->I (i+1) W2)/\(b=false->Q W2)):
 ∃W2,bm (.func (.func 163) #[] #[.pointer (some ⟨bx,0,none⟩)]) [f] W=some (.tuple #[],W2)/\(I (2*l.length+1) W2\/Q W2):=by
 have oK:Ok (qf bm f (.pointer (some ⟨bx,0,none⟩)) W) λr=>r.1=.tuple #[]/\(I (2*l.length+1) r.2\/Q r.2):=by
  unfold qf;have ea:∀W',aw Tryz.prog .mul 3 true false (.af 2) (.af (l.length:Int)) W'=some (.af (2*(l.length:Int)),W'):=λW'=>JQ (by omega) (by omega)
  have eb:∀W',aw Tryz.prog .add 3 false true (.af (2*(l.length:Int))) (.af 1) W'=some (.af (2*(l.length:Int)+1),W'):=λW'=>da (by omega) (by omega)
  have lh:∀(k:Nat) (W':AW),k<1000000->aw Tryz.prog .add 3 false true (.af (k:Int)) (.af 1) W'=some (.af ((k+1:Nat):Int),W'):=λk W' hk=>da (by omega) (by omega)
  simp only[SX,hb _ (hS _ _ hI),hu.len FL,ea,eb];refine bY (2*l.length+1) (by omega) (λi R W'=>R 0=f/\R 1=.pointer (some ⟨bx,0,none⟩)/\R 3=.af (l.length:Int)/\R 10=.af (2*(l.length:Int)+1)/\R 11=.af (i:Int)/\I i W')
   (λr=>(r.1=.exit 0/\I (2*l.length+1) r.2.2)\/(r.1=.ret/\Q r.2.2)) ⟨rfl,rfl,rfl,rfl,rfl,hI⟩ ?_ ?_ ?_
  ·rintro i R W' hi ⟨h0,h1,h3,yL,xM,qC⟩;unfold lJ;have e1:((i:Int)<2*(l.length:Int)+1):=by omega
   have hI2:=hA _ _ [.af (dJ l i).1,.af (dJ l i).2] qC;have vX:=hS _ _ hI2;obtain⟨c,W3,s1,s2,s3⟩:=step i _ hi hI2;have Nq:∀a b:Int,bA 2 (.pointer (some ⟨W'.next,0,none⟩)) (W'.add (.cells [.af a,.af b]))=some (.agg #[.af a,.af b],W'.add (.cells [.af a,.af b])):=λa b=>ld2 cg
   by_cases t1:i<l.length
   ·have Ms:(i:Int)<(l.length:Int):=by omega
    have nS:dJ l i=(1,l[i]):=by unfold dJ;rw[ax t1,iz,cL t1];rfl
    obtain⟨p,p1,p2⟩:=hu.get t1;rw[nS]at s1 vX hI2;have hl3:Le W0 (W'.add (.cells [.af 2,.af 0])):=(hS _ _ qC).add _;simp only[SX,h0,h1,h3,yL,xM,e1,Og,UI,DJ cg,dZ,aS Ms,hb _ hl3,p1,p2 _ hl3,Lj,Nq,s1];cases c
    ·simp only[SX,am];exact .inr ⟨by simp,.inr ⟨aA,s3 rfl⟩⟩
    ·simp only[SX,lh i _ (by omega),am];exact .inl ⟨aA,h0,h1,h3,yL,rfl,s2 rfl⟩
   have Ms:¬((i:Int)<(l.length:Int)):=by omega
   by_cases t2:i=l.length
   ·have NT:¬((l.length:Int)<(i:Int)):=by omega
    have nS:dJ l i=(2,0):=by unfold dJ;rw[ay t1,ax t2]
    rw[nS]at s1 vX hI2;simp only[SX,h0,h1,h3,yL,xM,e1,Og,UI,DJ cg,dZ,bq Ms,bq NT,Nq,s1];cases c
    ·simp only[SX,am];exact .inr ⟨by simp,.inr ⟨aA,s3 rfl⟩⟩
    ·simp only[SX,lh i _ (by omega),am];exact .inl ⟨aA,h0,h1,h3,yL,rfl,s2 rfl⟩
   ·have NT:((l.length:Int)<(i:Int)):=by omega
    have Xb:2*l.length-i<l.length:=by omega
    have nS:dJ l i=(3,l[2*l.length-i]):=by unfold dJ;rw[ay t1,ay t2,iz,cL Xb];rfl
    obtain⟨p,p1,p2⟩:=hu.get Xb;have ZK:=λW'=>p1 W' .i64
    rw[show((2*l.length-i:Nat):Int)=2*(l.length:Int)-i by omega]at ZK;rw[nS]at s1 vX hI2;have hl3:Le W0 (W'.add (.cells [.af 2,.af 0])):=(hS _ _ qC).add _;have es:∀W',aw Tryz.prog .sub 3 false false (.af (2*(l.length:Int))) (.af (i:Int)) W'=some (.af (2*(l.length:Int)-i),W'):=λW'=>mC (by omega) (by omega)
    simp only[SX,h0,h1,h3,yL,xM,e1,Og,UI,DJ cg,dZ,bq Ms,aS NT,hb _ hl3,ea,es,ZK,p2 _ hl3,Lj,Nq,s1];cases c
    ·simp only[SX,am];exact .inr ⟨by simp,.inr ⟨aA,s3 rfl⟩⟩
    ·simp only[SX,lh i _ (by omega),am];exact .inl ⟨aA,h0,h1,h3,yL,rfl,s2 rfl⟩
  ·rintro R W' ⟨h0,h1,h3,yL,xM,qC⟩;unfold lJ;have e1:¬(((2*l.length+1:Nat):Int)<2*(l.length:Int)+1):=by omega
   simp only[SX,yL,xM,e1,am];exact⟨by simp,.inl ⟨aA,qC⟩⟩
  ·rintro⟨x,R,W'⟩ hq;rcases hq with⟨rfl,qC⟩|⟨rfl,hq⟩
   ·simp only[SX,am];exact⟨aA,.inl qC⟩
   ·simp only[SX,am];exact⟨aA,.inr hq⟩
 obtain⟨⟨r,W'⟩,h1,h2,h3⟩:=oK;simp only at h2 h3;subst h2;exact⟨W',by rw[zn h1,wH rfl],h3⟩
def U9{l:List Int}{u:ae}{W:AW}(hu:kr W u l):∃W1,bm (.func (.func 137) #[] #[]) [u] W=some (.func (.func 163) #[] #[.pointer (some ⟨W.next,0,none⟩)],W1)/\Le W W1/\W1.next=W.next+1/\(∀W',Le W1 W'->aK (.pointer (some ⟨W.next,0,none⟩)) W'=some (u,W')):=by
 obtain⟨a,c,hc,h⟩:=hu;have hB:cD u W=some (.pointer (some ⟨W.next,0,none⟩),W.add (.cells [u])):=by rw[hc];exact Cb _ _ _
 have np:aL (W.add (.cells [u])) W.next=some [u]:=bE;have hn:W.next<(W.add (.cells [u])).next:=by rw[AW.aG];omega
 refine⟨_,?_,(Le.refl W).add _,AW.aG _ _,λW' k=>df (by rw[k.aL hn];exact np) rfl⟩;have:ul bm u W=some (.func (.func 163) #[] #[.pointer (some ⟨W.next,0,none⟩)],W.add (.cells [u])):=by unfold ul;simp only[SX,hB]
 rw[CE this,wH rfl]
def Wq{l:List Int}{u:ae}{W0 W:AW}{bx nt:Nat}{R:Nat->ae}{ps:Array Tmp}{ac bd:Code}{ρ:Type}{K:X×AW->Option ρ}{G:ρ->Prop}(hu:kr W0 u l)(eA:l.length<=24)(hb:∀W',Le W0 W'->aK (.pointer (some ⟨bx,0,none⟩)) W'=some (u,W'))(hp:ps.size=2)
 (J:Nat->AW->Prop)(Q:X->AW->Prop)(h0:J 0 (W.add (.loop .ready none R nt ps ac bd)))
 (hS:∀i W',J i W'->Le W0 W')(hA:∀i W' cs,J i W'->W.next<W'.next->J i (W'.add (.cells cs)))(hP:∀i W' o,J i W'->J i (W'.put W.next o))(hQ:∀x W' o,Q x W'->Q x (W'.put W.next o))
 (d0 d:Nat)(has:∀(i:Nat) (p:Ig) W' R',R'=nl ps.toList [.af (i:Int),EH p] R->gH Tryz.prog bm false nt ac LT R' W' nB=some (.normal,eP (eP R' (some d0) (.af (i:Int))) (some d) (.pointer (some ⟨W'.next,0,none⟩)),W'.add (.cells [.af p.1,.af p.2])))
 (step:∀(i:Nat) W' b R',R'=eP (eP (nl ps.toList [.af (i:Int),EH (dJ l i)] R) (some d0) (.af (i:Int))) (some d) (.pointer (some ⟨b,0,none⟩))->i<2*l.length+1->J i W'->W.next<W'.next->aH W' b=some [.af (dJ l i).1,.af (dJ l i).2]->W.next<b->b<W'.next->
   Ok (gH Tryz.prog bm false nt bd LT R' W' nB) λq=>W'.next<=q.2.2.next/\q.2.2.get W.next=W'.get W.next/\((q.1=.normal/\J (i+1) q.2.2)\/(q.1≠ .normal/\Q q.1 q.2.2)))
 (after:∀x W2,(x=.normal/\J (2*l.length+1) W2)\/(x≠ .normal/\Q x W2)->Ok (K (x,W2.kill W.next)) G):
 Ok (ah (jP bm (.func (.func 163) #[] #[.pointer (some ⟨bx,0,none⟩)]) (.loop .ready none R nt ps ac bd) W) K) G:=by
 have oK:∃x W2,jP bm (.func (.func 163) #[] #[.pointer (some ⟨bx,0,none⟩)]) (.loop .ready none R nt ps ac bd) W=some (x,W2.kill W.next)/\((x=.normal/\J (2*l.length+1) W2)\/(x≠ .normal/\Q x W2)):=by
  obtain⟨W2,h1,h2⟩:=Uh (f:=.func (.yield W.next) #[] #[]) (W:=W.add (.loop .ready none R nt ps ac bd)) hu eA hb
   (λi W'=>J i W'/\W.next<W'.next/\W'.get W.next=some (.loop .ready none R nt ps ac bd))
   (λW'=>∃x,x≠ .normal/\Q x W'/\W'.get W.next=some (.loop .done x.jump R nt ps ac bd))
   ⟨h0,by rw[AW.aG];omega,AW.aT _ _⟩ (λi W' h=>hS _ _ h.1)
   (λi W' cs h=>⟨hA _ _ _ h.1 h.2.1,by rw[AW.aG];omega,by rw[AW.br _ _ (by omega)];exact h.2.2⟩)
   (λi W' hi ⟨hJ,gZ,fj⟩=>by
     have hJ2:=hP _ _ (.loop .busy none R nt ps ac bd) (hA _ _ [.af (dJ l i).1,.af (dJ l i).2] hJ gZ);obtain⟨⟨x,R2,W3⟩,k1,k2,k3,k4⟩:=step i _ W'.next _ rfl hi hJ2 (by rw[AW.cT,AW.aG];omega) (by rw[bs _ (by omega)];exact cg) gZ (by rw[AW.cT,AW.aG];omega);simp only at k1 k2 k3 k4;rw[AW.bz]at k3;have hy:=Fp (P:=Tryz.prog) (args:=[.af (i:Int),EH (dJ l i)]) fj (by rw[hp];rfl) (has i (dJ l i) W' _ rfl) (by rw[AW.br _ _ (by omega)];exact fj) k1 k3;have hn3:W.next<W3.next:=by rw[AW.cT,AW.aG]at k2;omega
     rcases k4 with⟨rfl,k4⟩|⟨kx,k4⟩
     ·exact⟨true,_,hy,λ_=>⟨hP _ _ _ k4,by rw[AW.cT];exact hn3,AW.bz _ _ _⟩,λh=>by cases h⟩
     ·refine⟨false,W3.put W.next (.loop .done x.jump R nt ps ac bd),?_,λh=>by(cases h),λ_=>⟨x,kx,hQ _ _ _ k4,AW.bz _ _ _⟩⟩;refine hy.trans ?_;cases x with
      |normal=>exact absurd rfl kx
      |exit i=>rfl
      |ret=>rfl)
  rcases h2 with⟨h2,h3,h4⟩|⟨x,h2,h3,h4⟩
  ·exact⟨.normal,W2,yF h1 h4 (by simp),.inl ⟨rfl,h2⟩⟩
  ·exact⟨x,W2,Dx h1 h4,.inr ⟨h2,h3⟩⟩
 obtain⟨x,W2,h1,h2⟩:=oK;rw[h1,wX];exact after x W2 h2
def KM{v:cA}{o:qS}{sv:ae}{W:AW}{i0:Int}(hs:fJ W sv v.az)(hv:v.az.length<1000)(hG:GW W):bm (.func (.func 100) #[] #[]) [fc v sv,z8 o,.af i0] W=some (.tuple #[EH (iK v o i0).1,.af (iK v o i0).2],W):=by
 refine bT rfl ?_ EZ;unfold DU iK;obtain⟨W1,hB,a8,hn,c4,c0,c3⟩:=gF v sv W;obtain⟨W2,b2,n2,l2,UM,k0⟩:=Iw o W1;obtain⟨Sx,b2',n2',l2',r2'⟩:=acq i0 W2;obtain⟨W3,b3,n3,l3,r3⟩:=ahF Sx;obtain⟨W4,b4,n4,l4,r4⟩:=Zw W3;have P1:=a8.next;have PA:=(l2'.trans l3).trans l4;have afQ:=(a8.trans l2).trans l2';have l04:=(a8.trans l2).trans PA;have akL:=l3.trans l4;obtain⟨u,W5,q1,q2,q3⟩:=yo (o:=o) (hs.mono l04) hv (hG.mono l04);have ae5:=akL.trans q2;have dT:aH W5 Sx.next=some [.af 0,.af 0]:=by rw[q2.aH (by omega),l4.aH (by omega)];exact r3
 have fH:aH W5 W3.next=some [.af 0]:=by rw[q2.aH (by omega)];exact r4
 have ri5:aH W5 W2.next=some [.af i0]:=by rw[ae5.aH (by omega)];exact r2'
 have n5:=q2.next;have e3:∀(W':AW) a,aH (W'.put Sx.next a) W3.next=aH W' W3.next:=λW' a=>bs _ (by omega)
 have e2:∀(W':AW) a b,aH ((W'.put Sx.next (.cells a)).put W3.next b) Sx.next=some a:=λW' a b=>by rw[bs _ (by omega)];exact bF _
 simp only[SX,hB,b2,b2',b3,b4,c4 _ (l2.trans PA),UM _ PA,q1];have eA:=sM v o;by_cases he:(bZ v o).2=0;case neg=>simp only[SX,he,bR,ZM,DJ dT,LO ((e3 _ _).trans fH),vd,adY,QV,ld2 (e2 _ _ _),Fh (bF _),bp,am];exact⟨aA,((l04.trans q2).put (by omega) _).put (by omega) _⟩
 generalize(bZ v o).1=l at *;obtain⟨W6,s1,s2,s3,s4⟩:=U9 q3;simp only[SX,aS he,ax he,s1];have dU:aH W6 Sx.next=some [.af 0,.af 0]:=by rw[s2.aH (by omega)];exact dT
 have iH:aH W6 W3.next=some [.af 0]:=by rw[s2.aH (by omega)];exact fH
 have ri6:aH W6 W2.next=some [.af i0]:=by rw[s2.aH (by omega)];exact ri5
 have aiG:=ae5.trans s2;refine Wq (q3.mono s2) eA s4 rfl (λk W'=>Le W6 W'/\∀j:Nat,j<k->(j:Int)≠i0)
  (λx W'=>x=.ret/\Le Sx W'/\∃k:Nat,k<2*l.length+1/\(k:Int)=i0/\aH W' Sx.next=some [.af (dJ l k).1,.af (dJ l k).2]/\aH W' W3.next=some [.af 0])
  ⟨(Le.refl W6).add _,λj hj=>by omega⟩ (λ_ _ h=>h.1) (λi W' cs h hl=>⟨h.1.add _,h.2⟩) (λi W' o h=>⟨h.1.put (aP _) _,h.2⟩)
  (λx W' o ⟨h1,h2,k,h3,h4,h5,h6⟩=>⟨h1,h2.put (by omega) _,k,h3,h4,by rw[bs _ (by omega)];exact h5,by rw[bs _ (by omega)];exact h6⟩) 10 11 ?_ ?_ ?_
 ·intro i p W' R' hR;have cE:R' 24=.af (i:Int):=by rw[hR];rfl
  have cH:R' 25=EH p:=by rw[hR];rfl
  rw[w4];unfold ui;simp only[SX,UI,cE,cH,DJ cg,dZ];try rfl
 ·intro i W' b R' hR hi ⟨h1,h2⟩ hl hb MH iW;have f5:R' 5=.pointer (some ⟨W2.next,0,none⟩):=by rw[hR];rfl
  have f6:R' 6=.pointer (some ⟨Sx.next,0,none⟩):=by rw[hR];rfl
  have f7:R' 7=.pointer (some ⟨W3.next,0,none⟩):=by rw[hR];rfl
  have xV:R' 10=.af (i:Int):=by rw[hR];rfl
  have yI:R' 11=.pointer (some ⟨b,0,none⟩):=by rw[hR];rfl
  clear hR;rw[xT];unfold tF;have ri:aH W' W2.next=some [.af i0]:=by rw[h1.aH (by omega)];exact ri6
  have rr:aH W' Sx.next=some [.af 0,.af 0]:=by rw[h1.aH (by omega)];exact dU
  have re:aH W' W3.next=some [.af 0]:=by rw[h1.aH (by omega)];exact iH
  simp only[SX,f5,xV,Fh ri];by_cases t:(i:Int)=i0
  ·simp only[SX,aS t,f6,f7,yI,ld2 hb,DJ rr,LO ((e3 _ _).trans re),am];refine⟨aP _,by rw[AW.aE _ _ (by omega),AW.aE _ _ (by omega)],.inr ⟨by simp,aA,((aiG.trans h1).put (by omega) _).put (by omega) _,i,hi,t,e2 _ _ _,bF _⟩⟩
  ·simp only[SX,bq t,am];refine⟨aP _,aA,.inl ⟨aA,h1,λj hj=>?_⟩⟩;by_cases hji:j<i
   ·exact h2 j hji
   ·obtain rfl:j=i:=by omega
    exact t
 ·rintro x W7 (⟨rfl,h1,h2⟩|⟨_,rfl,h1,k,h2,h3,h4,h5⟩)
  ·have hn1:¬(0<=i0/\i0<2*(l.length:Int)+1):=λh=>h2 i0.toNat (by omega) (by omega)
   have n7:=h1.next;have k2:aH (W7.kill W6.next) Sx.next=some [.af 0,.af 0]:=by rw[md (by omega),h1.aH (by omega)];exact dU
   have k3:aH (W7.kill W6.next) W3.next=some [.af 0]:=by rw[md (by omega),h1.aH (by omega)];exact iH
   simp only[SX,ay hn1,ZM,DJ k2,LO ((e3 _ _).trans k3),vd,adY,QV,ld2 (e2 _ _ _),Fh (bF _),bp,am];exact⟨aA,((((afQ.trans aiG).trans h1).kill (by omega)).put (by omega) _).put (by omega) _⟩
  ·have hp1:0<=i0/\i0<2*(l.length:Int)+1:=by omega
   have hk:i0.toNat=k:=by omega
   have k2:aH (W7.kill W6.next) Sx.next=some [.af (dJ l k).1,.af (dJ l k).2]:=by rw[md (by omega)];exact h4
   have k3:aH (W7.kill W6.next) W3.next=some [.af 0]:=by rw[md (by omega)];exact h5
   simp only[SX,ax hp1,hk,vd,adY,QV,ld2 k2,Fh k3,bp,am];exact⟨aA,(afQ.trans h1).kill (by omega)⟩
end Go.Proofs.YtekljimefjclgaaGreatDoor
