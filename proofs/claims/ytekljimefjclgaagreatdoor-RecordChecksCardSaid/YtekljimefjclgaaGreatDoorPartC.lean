/- A part: contracts and laws. -/
import Derived.Test.YtekljimefjclgaaGreatDoorPartB
set_option linter.unusedVariables false
set_option linter.unusedSimpArgs false
set_option linter.unusedSectionVars false
set_option linter.defProp false
noncomputable section
open Go renaming TypeId->ai,Value->ae,undef->ag
set_option maxRecDepth 100000
namespace Go.Proofs.YtekljimefjclgaaGreatDoor
open Go Go.Eng
instance opens:ak:=Yq (λid ops=>T.get (path (EA id ops)) tab) [0]
def OV(i:Nat):Code:=Je Tryz.prog i
def nR(c:UInt8):Bool:=decide (97<=c.toNat)&&decide (c.toNat<=122)||decide (48<=c.toNat)&&decide (c.toNat<=57)||c.toNat==45
def nL(l:List UInt8):Bool:=match l with
 |[]=>false
 |c::_=>decide (97<=c.toNat)&&decide (c.toNat<=122)&&decide (l.length<=16)&&l.all nR
def Fo:List ae->Option ae
 |[]=>some (.bool true)
 |_=>none
def QX:List Nat:=[2,7,75,165,174,227]
def specs:Eng.Callee:=KW [(7,BB 7 jF Fo),(75,WK 75),(165,Ao 165)]
def bl:Eng.Callee:=om Tryz.prog QX specs
abbrev GW(W:AW):Prop:=Bj jF W
def GW.cells{W:AW}(h:GW W):aI W 0=some pp:=Ah (h (0,pp) (by simp[jF])).1
def GW.pos{W:AW}(h:GW W):0<W.next:=(h (0,pp) (by simp[jF])).2
def GF{W:AW}(h:GW W):bl (.func (.func 7) #[] #[]) [] W=some (.bool true,W):=by have h0:BB 7 jF Fo (.func (.func 7) #[] #[]) [] W=some (.bool true,W):=QN h rfl rfl rfl;have h1:specs (.func (.func 7) #[] #[]) [] W=some (.bool true,W):=h0;have h2:=Es (P:=Tryz.prog) (bad:=QX) (spec:=specs) (i:=7) (by decide) h1;rw[vE (.refl _)]at h2;exact h2
def TJ{W W':AW}{args:List ae}(h:lj W args W'):bl (.func (.func 165) #[] #[]) args W=some (.tuple #[],W'):=by have h0:Ao 165 (.func (.func 165) #[] #[]) args W=some (.tuple #[],W'):=QC h;have h1:specs (.func (.func 165) #[] #[]) args W=some (.tuple #[],W'):=h0;have h2:=Es (P:=Tryz.prog) (bad:=QX) (spec:=specs) (i:=165) (by decide) h1;rw[uB rfl]at h2;exact h2
def py(k ow un se sc n to t1 t2 t3 t4 nw:Int):Int:=if k<1\/12<k then 2 else F0 ow un se sc n to t1 t2 t3 t4 nw (I5.getD k.toNat 0)
def vd(k ow un se sc n to t1 t2 t3 t4 nw:Int){W:AW}(h:GW W):bl (.func (.func 75) #[] #[]) [.agg (eQ k ow un se sc n to t1 t2 t3 t4 nw)] W=some (.af (py k ow un se sc n to t1 t2 t3 t4 nw),W):=by
 have h1:specs (.func (.func 75) #[] #[]) [.agg (eQ k ow un se sc n to t1 t2 t3 t4 nw)] W=some (.af (py k ow un se sc n to t1 t2 t3 t4 nw),W):=by
  show WK 75 (.func (.func 75) #[] #[]) [.agg (eQ k ow un se sc n to t1 t2 t3 t4 nw)] W=_;unfold WK eQ;simp only[nQ,Array.isEmpty_empty,sR,ES];unfold py;by_cases hk:k<1\/12<k
  ·have hd:(decide (k<1)||decide (12<k))=true:=by simpa using hk
   rw[ax hk];simp only[hd]
  ·have hd:(decide (k<1)||decide (12<k))=false:=by simp;omega
   rw[ay hk];simp only[hd,(h (0,pp) (by simp[jF])).1];have S8:k.toNat<13:=by omega
   have:pp[k.toNat]? =some (.af (I5.getD k.toNat 0)):=by unfold pp;rw[jf];have h13:I5.length=13:=rfl;rw[dm (by omega),mS,dm (by omega)];rfl
   simp only[this]
 have h2:=Es (P:=Tryz.prog) (bad:=QX) (spec:=specs) (i:=75) (by decide) h1;rw[Xd (.refl _)]at h2;exact h2
def dP(W:AW)(a b:Int)(h1: -9223372036854775808<=a+b:=by omega)(h2:a+b<9223372036854775808:=by omega):aw Tryz.prog .add 3 false true (.af a) (.af b) W=some (.af (a+b),W):=cY h1 h2
def rq(W:AW)(a b:Int)(h1: -9223372036854775808<=a+b:=by omega)(h2:a+b<9223372036854775808:=by omega):aw Tryz.prog .add 3 false false (.af a) (.af b) W=some (.af (a+b),W):=cY h1 h2
def Rz(W:AW)(a b:Int)(h1: -9223372036854775808<=a-b:=by omega)(h2:a-b<9223372036854775808:=by omega):aw Tryz.prog .sub 3 false true (.af a) (.af b) W=some (.af (a-b),W):=pj h1 h2
def adM(W:AW)(a b:Int)(h1: -9223372036854775808<=a-b:=by omega)(h2:a-b<9223372036854775808:=by omega):aw Tryz.prog .sub 3 false false (.af a) (.af b) W=some (.af (a-b),W):=pj h1 h2
def dn(call:Eng.Callee)(J1 J3:ae)(W:AW):Option (ae×AW):=aj (bA 12 J3 W) λr9=>aj (bA 12 J1 r9.2) λbK=>aj (aw Tryz.prog .neq 41 false false r9.1 bK.1 bK.2) λbN=>bf bN.1 (aD Tryz.prog [((.af 2),none)] bN.2) (aD Tryz.prog [((.af 0),none)] bN.2)
def jP(call:Eng.Callee)(J1 J3 J8 J72:ae)(W:AW):Option (ae×AW):=bf J72 (aj (aR 1 J1 W) λFc=>aj (aJ Fc.1 Fc.2) λDh=>aj (aR 2 J1 Dh.2) λFx=>aj (aJ Fx.1 Fx.2) λFU=>aj (aR 4 J1 FU.2) λCA=>aj (aJ CA.1 CA.2) λD0=>aj (aR 1 J3 D0.2) λKa=>aj (bU 1 Ka.1 Dh.1 Ka.2) λFz=>aU (rP true (aJ CA.1 Fz.2) D0.1&&(rP true (aJ Fx.1 Fz.2) FU.1&&true)) (aj (aR 2 J3 Fz.2) λNd=>aj (bU 1 Nd.1 FU.1 Nd.2) λKL=>aU (rP true (aJ CA.1 KL.2) D0.1&&true) (aj (aR 4 J3 KL.2) λOM=>aj (bU 1 OM.1 D0.1 OM.2) λWi=>dn call J1 J3 Wi.2) none) none) (aj (aw Tryz.prog .eql 3 false true J8 (.af 12) W) λKA=>bf KA.1 (aj (aR 11 J1 KA.2) λIn=>aj (aJ In.1 In.2) λMB=>aj (aR 11 J3 MB.2) λK4=>aj (bU 1 K4.1 MB.1 K4.2) λTa=>dn call J1 J3 Ta.2) (aD Tryz.prog [((.af 2),none)] KA.2))
def fR(call:Eng.Callee)(J1 J3 J8 J14:ae)(W:AW):Option (ae×AW):=bf J14 (aj (aR 1 J1 W) λcu=>aj (aJ cu.1 cu.2) λcE=>aj (aR 2 J1 cE.2) λbY=>aj (aJ bY.1 bY.2) λcn=>aj (aR 3 J1 cn.2) λcH=>aj (aJ cH.1 cH.2) λcK=>aj (aR 1 J3 cK.2) λcP=>aj (bU 1 cP.1 cE.1 cP.2) λcZ=>aU (rP true (aJ cH.1 cZ.2) cK.1&&(rP true (aJ bY.1 cZ.2) cn.1&&true)) (aj (aR 2 J3 cZ.2) λcW=>aj (bU 1 cW.1 cn.1 cW.2) λdA=>aU (rP true (aJ cH.1 dA.2) cK.1&&true) (aj (aR 3 J3 dA.2) λdx=>aj (bU 1 dx.1 cK.1 dx.2) λdI=>dn call J1 J3 dI.2) none) none) (aj (aw Tryz.prog .eql 3 false true J8 (.af 3) W) λdr=>bf dr.1 (aj (aR 1 J1 dr.2) λeE=>aj (aJ eE.1 eE.2) λeh=>aj (aR 2 J1 eh.2) λej=>aj (aJ ej.1 ej.2) λdJ=>aj (aR 4 J1 dJ.2) λdR=>aj (aJ dR.1 dR.2) λeN=>aj (aR 5 J1 eN.2) λeC=>aj (aJ eC.1 eC.2) λew=>aj (aR 1 J3 ew.2) λgT=>aj (bU 1 gT.1 eh.1 gT.2) λgQ=>aU (rP true (aJ eC.1 gQ.2) ew.1&&(rP true (aJ dR.1 gQ.2) eN.1&&(rP true (aJ ej.1 gQ.2) dJ.1&&true))) (aj (aR 2 J3 gQ.2) λgt=>aj (bU 1 gt.1 dJ.1 gt.2) λii=>aU (rP true (aJ eC.1 ii.2) ew.1&&(rP true (aJ dR.1 ii.2) eN.1&&true)) (aj (aR 4 J3 ii.2) λgX=>aj (bU 1 gX.1 eN.1 gX.2) λiq=>aU (rP true (aJ eC.1 iq.2) ew.1&&true) (aj (aR 5 J3 iq.2) λik=>aj (bU 1 ik.1 ew.1 ik.2) λgR=>dn call J1 J3 gR.2) none) none) none) (aj (aw Tryz.prog .eql 3 false true J8 (.af 6) dr.2) λkN=>bf kN.1 (aj (aR 1 J1 kN.2) λnB=>aj (aJ nB.1 nB.2) λod=>aj (aR 2 J1 od.2) λpv=>aj (aJ pv.1 pv.2) λpw=>aj (aR 6 J1 pw.2) λpU=>aj (aJ pU.1 pU.2) λqt=>aj (aR 7 J1 qt.2) λtP=>aj (bA 4 tP.1 tP.2) λqT=>aj (aR 1 J3 qT.2) λyD=>aj (bU 1 yD.1 od.1 yD.2) λtR=>aU (rP true (bA 4 tP.1 tR.2) qT.1&&(rP true (aJ pU.1 tR.2) qt.1&&(rP true (aJ pv.1 tR.2) pw.1&&true))) (aj (aR 2 J3 tR.2) λyh=>aj (bU 1 yh.1 pw.1 yh.2) λxH=>aU (rP true (bA 4 tP.1 xH.2) qT.1&&(rP true (aJ pU.1 xH.2) qt.1&&true)) (aj (aR 6 J3 xH.2) λt6=>aj (bU 1 t6.1 qt.1 t6.2) λwN=>aU (rP true (bA 4 tP.1 wN.2) qT.1&&true) (aj (aR 7 J3 wN.2) λuO=>aj (bU 4 uO.1 qT.1 uO.2) λAB=>dn call J1 J3 AB.2) none) none) none) (aj (aw Tryz.prog .eql 3 false true J8 (.af 7) kN.2) λzm=>bf zm.1 (aj (aR 1 J1 zm.2) λt8=>aj (aJ t8.1 t8.2) λza=>aj (aR 2 J1 za.2) λuL=>aj (aJ uL.1 uL.2) λBw=>aj (aR 7 J1 Bw.2) λuC=>aj (bA 4 uC.1 uC.2) λyj=>aj (aR 1 J3 yj.2) λw7=>aj (bU 1 w7.1 za.1 w7.2) λoe=>aU (rP true (bA 4 uC.1 oe.2) yj.1&&(rP true (aJ uL.1 oe.2) Bw.1&&true)) (aj (aR 2 J3 oe.2) λuI=>aj (bU 1 uI.1 Bw.1 uI.2) λBl=>aU (rP true (bA 4 uC.1 Bl.2) yj.1&&true) (aj (aR 7 J3 Bl.2) λwL=>aj (bU 4 wL.1 yj.1 wL.2) λCv=>dn call J1 J3 Cv.2) none) none) (aj (aw Tryz.prog .eql 3 false true J8 (.af 9) zm.2) λuW=>bf uW.1 (aj (aR 7 J1 uW.2) λCt=>aj (bA 4 Ct.1 Ct.2) λBE=>aj (aR 7 J3 BE.2) λC7=>aj (bU 4 C7.1 BE.1 C7.2) λFA=>dn call J1 J3 FA.2) (aj (aw Tryz.prog .eql 3 false true J8 (.af 10) uW.2) λNW=>bf NW.1 (jP call J1 J3 J8 NW.1 NW.2) (aj (aw Tryz.prog .eql 3 false true J8 (.af 11) NW.2) λS6=>jP call J1 J3 J8 S6.1 S6.2))))))
def nI(call:Eng.Callee)(x0:ae)(W:AW):Option (ae×AW):=aj (cC x0 W) λr1=>aj (aR 0 r1.1 r1.2) λr2=>aj (aJ r2.1 r2.2) λr3=>aj (bH Tryz.prog 41 [(0,r3.1)] r3.2) λr4=>aj (bc Tryz.prog 41 r4.2) λr5=>aj (bU 12 r5.1 r4.1 r5.2) λr6=>aj (aR 0 r1.1 r6.2) λr7=>aj (aJ r7.1 r7.2) λr8=>aj (aw Tryz.prog .eql 3 false true r8.1 (.af 1) r8.2) λcj=>bf cj.1 (aj (aR 1 r1.1 cj.2) λcA=>aj (aJ cA.1 cA.2) λcy=>aj (aR 1 r5.1 cy.2) λbX=>aj (bU 1 bX.1 cy.1 bX.2) λcg=>dn call r1.1 r5.1 cg.2) (aj (aw Tryz.prog .eql 3 false true r8.1 (.af 2) cj.2) λvW=>bf vW.1 (fR call r1.1 r5.1 r8.1 vW.1 vW.2) (aj (aw Tryz.prog .eql 3 false true r8.1 (.af 5) vW.2) λvQ=>bf vQ.1 (fR call r1.1 r5.1 r8.1 vQ.1 vQ.2) (aj (aw Tryz.prog .eql 3 false true r8.1 (.af 4) vQ.2) λxi=>bf xi.1 (fR call r1.1 r5.1 r8.1 xi.1 xi.2) (aj (aw Tryz.prog .eql 3 false true r8.1 (.af 8) xi.2) λBP=>fR call r1.1 r5.1 r8.1 BP.1 BP.2))))
def BR{x0:ae}{W:AW}{r:ae×AW}(h:nI bl x0 W=some r):bl (.func (.func 79) #[] #[]) [x0] W=some (gc W r):=bO (nt:=92) (n:=1) (by kernel_rfl) (by kernel_rfl) rfl (aH (by kernel_rfl) h)
def iT(call:Eng.Callee)(J1 J28:ae)(W:AW):Option (ae×AW):=bf J28 (aj (aR 4 J1 W) λcA=>aj (aJ cA.1 cA.2) λcy=>aD Tryz.prog [((.af (-1)),none),(cy.1,none),((.af 0),none)] cy.2) (aD Tryz.prog [((.af (-1)),none),((.af (-1)),none),((.af 0),none)] W)
def iV(call:Eng.Callee)(J1 Tf J20:ae)(W:AW):Option (ae×AW):=bf J20 (aj (aR 7 J1 W) λr9=>aj (aR 0 r9.1 r9.2) λbK=>aj (aJ bK.1 bK.2) λbN=>aj (Dv Tryz.prog 36 3 bN.1 bN.2) λcj=>aD Tryz.prog [(cj.1,none),((.af (-1)),none),((.af 0),none)] cj.2) (aj (aw Tryz.prog .eql 3 false true Tf (.af 3) W) λbX=>bf bX.1 (iT call J1 bX.1 bX.2) (aj (aw Tryz.prog .eql 3 false true Tf (.af 10) bX.2) λcg=>bf cg.1 (iT call J1 cg.1 cg.2) (aj (aw Tryz.prog .eql 3 false true Tf (.af 11) cg.2) λcu=>iT call J1 cu.1 cu.2)))
def gD(call:Eng.Callee)(J1 Tf J13:ae)(W:AW):Option (ae×AW):=bf J13 (aj (aR 3 J1 W) λr7=>aj (aJ r7.1 r7.2) λr8=>aD Tryz.prog [(r8.1,none),((.af (-1)),none),((.af 0),none)] r8.2) (aj (aw Tryz.prog .eql 3 false true Tf (.af 6) W) λcE=>bf cE.1 (iV call J1 Tf cE.1 cE.2) (aj (aw Tryz.prog .eql 3 false true Tf (.af 7) cE.2) λbY=>bf bY.1 (iV call J1 Tf bY.1 bY.2) (aj (aw Tryz.prog .eql 3 false true Tf (.af 9) bY.2) λcn=>iV call J1 Tf cn.1 cn.2)))
def uR(call:Eng.Callee)(x0:ae)(W:AW):Option (ae×AW):=aj (cC x0 W) λr1=>aj (bA 12 r1.1 r1.2) λr2=>aj (call (cN 79) [r2.1] r2.2) λr3=>aj (aw Tryz.prog .neq 30 false true r3.1 (.af 0) r3.2) λr4=>bf r4.1 (aD Tryz.prog [((.af 0),none),((.af 0),none),(r3.1,none)] r4.2) (aj (aR 0 r1.1 r4.2) λr5=>aj (aJ r5.1 r5.2) λr6=>aj (aw Tryz.prog .eql 3 false true r6.1 (.af 2) r6.2) λcH=>bf cH.1 (gD call r1.1 r6.1 cH.1 cH.2) (aj (aw Tryz.prog .eql 3 false true r6.1 (.af 5) cH.2) λcK=>bf cK.1 (gD call r1.1 r6.1 cK.1 cK.2) (aj (aw Tryz.prog .eql 3 false true r6.1 (.af 4) cK.2) λcP=>bf cP.1 (gD call r1.1 r6.1 cP.1 cP.2) (aj (aw Tryz.prog .eql 3 false true r6.1 (.af 8) cP.2) λcZ=>gD call r1.1 r6.1 cZ.1 cZ.2))))
def zq{x0:ae}{W:AW}{r:ae×AW}(h:uR bl x0 W=some r):bl (.func (.func 104) #[] #[]) [x0] W=some (gc W r):=bO (nt:=34) (n:=1) (by kernel_rfl) (by kernel_rfl) rfl (aH (by kernel_rfl) h)
def jx(call:Eng.Callee)(R:Nat->ae)(W:AW):Option LT:=aj (aw Tryz.prog .lss 3 false false (R 55) (R 54) W) λgT=>bf gT.1 (aj (iY 1 (R 53) (R 55) gT.2) λgQ=>aj (aJ gQ.1 gQ.2) λgt=>aj (aw Tryz.prog .add 3 false false (R 4) gt.1 gt.2) λii=>aj (aw Tryz.prog .add 3 false true (R 55) (.af 1) ii.2) λgX=>some (X.normal,(bw R [(56,gT.1),(57,gQ.1),(58,gt.1),(9,gt.1),(59,(R 4)),(60,gt.1),(61,ii.1),(4,ii.1),(62,gX.1),(55,gX.1)]),gX.2)) (some (X.exit 3,(eH R (some 56) gT.1),gT.2))
def nl(call:Eng.Callee)(R:Nat->ae)(W:AW):Option LT:=aj (aw Tryz.prog .lss 3 false false (R 37) (R 36) W) λcZ=>bf cZ.1 (aj (iY 3 (R 35) (R 37) cZ.2) λcW=>aj (bA 3 cW.1 cW.2) λdA=>aj (bc Tryz.prog 66 dA.2) λdx=>aj (bU 3 dx.1 dA.1 dx.2) λdI=>aj (bA 3 dx.1 dI.2) λdr=>aj (aR 3 (R 1) dr.2) λeE=>aj (aJ eE.1 eE.2) λeh=>aj (gh Tryz.prog 22 eh.1 none (some (R 37)) none eh.2) λej=>aj (call (cN 47) [dr.1,ej.1] ej.2) λdJ=>aj (aw Tryz.prog .neq 30 false true dJ.1 (.af 0) dJ.2) λdR=>bf dR.1 (some (X.ret,(bw R [(38,cZ.1),(39,(R 37)),(40,cW.1),(41,dA.1),(6,dx.1),(5,(R 37)),(42,dr.1),(43,eE.1),(44,eh.1),(45,(R 37)),(46,ej.1),(47,dJ.1),(7,dJ.1),(48,dJ.1),(49,dR.1),(50,(R 37)),(51,dJ.1),(2,(R 37)),(3,dJ.1)]),dR.2)) (aj (aR 1 dx.1 dR.2) λeN=>aj (aJ eN.1 eN.2) λeC=>aj (aG Tryz.prog .len #[64] 3 #[false] [eC.1] eC.2) λew=>aj (du (jx call) (bw R [(38,cZ.1),(39,(R 37)),(40,cW.1),(41,dA.1),(6,dx.1),(5,(R 37)),(42,dr.1),(43,eE.1),(44,eh.1),(45,(R 37)),(46,ej.1),(47,dJ.1),(7,dJ.1),(48,dJ.1),(49,dR.1),(52,eN.1),(53,eC.1),(54,ew.1),(55,(.af 0))]) ew.2) λiq=>dE 3 iq.1 (aj (aw Tryz.prog .add 3 false true (iq.2.1 37) (.af 1) iq.2.2) λik=>some (X.normal,(bw iq.2.1 [(63,ik.1),(37,ik.1)]),ik.2)) (none))) (some (X.exit 1,(eH R (some 38) cZ.1),cZ.2))
def yo(call:Eng.Callee)(x0:ae)(W:AW):Option (ae×AW):=aj (cC x0 W) λr1=>aj (aR 0 r1.1 r1.2) λr2=>aj (aJ r2.1 r2.2) λr3=>aj (call (cN 45) [r3.1,(.af 1),(.af 16)] r3.2) λr4=>aj (aU (aZ r4.1 false) (aR 1 r1.1 r4.2) (some (ag,r4.2))) λr5=>aj (aU (aZ r4.1 false) (aJ r5.1 r5.2) (some (ag,r5.2))) λr6=>aj (aU (aZ r4.1 false) (call (cN 46) [r6.1,(.af 1),(.af 1000000000)] r6.2) (some (ag,r6.2))) λr7=>aj (bt r4.1 (.bool true) r7.1 r7.2) λr8=>aj (aU (aZ r8.1 false) (aR 2 r1.1 r8.2) (some (ag,r8.2))) λr9=>aj (aU (aZ r8.1 false) (aJ r9.1 r9.2) (some (ag,r9.2))) λbK=>aj (aU (aZ r8.1 false) (call (cN 46) [bK.1,(.af 1),(.af 1000000000)] bK.2) (some (ag,bK.2))) λbN=>aj (bt r8.1 (.bool true) bN.1 bN.2) λcj=>bf cj.1 (aD Tryz.prog [((.af (-1)),none),((.af 7),none)] cj.2) (aj (aR 3 r1.1 cj.2) λcA=>aj (aJ cA.1 cA.2) λcy=>aj (aG Tryz.prog .len #[22] 3 #[false] [cy.1] cy.2) λbX=>aj (aw Tryz.prog .eql 3 false true bX.1 (.af 0) bX.2) λcg=>bf cg.1 (aD Tryz.prog [((.af (-1)),none),((.af 6),none)] cg.2) (aj (aR 3 r1.1 cg.2) λcu=>aj (aJ cu.1 cu.2) λcE=>aj (aG Tryz.prog .len #[22] 3 #[false] [cE.1] cE.2) λbY=>aj (aw Tryz.prog .gtr 3 false true bY.1 (.af 8) bY.2) λcn=>bf cn.1 (aD Tryz.prog [((.af (-1)),none),((.af 3),none)] cn.2) (aj (aR 3 r1.1 cn.2) λcH=>aj (aJ cH.1 cH.2) λcK=>aj (aG Tryz.prog .len #[22] 3 #[false] [cK.1] cK.2) λcP=>aj (du (nl call) (bw (dQ 0 [x0] ak.blank) [(1,r1.1),(2,(.af 0)),(3,(.af 0)),(11,r2.1),(12,r3.1),(13,r4.1),(14,r4.1),(15,r5.1),(16,r6.1),(17,r7.1),(18,r8.1),(19,r8.1),(20,r9.1),(21,bK.1),(22,bN.1),(23,cj.1),(10,cj.1),(25,cA.1),(26,cy.1),(27,bX.1),(28,cg.1),(24,cg.1),(30,cu.1),(31,cE.1),(32,bY.1),(33,cn.1),(29,cn.1),(4,(.af 0)),(34,cH.1),(35,cK.1),(36,cP.1),(37,(.af 0))]) cP.2) λgR=>dE 1 gR.1 (aj (aw Tryz.prog .gtr 3 false true (gR.2.1 4) (.af 4096) gR.2.2) λkN=>bf kN.1 (aD Tryz.prog [((.af (-1)),none),((.af 3),none)] kN.2) (aD Tryz.prog [((.af 0),none),((.af 0),none)] kN.2)) (iK gR.1 (aD Tryz.prog [((gR.2.1 2),none),((gR.2.1 3),none)] gR.2.2)))))
def Bq{x0:ae}{W:AW}{r:ae×AW}(h:yo bl x0 W=some r):bl (.func (.func 33) #[] #[]) [x0] W=some (gc W r):=bO (nt:=66) (n:=1) (by kernel_rfl) (by kernel_rfl) rfl (aH (by kernel_rfl) h)
def mK(call:Eng.Callee)(R:Nat->ae)(W:AW):Option LT:=aj (aR 3 (R 1) W) λcZ=>aj (aJ cZ.1 cZ.2) λcW=>aj (aG Tryz.prog .len #[22] 3 #[false] [cW.1] cW.2) λdA=>aj (aw Tryz.prog .lss 3 false false (R 4) dA.1 dA.2) λdx=>bf dx.1 (aj (bA 4 (R 1) dx.2) λdI=>aj (call (cN 55) [dI.1,(R 4)] dI.2) λdr=>aj (aw Tryz.prog .neq 30 false true dr.1 (.af 0) dr.2) λeE=>bf eE.1 (some (X.ret,(bw R [(30,(R 4)),(31,cZ.1),(32,cW.1),(33,dA.1),(34,dx.1),(37,dI.1),(38,(R 4)),(39,dr.1),(5,dr.1),(40,dr.1),(41,eE.1),(42,(R 4)),(43,dr.1),(2,(R 4)),(3,dr.1)]),eE.2)) (aj (aw Tryz.prog .add 3 false true (R 4) (.af 1) eE.2) λeh=>some (X.normal,(bw R [(30,(R 4)),(31,cZ.1),(32,cW.1),(33,dA.1),(34,dx.1),(37,dI.1),(38,(R 4)),(39,dr.1),(5,dr.1),(40,dr.1),(41,eE.1),(35,(R 4)),(36,eh.1),(4,eh.1)]),eh.2))) (some (X.exit 0,(bw R [(30,(R 4)),(31,cZ.1),(32,cW.1),(33,dA.1),(34,dx.1)]),dx.2))
def yC(call:Eng.Callee)(x0:ae)(W:AW):Option (ae×AW):=aj (cC x0 W) λr1=>aj (aR 0 r1.1 r1.2) λr2=>aj (aJ r2.1 r2.2) λr3=>aj (call (cN 54) [r3.1,(.af 1),(.af 16)] r3.2) λr4=>aj (CP Tryz.prog .not r4.1 r4.2) λr5=>aj (aU (aZ r5.1 false) (aR 1 r1.1 r5.2) (some (ag,r5.2))) λr6=>aj (aU (aZ r5.1 false) (aJ r6.1 r6.2) (some (ag,r6.2))) λr7=>aj (aU (aZ r5.1 false) (call (cN 54) [r7.1,(.af 1),(.af 1000000000)] r7.2) (some (ag,r7.2))) λr8=>aj (aU (aZ r5.1 false) (CP Tryz.prog .not r8.1 r8.2) (some (ag,r8.2))) λr9=>aj (bt r5.1 (.bool true) r9.1 r9.2) λbK=>aj (aU (aZ bK.1 false) (aR 2 r1.1 bK.2) (some (ag,bK.2))) λbN=>aj (aU (aZ bK.1 false) (aJ bN.1 bN.2) (some (ag,bN.2))) λcj=>aj (aU (aZ bK.1 false) (call (cN 54) [cj.1,(.af 1),(.af 1000000000)] cj.2) (some (ag,cj.2))) λcA=>aj (aU (aZ bK.1 false) (CP Tryz.prog .not cA.1 cA.2) (some (ag,cA.2))) λcy=>aj (bt bK.1 (.bool true) cy.1 cy.2) λbX=>bf bX.1 (aD Tryz.prog [((.af (-1)),none),((.af 7),none)] bX.2) (aj (aR 3 r1.1 bX.2) λcg=>aj (aJ cg.1 cg.2) λcu=>aj (aG Tryz.prog .len #[22] 3 #[false] [cu.1] cu.2) λcE=>aj (aw Tryz.prog .eql 3 false true cE.1 (.af 0) cE.2) λbY=>bf bY.1 (aD Tryz.prog [((.af (-1)),none),((.af 6),none)] bY.2) (aj (aR 3 r1.1 bY.2) λcn=>aj (aJ cn.1 cn.2) λcH=>aj (aG Tryz.prog .len #[22] 3 #[false] [cH.1] cH.2) λcK=>aj (aw Tryz.prog .gtr 3 false true cK.1 (.af 8) cK.2) λcP=>bf cP.1 (aD Tryz.prog [((.af (-1)),none),((.af 3),none)] cP.2) (aj (du (mK call) (bw (dQ 0 [x0] ak.blank) [(1,r1.1),(2,(.af 0)),(3,(.af 0)),(6,r2.1),(7,r3.1),(8,r4.1),(9,r5.1),(10,r5.1),(11,r6.1),(12,r7.1),(13,r8.1),(14,r9.1),(15,bK.1),(16,bK.1),(17,bN.1),(18,cj.1),(19,cA.1),(20,cy.1),(21,bX.1),(22,cg.1),(23,cu.1),(24,cE.1),(25,bY.1),(26,cn.1),(27,cH.1),(28,cK.1),(29,cP.1),(4,(.af 0))]) cP.2) λej=>dE 0 ej.1 (aj (bA 4 (ej.2.1 1) ej.2.2) λdJ=>aj (call (cN 56) [dJ.1] dJ.2) λdR=>aj (aG Tryz.prog .len #[127] 3 #[false] [dR.1] dR.2) λeN=>aj (aw Tryz.prog .gtr 3 false true eN.1 (.af 4096) eN.2) λeC=>bf eC.1 (aD Tryz.prog [((.af (-1)),none),((.af 3),none)] eC.2) (aD Tryz.prog [((.af 0),none),((.af 0),none)] eC.2)) (iK ej.1 (aD Tryz.prog [((ej.2.1 2),none),((ej.2.1 3),none)] ej.2.2)))))
def Bb{x0:ae}{W:AW}{r:ae×AW}(h:yC bl x0 W=some r):bl (.func (.func 36) #[] #[]) [x0] W=some (gc W r):=bO (nt:=48) (n:=1) (by kernel_rfl) (by kernel_rfl) rfl (aH (by kernel_rfl) h)
def ko(call:Eng.Callee)(x0 x1 x2:ae)(W:AW):Option (ae×AW):=aj (aw Tryz.prog .lss 3 false false x0 x1 W) λr1=>aj (aU (aZ r1.1 false) (j0 x0 r1.2) (some (ag,r1.2))) λr2=>aj (aU (aZ r1.1 false) (j0 x2 r2.2) (some (ag,r2.2))) λr3=>aj (aU (aZ r1.1 false) (aw Tryz.prog .gtr 3 false false r2.1 r3.1 r3.2) (some (ag,r3.2))) λr4=>aj (bt r1.1 (.bool true) r4.1 r4.2) λr5=>aD Tryz.prog [(r5.1,none)] r5.2
def tj{x0 x1 x2:ae}{W:AW}{r:ae×AW}(h:ko bl x0 x1 x2 W=some r):bl (.func (.func 45) #[] #[]) [x0,x1,x2] W=some (gc W r):=bO (nt:=15) (n:=3) (by kernel_rfl) (by kernel_rfl) rfl (aH (by kernel_rfl) h)
def ja(call:Eng.Callee)(x0 x1 x2:ae)(W:AW):Option (ae×AW):=aj (aw Tryz.prog .lss 2 false false x0 x1 W) λr1=>aj (aU (aZ r1.1 false) (j0 x0 r1.2) (some (ag,r1.2))) λr2=>aj (aU (aZ r1.1 false) (j0 x2 r2.2) (some (ag,r2.2))) λr3=>aj (aU (aZ r1.1 false) (aw Tryz.prog .gtr 2 false false r2.1 r3.1 r3.2) (some (ag,r3.2))) λr4=>aj (bt r1.1 (.bool true) r4.1 r4.2) λr5=>aD Tryz.prog [(r5.1,none)] r5.2
def qG{x0 x1 x2:ae}{W:AW}{r:ae×AW}(h:ja bl x0 x1 x2 W=some r):bl (.func (.func 46) #[] #[]) [x0,x1,x2] W=some (gc W r):=bO (nt:=15) (n:=3) (by kernel_rfl) (by kernel_rfl) rfl (aH (by kernel_rfl) h)
def yO(call:Eng.Callee)(x0 x1:ae)(W:AW):Option (ae×AW):=aj (cC x0 W) λr1=>aj (aR 0 r1.1 r1.2) λr2=>aj (aJ r2.1 r2.2) λr3=>aj (call (cN 70) [r3.1] r3.2) λr4=>aj (CP Tryz.prog .not r4.1 r4.2) λr5=>bf r5.1 (aD Tryz.prog [((.af 6),none)] r5.2) (aj (vq (.func 72) #[] #[r1.1] r5.2) λr6=>aj (call (cN 71) [x1,r6.1] r6.2) λr7=>bf r7.1 (aD Tryz.prog [((.af 8),none)] r7.2) (aj (aR 1 r1.1 r7.2) λr8=>aj (aJ r8.1 r8.2) λr9=>aj (aG Tryz.prog .len #[64] 3 #[false] [r9.1] r9.2) λbK=>aj (aw Tryz.prog .eql 3 false true bK.1 (.af 0) bK.2) λbN=>bf bN.1 (aD Tryz.prog [((.af 6),none)] bN.2) (aj (aR 1 r1.1 bN.2) λcj=>aj (aJ cj.1 cj.2) λcA=>aj (aG Tryz.prog .len #[64] 3 #[false] [cA.1] cA.2) λcy=>aj (aw Tryz.prog .gtr 3 false true cy.1 (.af 16) cy.2) λbX=>bf bX.1 (aD Tryz.prog [((.af 3),none)] bX.2) (aj (aR 1 r1.1 bX.2) λcg=>aj (aJ cg.1 cg.2) λcu=>aj (call (cN 73) [cu.1,(cN 74)] cu.2) λcE=>bf cE.1 (aD Tryz.prog [((.af 7),none)] cE.2) (aj (aR 2 r1.1 cE.2) λbY=>aj (aJ bY.1 bY.2) λcn=>aj (call (cN 45) [cn.1,(.af 0),(.af 64)] cn.2) λcH=>bf cH.1 (aD Tryz.prog [((.af 7),none)] cH.2) (aD Tryz.prog [((.af 0),none)] cH.2))))))
def AS{x0 x1:ae}{W:AW}{r:ae×AW}(h:yO bl x0 x1 W=some r):bl (.func (.func 47) #[] #[]) [x0,x1] W=some (gc W r):=bO (nt:=32) (n:=2) (by kernel_rfl) (by kernel_rfl) rfl (aH (by kernel_rfl) h)
def pS(call:Eng.Callee)(x0 x1 x2:ae)(W:AW):Option (ae×AW):=aj (aw Tryz.prog .geq 2 false false x0 x1 W) λr1=>aj (aU (aZ r1.1 true) (j0 x0 r1.2) (some (ag,r1.2))) λr2=>aj (aU (aZ r1.1 true) (j0 x2 r2.2) (some (ag,r2.2))) λr3=>aj (aU (aZ r1.1 true) (aw Tryz.prog .leq 2 false false r2.1 r3.1 r3.2) (some (ag,r3.2))) λr4=>aj (bt r1.1 r4.1 (.bool false) r4.2) λr5=>aD Tryz.prog [(r5.1,none)] r5.2
def yZ{x0 x1 x2:ae}{W:AW}{r:ae×AW}(h:pS bl x0 x1 x2 W=some r):bl (.func (.func 54) #[] #[]) [x0,x1,x2] W=some (gc W r):=bO (nt:=15) (n:=3) (by kernel_rfl) (by kernel_rfl) rfl (aH (by kernel_rfl) h)
def kB(call:Eng.Callee)(R:Nat->ae)(W:AW):Option LT:=aj (aw Tryz.prog .lss 3 false false (R 6) (R 1) W) λcj=>bf cj.1 (aj (aR 3 (R 2) cj.2) λcA=>aj (aJ cA.1 cA.2) λcy=>aj (iY 3 cy.1 (R 6) cy.2) λbX=>aj (aR 0 bX.1 bX.2) λcg=>aj (aJ cg.1 cg.2) λcu=>aj (aR 0 (R 5) cu.2) λcE=>aj (aJ cE.1 cE.2) λbY=>aj (aw Tryz.prog .eql 9 false false cu.1 bY.1 bY.2) λcn=>bf cn.1 (some (X.ret,(bw R [(17,(R 6)),(18,(R 1)),(19,cj.1),(22,cA.1),(23,cy.1),(24,(R 6)),(25,bX.1),(26,cg.1),(27,cu.1),(28,cE.1),(29,bY.1),(30,cn.1),(4,(.af 8))]),cn.2)) (aj (aw Tryz.prog .add 3 false true (R 6) (.af 1) cn.2) λcH=>some (X.normal,(bw R [(17,(R 6)),(18,(R 1)),(19,cj.1),(22,cA.1),(23,cy.1),(24,(R 6)),(25,bX.1),(26,cg.1),(27,cu.1),(28,cE.1),(29,bY.1),(30,cn.1),(20,(R 6)),(21,cH.1),(6,cH.1)]),cH.2))) (some (X.exit 0,(bw R [(17,(R 6)),(18,(R 1)),(19,cj.1)]),cj.2))
def kr(call:Eng.Callee)(R:Nat->ae)(W:AW):Option LT:=aj (aR 1 (R 5) W) λeh=>aj (aJ eh.1 eh.2) λej=>aj (aG Tryz.prog .len #[64] 3 #[false] [ej.1] ej.2) λdJ=>aj (aw Tryz.prog .lss 3 false false (R 7) dJ.1 dJ.2) λdR=>bf dR.1 (aj (aR 1 (R 5) dR.2) λeN=>aj (aJ eN.1 eN.2) λeC=>aj (iY 1 eC.1 (R 7) eC.2) λew=>aj (aJ ew.1 ew.2) λgT=>aj (call (cN 54) [gT.1,(.af 1),(.af 64)] gT.2) λgQ=>aj (CP Tryz.prog .not gQ.1 gQ.2) λgt=>bf gt.1 (some (X.ret,(bw R [(39,(R 7)),(40,eh.1),(41,ej.1),(42,dJ.1),(43,dR.1),(46,eN.1),(47,eC.1),(48,(R 7)),(49,ew.1),(50,gT.1),(51,gQ.1),(52,gt.1),(4,(.af 7))]),gt.2)) (aj (aw Tryz.prog .add 3 false true (R 7) (.af 1) gt.2) λii=>some (X.normal,(bw R [(39,(R 7)),(40,eh.1),(41,ej.1),(42,dJ.1),(43,dR.1),(46,eN.1),(47,eC.1),(48,(R 7)),(49,ew.1),(50,gT.1),(51,gQ.1),(52,gt.1),(44,(R 7)),(45,ii.1),(7,ii.1)]),ii.2))) (some (X.exit 2,(bw R [(39,(R 7)),(40,eh.1),(41,ej.1),(42,dJ.1),(43,dR.1)]),dR.2))
def tS(call:Eng.Callee)(x0 x1:ae)(W:AW):Option (ae×AW):=aj (cC x0 W) λr1=>aj (aR 3 r1.1 r1.2) λr2=>aj (aJ r2.1 r2.2) λr3=>aj (iY 3 r3.1 x1 r3.2) λr4=>aj (bA 3 r4.1 r4.2) λr5=>aj (bc Tryz.prog 66 r5.2) λr6=>aj (bU 3 r6.1 r5.1 r6.2) λr7=>aj (aR 0 r6.1 r7.2) λr8=>aj (aJ r8.1 r8.2) λr9=>aj (call (cN 78) [r9.1] r9.2) λbK=>aj (CP Tryz.prog .not bK.1 bK.2) λbN=>bf bN.1 (aD Tryz.prog [((.af 6),none)] bN.2) (aj (du (kB call) (bw (dQ 0 [x0,x1] ak.blank) [(2,r1.1),(4,(.af 0)),(8,r2.1),(9,r3.1),(10,x1),(11,r4.1),(12,r5.1),(5,r6.1),(13,r8.1),(14,r9.1),(15,bK.1),(16,bN.1),(6,(.af 0))]) bN.2) λcK=>dE 0 cK.1 (aj (aR 1 (cK.2.1 5) cK.2.2) λcP=>aj (aJ cP.1 cP.2) λcZ=>aj (aG Tryz.prog .len #[64] 3 #[false] [cZ.1] cZ.2) λcW=>aj (aw Tryz.prog .eql 3 false true cW.1 (.af 0) cW.2) λdA=>bf dA.1 (aD Tryz.prog [((.af 6),none)] dA.2) (aj (aR 1 (cK.2.1 5) dA.2) λdx=>aj (aJ dx.1 dx.2) λdI=>aj (aG Tryz.prog .len #[64] 3 #[false] [dI.1] dI.2) λdr=>aj (aw Tryz.prog .gtr 3 false true dr.1 (.af 16) dr.2) λeE=>bf eE.1 (aD Tryz.prog [((.af 3),none)] eE.2) (aj (du (kr call) (bw cK.2.1 [(31,cP.1),(32,cZ.1),(33,cW.1),(34,dA.1),(35,dx.1),(36,dI.1),(37,dr.1),(38,eE.1),(7,(.af 0))]) eE.2) λgX=>dE 2 gX.1 (aj (aR 2 (gX.2.1 5) gX.2.2) λiq=>aj (aJ iq.1 iq.2) λik=>aj (call (cN 54) [ik.1,(.af 0),(.af 64)] ik.2) λgR=>aj (CP Tryz.prog .not gR.1 gR.2) λkN=>bf kN.1 (aD Tryz.prog [((.af 7),none)] kN.2) (aD Tryz.prog [((.af 0),none)] kN.2)) (iK gX.1 (aD Tryz.prog [((gX.2.1 4),none)] gX.2.2))))) (iK cK.1 (aD Tryz.prog [((cK.2.1 4),none)] cK.2.2)))
def xZ{x0 x1:ae}{W:AW}{r:ae×AW}(h:tS bl x0 x1 W=some r):bl (.func (.func 55) #[] #[]) [x0,x1] W=some (gc W r):=bO (nt:=57) (n:=2) (by kernel_rfl) (by kernel_rfl) rfl (aH (by kernel_rfl) h)
def gM(call:Eng.Callee)(R:Nat->ae)(W:AW):Option LT:=aj (aR 3 (R 1) W) λcA=>aj (aJ cA.1 cA.2) λcy=>aj (iY 3 cy.1 (R 4) cy.2) λbX=>aj (aR 1 bX.1 bX.2) λcg=>aj (aJ cg.1 cg.2) λcu=>aj (iY 1 cu.1 (R 5) cu.2) λcE=>aj (aJ cE.1 cE.2) λbY=>aj (aw Tryz.prog .lss 3 false false (R 6) bY.1 bY.2) λcn=>bf cn.1 (aj (bH Tryz.prog 167 [(0,(R 4)),(1,(R 5)),(2,(R 6))] cn.2) λcH=>aj (aC Tryz.prog 127 1 [(0,cH.1)] cH.2) λcK=>aj (aO Tryz.prog cK.2 #[127,127] (R 3) cK.1) λcP=>aj (aw Tryz.prog .add 3 false true (R 6) (.af 1) cP.2) λcZ=>some (X.normal,(bw R [(25,(R 6)),(26,cA.1),(27,cy.1),(28,(R 4)),(29,bX.1),(30,cg.1),(31,cu.1),(32,(R 5)),(33,cE.1),(34,bY.1),(35,cn.1),(38,(R 3)),(39,(R 4)),(40,(R 5)),(41,(R 6)),(42,cH.1),(43,cK.1),(44,cP.1),(3,cP.1),(36,(R 6)),(37,cZ.1),(6,cZ.1)]),cZ.2)) (some (X.exit 4,(bw R [(25,(R 6)),(26,cA.1),(27,cy.1),(28,(R 4)),(29,bX.1),(30,cg.1),(31,cu.1),(32,(R 5)),(33,cE.1),(34,bY.1),(35,cn.1)]),cn.2))
def iX(call:Eng.Callee)(R:Nat->ae)(W:AW):Option LT:=aj (aR 3 (R 1) W) λr6=>aj (aJ r6.1 r6.2) λr7=>aj (iY 3 r7.1 (R 4) r7.2) λr8=>aj (aR 1 r8.1 r8.2) λr9=>aj (aJ r9.1 r9.2) λbK=>aj (aG Tryz.prog .len #[64] 3 #[false] [bK.1] bK.2) λbN=>aj (aw Tryz.prog .lss 3 false false (R 5) bN.1 bN.2) λcj=>bf cj.1 (aj (du (gM call) (bw R [(14,(R 5)),(15,r6.1),(16,r7.1),(17,(R 4)),(18,r8.1),(19,r9.1),(20,bK.1),(21,bN.1),(22,cj.1),(6,(.af 0))]) cj.2) λcW=>dE 4 cW.1 (aj (aw Tryz.prog .add 3 false true (cW.2.1 5) (.af 1) cW.2.2) λdA=>some (X.normal,(bw cW.2.1 [(23,(cW.2.1 5)),(24,dA.1),(5,dA.1)]),dA.2)) (none)) (some (X.exit 2,(bw R [(14,(R 5)),(15,r6.1),(16,r7.1),(17,(R 4)),(18,r8.1),(19,r9.1),(20,bK.1),(21,bN.1),(22,cj.1)]),cj.2))
def lB(call:Eng.Callee)(R:Nat->ae)(W:AW):Option LT:=aj (aR 3 (R 1) W) λr2=>aj (aJ r2.1 r2.2) λr3=>aj (aG Tryz.prog .len #[22] 3 #[false] [r3.1] r3.2) λr4=>aj (aw Tryz.prog .lss 3 false false (R 4) r4.1 r4.2) λr5=>bf r5.1 (aj (du (iX call) (bw R [(7,(R 4)),(8,r2.1),(9,r3.1),(10,r4.1),(11,r5.1),(5,(.af 0))]) r5.2) λdx=>dE 2 dx.1 (aj (aw Tryz.prog .add 3 false true (dx.2.1 4) (.af 1) dx.2.2) λdI=>some (X.normal,(bw dx.2.1 [(12,(dx.2.1 4)),(13,dI.1),(4,dI.1)]),dI.2)) (none)) (some (X.exit 0,(bw R [(7,(R 4)),(8,r2.1),(9,r3.1),(10,r4.1),(11,r5.1)]),r5.2))
def wg(call:Eng.Callee)(x0:ae)(W:AW):Option (ae×AW):=aj (cC x0 W) λr1=>aj (du (lB call) (bw (dQ 0 [x0] ak.blank) [(1,r1.1),(2,(.slice none 0 0)),(3,(.slice none 0 0)),(4,(.af 0))]) r1.2) λdr=>dE 0 dr.1 (aD Tryz.prog [((dr.2.1 3),none)] dr.2.2) (none)
def zl{x0:ae}{W:AW}{r:ae×AW}(h:wg bl x0 W=some r):bl (.func (.func 56) #[] #[]) [x0] W=some (gc W r):=bO (nt:=46) (n:=1) (by kernel_rfl) (by kernel_rfl) rfl (aH (by kernel_rfl) h)
def qk(call:Eng.Callee)(R:Nat->ae)(W:AW):Option LT:=aj (aG Tryz.prog .len #[64] 3 #[false] [(R 6)] W) λr9=>aj (aw Tryz.prog .lss 3 false false (R 9) r9.1 r9.2) λbK=>bf bK.1 (aj (iY 1 (R 6) (R 9) bK.2) λbN=>aj (aJ bN.1 bN.2) λcj=>aj (bH Tryz.prog 135 [(0,(.af 1)),(1,cj.1)] cj.2) λcA=>aj (aC Tryz.prog 130 1 [(0,cA.1)] cA.2) λcy=>aj (aO Tryz.prog cy.2 #[130,130] (R 8) cy.1) λbX=>aj (aw Tryz.prog .add 3 false true (R 9) (.af 1) bX.2) λcg=>some (X.normal,(bw R [(20,(R 9)),(21,(R 6)),(22,r9.1),(23,bK.1),(26,(R 8)),(27,(R 6)),(28,(R 9)),(29,bN.1),(30,cj.1),(31,cA.1),(32,cy.1),(33,bX.1),(8,bX.1),(24,(R 9)),(25,cg.1),(9,cg.1)]),cg.2)) (some (X.exit 0,(bw R [(20,(R 9)),(21,(R 6)),(22,r9.1),(23,bK.1)]),bK.2))
def qm(call:Eng.Callee)(R:Nat->ae)(W:AW):Option LT:=aj (aw Tryz.prog .geq 3 false true (R 10) (.af 0) W) λcP=>bf cP.1 (aj (iY 1 (R 6) (R 10) cP.2) λcZ=>aj (aJ cZ.1 cZ.2) λcW=>aj (bH Tryz.prog 135 [(0,(.af 3)),(1,cW.1)] cW.2) λdA=>aj (aC Tryz.prog 130 1 [(0,dA.1)] dA.2) λdx=>aj (aO Tryz.prog dx.2 #[130,130] (R 8) dx.1) λdI=>aj (aw Tryz.prog .sub 3 false true (R 10) (.af 1) dI.2) λdr=>some (X.normal,(bw R [(41,(R 10)),(42,cP.1),(45,(R 8)),(46,(R 6)),(47,(R 10)),(48,cZ.1),(49,cW.1),(50,dA.1),(51,dx.1),(52,dI.1),(8,dI.1),(43,(R 10)),(44,dr.1),(10,dr.1)]),dr.2)) (some (X.exit 2,(bw R [(41,(R 10)),(42,cP.1)]),cP.2))
def DA(call:Eng.Callee)(x0 x1:ae)(W:AW):Option (ae×AW):=aj (cC x0 W) λr1=>aj (cC x1 r1.2) λr2=>aj (bA 4 r1.1 r2.2) λr3=>aj (bA 12 r2.1 r3.2) λr4=>aj (call (cN 80) [r3.1,r4.1] r4.2) λr5=>aj (au r5.1 0 r5.2) λr6=>aj (au r5.1 1 r6.2) λr7=>aj (aw Tryz.prog .neq 30 false true r7.1 (.af 0) r7.2) λr8=>bf r8.1 (aD Tryz.prog [((.slice none 0 0),none),(r7.1,none)] r8.2) (aj (du (qk call) (bw (dQ 0 [x0,x1] ak.blank) [(2,r1.1),(3,r2.1),(4,(.slice none 0 0)),(5,(.af 0)),(12,r3.1),(13,r4.1),(14,r5.1),(11,r5.1),(15,r6.1),(16,r7.1),(6,r6.1),(7,r7.1),(17,r7.1),(18,r8.1),(8,(.slice none 0 0)),(9,(.af 0))]) r8.2) λcu=>dE 0 cu.1 (aj (bH Tryz.prog 135 [(0,(.af 2))] cu.2.2) λcE=>aj (aC Tryz.prog 130 1 [(0,cE.1)] cE.2) λbY=>aj (aO Tryz.prog bY.2 #[130,130] (cu.2.1 8) bY.1) λcn=>aj (aG Tryz.prog .len #[64] 3 #[false] [(cu.2.1 6)] cn.2) λcH=>aj (aw Tryz.prog .sub 3 false true cH.1 (.af 1) cH.2) λcK=>aj (du (qm call) (bw cu.2.1 [(34,(cu.2.1 8)),(35,cE.1),(36,bY.1),(37,cn.1),(8,cn.1),(38,(cu.2.1 6)),(39,cH.1),(40,cK.1),(10,cK.1)]) cK.2) λeE=>dE 2 eE.1 (aD Tryz.prog [((eE.2.1 8),none),((.af 0),none)] eE.2.2) (none)) (none))
def EK{x0 x1:ae}{W:AW}{r:ae×AW}(h:DA bl x0 x1 W=some r):bl (.func (.func 60) #[] #[]) [x0,x1] W=some (gc W r):=bO (nt:=54) (n:=2) (by kernel_rfl) (by kernel_rfl) rfl (aH (by kernel_rfl) h)
def uF(call:Eng.Callee)(x0:ae)(W:AW):Option (ae×AW):=aj (cC x0 W) λr1=>aj (vq (.func 81) #[] #[r1.1] r1.2) λr2=>aD Tryz.prog [(r2.1,none)] r2.2
def CC{x0:ae}{W:AW}{r:ae×AW}(h:uF bl x0 W=some r):bl (.func (.func 62) #[] #[]) [x0] W=some (gc W r):=bO (nt:=4) (n:=1) (by kernel_rfl) (by kernel_rfl) rfl (aH (by kernel_rfl) h)
def vt(call:Eng.Callee)(x0:ae)(W:AW):Option (ae×AW):=aj (cC x0 W) λr1=>aj (bA 12 r1.1 r1.2) λr2=>aj (call (cN 75) [r2.1] r2.2) λr3=>aj (aw Tryz.prog .neq 30 false true r3.1 (.af 0) r3.2) λr4=>bf r4.1 (aD Tryz.prog [((.af 0),none),((.af 0),none),(r3.1,none)] r4.2) (aj (aR 0 r1.1 r4.2) λr5=>aj (aJ r5.1 r5.2) λr6=>aj (EI 13 1 (ae6 0) r6.1 r6.2) λr7=>aj (aJ r7.1 r7.2) λr8=>aj (aw Tryz.prog .and 3 false true r8.1 (.af 4) r8.2) λr9=>aj (aw Tryz.prog .neq 3 false true r9.1 (.af 0) r9.2) λbK=>bf bK.1 (aj (aR 3 r1.1 bK.2) λbN=>aj (aJ bN.1 bN.2) λcj=>aD Tryz.prog [(cj.1,none),((.af (-1)),none),((.af 0),none)] cj.2) (aj (aw Tryz.prog .and 3 false true r8.1 (.af 64) bK.2) λcA=>aj (aw Tryz.prog .neq 3 false true cA.1 (.af 0) cA.2) λcy=>bf cy.1 (aj (aR 7 r1.1 cy.2) λbX=>aj (aR 0 bX.1 bX.2) λcg=>aj (aJ cg.1 cg.2) λcu=>aj (Dv Tryz.prog 36 3 cu.1 cu.2) λcE=>aD Tryz.prog [(cE.1,none),((.af (-1)),none),((.af 0),none)] cE.2) (aj (aw Tryz.prog .and 3 false true r8.1 (.af 8) cy.2) λbY=>aj (aw Tryz.prog .neq 3 false true bY.1 (.af 0) bY.2) λcn=>bf cn.1 (aj (aR 4 r1.1 cn.2) λcH=>aj (aJ cH.1 cH.2) λcK=>aD Tryz.prog [((.af (-1)),none),(cK.1,none),((.af 0),none)] cK.2) (aD Tryz.prog [((.af (-1)),none),((.af (-1)),none),((.af 0),none)] cn.2))))
def zy{x0:ae}{W:AW}{r:ae×AW}(h:vt bl x0 W=some r):bl (.func (.func 66) #[] #[]) [x0] W=some (gc W r):=bO (nt:=38) (n:=1) (by kernel_rfl) (by kernel_rfl) rfl (aH (by kernel_rfl) h)
def Ak(call:Eng.Callee)(x0:ae)(W:AW):Option (ae×AW):=aj (aw Tryz.prog .eql 9 false true x0 (AJ []) W) λr1=>aj (aU (aZ r1.1 false) (j0 x0 r1.2) (some (ag,r1.2))) λr2=>aj (aU (aZ r1.1 false) (aG Tryz.prog .len #[9] 3 #[false] [r2.1] r2.2) (some (ag,r2.2))) λr3=>aj (aU (aZ r1.1 false) (aw Tryz.prog .gtr 3 false true r3.1 (.af 16) r3.2) (some (ag,r3.2))) λr4=>aj (bt r1.1 (.bool true) r4.1 r4.2) λr5=>aj (aU (aZ r5.1 false) (j0 x0 r5.2) (some (ag,r5.2))) λr6=>aj (aU (aZ r5.1 false) (dU Tryz.prog 9 r6.1 (.af 0) r6.2) (some (ag,r6.2))) λr7=>aj (aU (aZ r5.1 false) (aw Tryz.prog .lss 5 false true r7.1 (.int .u8 97) r7.2) (some (ag,r7.2))) λr8=>aj (bt r5.1 (.bool true) r8.1 r8.2) λr9=>aj (aU (aZ r9.1 false) (j0 x0 r9.2) (some (ag,r9.2))) λbK=>aj (aU (aZ r9.1 false) (dU Tryz.prog 9 bK.1 (.af 0) bK.2) (some (ag,bK.2))) λbN=>aj (aU (aZ r9.1 false) (aw Tryz.prog .gtr 5 false true bN.1 (.int .u8 122) bN.2) (some (ag,bN.2))) λcj=>aj (bt r9.1 (.bool true) cj.1 cj.2) λcA=>bf cA.1 (aD Tryz.prog [((.bool false),none)] cA.2) (aj (call (cN 97) [x0,(AJ [97,98,99,100,101,102,103,104,105,106,107,108,109,110,111,112,113,114,115,116,117,118,119,120,121,122,48,49,50,51,52,53,54,55,56,57,45])] cA.2) λcy=>aj (aw Tryz.prog .eql 9 false true cy.1 (AJ []) cy.2) λbX=>aD Tryz.prog [(bX.1,none)] bX.2)
def CU{x0:ae}{W:AW}{r:ae×AW}(h:Ak bl x0 W=some r):bl (.func (.func 70) #[] #[]) [x0] W=some (gc W r):=bO (nt:=23) (n:=1) (by kernel_rfl) (by kernel_rfl) rfl (aH (by kernel_rfl) h)
def dw(call:Eng.Callee)(x0 x1:ae)(W:AW):Option (ae×AW):=aj (call (cN 98) [x0,x1] W) λr1=>aj (aw Tryz.prog .geq 3 false true r1.1 (.af 0) r1.2) λr2=>aD Tryz.prog [(r2.1,none)] r2.2
def fc{x0 x1:ae}{W:AW}{r:ae×AW}(h:dw bl x0 x1 W=some r):bl (.func (.func 71) #[] #[]) [x0,x1] W=some (gc W r):=bO (nt:=9) (n:=2) (by kernel_rfl) (by kernel_rfl) rfl (aH (by kernel_rfl) h)
def tC(call:Eng.Callee)(x0 x1:ae)(W:AW):Option (ae×AW):=aj (cC x0 W) λr1=>aj (aR 0 r1.1 r1.2) λr2=>aj (aJ r2.1 r2.2) λr3=>aj (aR 0 x1 r3.2) λr4=>aj (aJ r4.1 r4.2) λr5=>aj (aw Tryz.prog .eql 9 false false r3.1 r5.1 r5.2) λr6=>aD Tryz.prog [(r6.1,none)] r6.2
def wO{x0 x1:ae}{W:AW}{r:ae×AW}(h:tC bl x0 x1 W=some r):bl (.func (.func 72) #[] #[x1]) [x0] W=some (gc W r):=bO (nt:=9) (n:=2) (by kernel_rfl) (by kernel_rfl) rfl (aH (by kernel_rfl) h)
def iv(call:Eng.Callee)(x0 x1:ae)(W:AW):Option (ae×AW):=aj (call (cN 99) [x0,x1] W) λr1=>aj (aw Tryz.prog .geq 3 false true r1.1 (.af 0) r1.2) λr2=>aD Tryz.prog [(r2.1,none)] r2.2
def lI{x0 x1:ae}{W:AW}{r:ae×AW}(h:iv bl x0 x1 W=some r):bl (.func (.func 73) #[] #[]) [x0,x1] W=some (gc W r):=bO (nt:=9) (n:=2) (by kernel_rfl) (by kernel_rfl) rfl (aH (by kernel_rfl) h)
def tN(call:Eng.Callee)(x0:ae)(W:AW):Option (ae×AW):=aj (call (cN 45) [x0,(.af 1),(.af 64)] W) λr1=>aD Tryz.prog [(r1.1,none)] r1.2
def xp{x0:ae}{W:AW}{r:ae×AW}(h:tN bl x0 W=some r):bl (.func (.func 74) #[] #[]) [x0] W=some (gc W r):=bO (nt:=5) (n:=1) (by kernel_rfl) (by kernel_rfl) rfl (aH (by kernel_rfl) h)
def yM(call:Eng.Callee)(x0 x1:ae)(W:AW):Option (ae×AW):=aj (cC x0 W) λr1=>aj (cC x1 r1.2) λr2=>aj (bA 4 r1.1 r2.2) λr3=>aj (bA 12 r2.1 r3.2) λr4=>aj (call (cN 101) [r3.1,r4.1] r4.2) λr5=>aj (au r5.1 0 r5.2) λr6=>aj (au r5.1 1 r6.2) λr7=>aj (aw Tryz.prog .neq 30 false true r7.1 (.af 0) r7.2) λr8=>bf r8.1 (aD Tryz.prog [((.af 0),none),(r7.1,none)] r8.2) (aj (aG Tryz.prog .len #[64] 3 #[false] [r6.1] r8.2) λr9=>aj (aw Tryz.prog .mul 3 true false (.af 2) r9.1 r9.2) λbK=>aj (aw Tryz.prog .add 3 false true bK.1 (.af 1) bK.2) λbN=>aD Tryz.prog [(bN.1,none),((.af 0),none)] bN.2)
def Aj{x0 x1:ae}{W:AW}{r:ae×AW}(h:yM bl x0 x1 W=some r):bl (.func (.func 77) #[] #[]) [x0,x1] W=some (gc W r):=bO (nt:=21) (n:=2) (by kernel_rfl) (by kernel_rfl) rfl (aH (by kernel_rfl) h)
def ov(call:Eng.Callee)(R:Nat->ae)(W:AW):Option LT:=aj (aG Tryz.prog .len #[9] 3 #[false] [(R 0)] W) λcj=>aj (aw Tryz.prog .lss 3 false false (R 3) cj.1 cj.2) λcA=>bf cA.1 (aj (dU Tryz.prog 9 (R 0) (R 3) cA.2) λcy=>aj (call (cN 102) [cy.1] cy.2) λbX=>aj (CP Tryz.prog .not bX.1 bX.2) λcg=>aj (aU (aZ cg.1 true) (j0 (R 0) cg.2) (some (ag,cg.2))) λcu=>aj (aU (aZ cg.1 true) (j0 (R 3) cu.2) (some (ag,cu.2))) λcE=>aj (aU (aZ cg.1 true) (dU Tryz.prog 9 cu.1 cE.1 cE.2) (some (ag,cE.2))) λbY=>aj (aU (aZ cg.1 true) (call (cN 103) [bY.1] bY.2) (some (ag,bY.2))) λcn=>aj (aU (aZ cg.1 true) (CP Tryz.prog .not cn.1 cn.2) (some (ag,cn.2))) λcH=>aj (bt cg.1 cH.1 (.bool false) cH.2) λcK=>aj (aU (aZ cK.1 true) (j0 (R 0) cK.2) (some (ag,cK.2))) λcP=>aj (aU (aZ cK.1 true) (j0 (R 3) cP.2) (some (ag,cP.2))) λcZ=>aj (aU (aZ cK.1 true) (dU Tryz.prog 9 cP.1 cZ.1 cZ.2) (some (ag,cZ.2))) λcW=>aj (aU (aZ cK.1 true) (aw Tryz.prog .neq 5 false true cW.1 (.int .u8 45) cW.2) (some (ag,cW.2))) λdA=>aj (bt cK.1 dA.1 (.bool false) dA.2) λdx=>bf dx.1 (some (X.ret,(bw R [(18,(R 3)),(19,(R 0)),(20,cj.1),(21,cA.1),(24,(R 0)),(25,(R 3)),(26,cy.1),(27,bX.1),(28,cg.1),(29,cg.1),(30,cu.1),(31,cE.1),(32,bY.1),(33,cn.1),(34,cH.1),(35,cK.1),(36,cK.1),(37,cP.1),(38,cZ.1),(39,cW.1),(40,dA.1),(41,dx.1),(2,(.bool false))]),dx.2)) (aj (aw Tryz.prog .add 3 false true (R 3) (.af 1) dx.2) λdI=>some (X.normal,(bw R [(18,(R 3)),(19,(R 0)),(20,cj.1),(21,cA.1),(24,(R 0)),(25,(R 3)),(26,cy.1),(27,bX.1),(28,cg.1),(29,cg.1),(30,cu.1),(31,cE.1),(32,bY.1),(33,cn.1),(34,cH.1),(35,cK.1),(36,cK.1),(37,cP.1),(38,cZ.1),(39,cW.1),(40,dA.1),(41,dx.1),(22,(R 3)),(23,dI.1),(3,dI.1)]),dI.2))) (some (X.exit 0,(bw R [(18,(R 3)),(19,(R 0)),(20,cj.1),(21,cA.1)]),cA.2))
def A9(call:Eng.Callee)(x0:ae)(W:AW):Option (ae×AW):=aj (aG Tryz.prog .len #[9] 3 #[false] [x0] W) λr1=>aj (aw Tryz.prog .lss 3 false true r1.1 (.af 1) r1.2) λr2=>aj (aU (aZ r2.1 false) (j0 x0 r2.2) (some (ag,r2.2))) λr3=>aj (aU (aZ r2.1 false) (aG Tryz.prog .len #[9] 3 #[false] [r3.1] r3.2) (some (ag,r3.2))) λr4=>aj (aU (aZ r2.1 false) (aw Tryz.prog .gtr 3 false true r4.1 (.af 16) r4.2) (some (ag,r4.2))) λr5=>aj (bt r2.1 (.bool true) r5.1 r5.2) λr6=>aj (aU (aZ r6.1 false) (j0 x0 r6.2) (some (ag,r6.2))) λr7=>aj (aU (aZ r6.1 false) (dU Tryz.prog 9 r7.1 (.af 0) r7.2) (some (ag,r7.2))) λr8=>aj (aU (aZ r6.1 false) (call (cN 102) [r8.1] r8.2) (some (ag,r8.2))) λr9=>aj (aU (aZ r6.1 false) (CP Tryz.prog .not r9.1 r9.2) (some (ag,r9.2))) λbK=>aj (bt r6.1 (.bool true) bK.1 bK.2) λbN=>bf bN.1 (aD Tryz.prog [((.bool false),none)] bN.2) (aj (du (ov call) (bw (dQ 0 [x0] ak.blank) [(2,(.bool false)),(4,x0),(5,r1.1),(6,r2.1),(7,r2.1),(8,r3.1),(9,r4.1),(10,r5.1),(11,r6.1),(12,r6.1),(13,r7.1),(14,r8.1),(15,r9.1),(16,bK.1),(17,bN.1),(3,(.af 0))]) bN.2) λdr=>dE 0 dr.1 (aD Tryz.prog [((.bool true),none)] dr.2.2) (iK dr.1 (aD Tryz.prog [((dr.2.1 2),none)] dr.2.2)))
def CV{x0:ae}{W:AW}{r:ae×AW}(h:A9 bl x0 W=some r):bl (.func (.func 78) #[] #[]) [x0] W=some (gc W r):=bO (nt:=42) (n:=1) (by kernel_rfl) (by kernel_rfl) rfl (aH (by kernel_rfl) h)
def mN(call:Eng.Callee)(R:Nat->ae)(W:AW):Option LT:=aj (aR 0 (R 2) W) λcu=>aj (aJ cu.1 cu.2) λcE=>aj (aR 3 (R 2) cE.2) λbY=>aj (aJ bY.1 bY.2) λcn=>aj (aG Tryz.prog .len #[22] 3 #[false] [cn.1] cn.2) λcH=>aj (aw Tryz.prog .add 3 false false cE.1 cH.1 cH.2) λcK=>aj (aw Tryz.prog .lss 3 false false (R 11) cK.1 cK.2) λcP=>bf cP.1 (aj (aC Tryz.prog 64 1 [(0,(R 11))] cP.2) λcZ=>aj (aO Tryz.prog cZ.2 #[64,64] (R 10) cZ.1) λcW=>aj (aw Tryz.prog .add 3 false true (R 11) (.af 1) cW.2) λdA=>some (X.normal,(bw R [(39,(R 11)),(40,cu.1),(41,cE.1),(42,bY.1),(43,cn.1),(44,cH.1),(45,cK.1),(46,cP.1),(49,(R 10)),(50,(R 11)),(51,cZ.1),(52,cW.1),(10,cW.1),(47,(R 11)),(48,dA.1),(11,dA.1)]),dA.2)) (some (X.exit 0,(bw R [(39,(R 11)),(40,cu.1),(41,cE.1),(42,bY.1),(43,cn.1),(44,cH.1),(45,cK.1),(46,cP.1)]),cP.2))
def yq(call:Eng.Callee)(x0 x1:ae)(W:AW):Option (ae×AW):=aj (cC x0 W) λr1=>aj (cC x1 r1.2) λr2=>aj (bA 4 r1.1 r2.2) λr3=>aj (call (cN 36) [r3.1] r3.2) λr4=>aj (au r4.1 0 r4.2) λr5=>aj (au r4.1 1 r5.2) λr6=>aj (aw Tryz.prog .neq 30 false true r6.1 (.af 0) r6.2) λr7=>bf r7.1 (aD Tryz.prog [((.slice none 0 0),none),(r6.1,none)] r7.2) (aj (bA 12 r2.1 r7.2) λr8=>aj (call (cN 104) [r8.1] r8.2) λr9=>aj (au r9.1 0 r9.2) λbK=>aj (au r9.1 1 bK.2) λbN=>aj (au r9.1 2 bN.2) λcj=>aj (aw Tryz.prog .neq 30 false true cj.1 (.af 0) cj.2) λcA=>bf cA.1 (aD Tryz.prog [((.slice none 0 0),none),(cj.1,none)] cA.2) (aj (aR 0 r2.1 cA.2) λcy=>aj (aJ cy.1 cy.2) λbX=>aj (aw Tryz.prog .eql 3 false true bX.1 (.af 12) bX.2) λcg=>bf cg.1 (aj (du (mN call) (bw (dQ 0 [x0,x1] ak.blank) [(2,r1.1),(3,r2.1),(4,(.slice none 0 0)),(5,(.af 0)),(20,r3.1),(21,r4.1),(19,r4.1),(22,r5.1),(23,r6.1),(6,r5.1),(7,r6.1),(24,r6.1),(25,r7.1),(28,r8.1),(29,r9.1),(27,r9.1),(30,bK.1),(31,bN.1),(32,cj.1),(8,bK.1),(9,bN.1),(7,cj.1),(33,cj.1),(34,cA.1),(36,cy.1),(37,bX.1),(38,cg.1),(10,(.slice none 0 0)),(11,(.af 0))]) cg.2) λdx=>dE 0 dx.1 (aD Tryz.prog [((dx.2.1 10),none),((.af 0),none)] dx.2.2) (none)) (aj (aR 0 r2.1 cg.2) λdI=>aj (aJ dI.1 dI.2) λdr=>aj (aw Tryz.prog .eql 3 false true dr.1 (.af 1) dr.2) λeE=>bf eE.1 (aD Tryz.prog [((.slice none 0 0),none),((.af 0),none)] eE.2) (aj (aw Tryz.prog .geq 3 false true bN.1 (.af 0) eE.2) λeh=>aj (aU (aZ eh.1 false) (aR 0 r2.1 eh.2) (some (ag,eh.2))) λej=>aj (aU (aZ eh.1 false) (aJ ej.1 ej.2) (some (ag,ej.2))) λdJ=>aj (aU (aZ eh.1 false) (aw Tryz.prog .eql 3 false true dJ.1 (.af 3) dJ.2) (some (ag,dJ.2))) λdR=>aj (bt eh.1 (.bool true) dR.1 dR.2) λeN=>aj (aU (aZ eN.1 false) (aR 0 r2.1 eN.2) (some (ag,eN.2))) λeC=>aj (aU (aZ eN.1 false) (aJ eC.1 eC.2) (some (ag,eC.2))) λew=>aj (aU (aZ eN.1 false) (aw Tryz.prog .eql 3 false true ew.1 (.af 10) ew.2) (some (ag,ew.2))) λgT=>aj (bt eN.1 (.bool true) gT.1 gT.2) λgQ=>aj (aU (aZ gQ.1 false) (aR 0 r2.1 gQ.2) (some (ag,gQ.2))) λgt=>aj (aU (aZ gQ.1 false) (aJ gt.1 gt.2) (some (ag,gt.2))) λii=>aj (aU (aZ gQ.1 false) (aw Tryz.prog .eql 3 false true ii.1 (.af 11) ii.2) (some (ag,ii.2))) λgX=>aj (bt gQ.1 (.bool true) gX.1 gX.2) λiq=>bf iq.1 (aj (bA 4 r1.1 iq.2) λik=>aj (call (cN 105) [ik.1,bN.1] ik.2) λgR=>aj (au gR.1 0 gR.2) λkN=>aj (au gR.1 1 kN.2) λnB=>aj (aw Tryz.prog .neq 30 false true nB.1 (.af 0) nB.2) λod=>bf od.1 (aD Tryz.prog [((.slice none 0 0),none),((.af 0),none)] od.2) (aj (aR 0 r2.1 od.2) λpv=>aj (aJ pv.1 pv.2) λpw=>aj (aw Tryz.prog .neq 3 false true pw.1 (.af 3) pw.2) λpU=>bf pU.1 (aj (aC Tryz.prog 64 1 [(0,kN.1)] pU.2) λqt=>aD Tryz.prog [(qt.1,none),((.af 0),none)] qt.2) (aj (bA 4 r1.1 pU.2) λtP=>aj (call (cN 106) [tP.1,bN.1] tP.2) λqT=>aj (au qT.1 0 qT.2) λyD=>aj (au qT.1 1 yD.2) λtR=>aD Tryz.prog [(yD.1,none),(tR.1,none)] tR.2))) (aj (bA 4 r1.1 iq.2) λyh=>aj (call (cN 107) [yh.1,bK.1] yh.2) λxH=>aj (au xH.1 0 xH.2) λt6=>aj (au xH.1 1 t6.2) λwN=>aj (bc Tryz.prog 167 wN.2) λuO=>aj (bU 3 uO.1 t6.1 uO.2) λAB=>aj (aw Tryz.prog .neq 30 false true wN.1 (.af 0) AB.2) λzm=>bf zm.1 (aD Tryz.prog [((.slice none 0 0),none),((.af 0),none)] zm.2) (aj (bA 4 r1.1 zm.2) λt8=>aj (call (cN 108) [t8.1,bK.1] t8.2) λza=>aj (au za.1 0 za.2) λuL=>aj (au za.1 1 uL.2) λBw=>aj (aR 0 r2.1 Bw.2) λuC=>aj (aJ uC.1 uC.2) λyj=>aj (aw Tryz.prog .eql 3 false true yj.1 (.af 4) yj.2) λw7=>aj (aU (aZ w7.1 false) (aR 0 r2.1 w7.2) (some (ag,w7.2))) λoe=>aj (aU (aZ w7.1 false) (aJ oe.1 oe.2) (some (ag,oe.2))) λuI=>aj (aU (aZ w7.1 false) (aw Tryz.prog .eql 3 false true uI.1 (.af 8) uI.2) (some (ag,uI.2))) λBl=>aj (bt w7.1 (.bool true) Bl.1 Bl.2) λwL=>aj (aU (aZ wL.1 false) (aR 0 r2.1 wL.2) (some (ag,wL.2))) λCv=>aj (aU (aZ wL.1 false) (aJ Cv.1 Cv.2) (some (ag,Cv.2))) λuW=>aj (aU (aZ wL.1 false) (aw Tryz.prog .eql 3 false true uW.1 (.af 7) uW.2) (some (ag,uW.2))) λCt=>aj (bt wL.1 (.bool true) Ct.1 Ct.2) λBE=>bf BE.1 (aj (bA 4 r1.1 BE.2) λC7=>aj (aR 0 uO.1 C7.2) λFA=>aj (aJ FA.1 FA.2) λFc=>aj (call (cN 105) [C7.1,Fc.1] Fc.2) λDh=>aj (au Dh.1 0 Dh.2) λFx=>aj (au Dh.1 1 Fx.2) λFU=>aj (aC Tryz.prog 64 2 [(0,uL.1),(1,Fx.1)] FU.2) λCA=>aD Tryz.prog [(CA.1,none),((.af 0),none)] CA.2) (aj (aC Tryz.prog 64 1 [(0,uL.1)] BE.2) λD0=>aD Tryz.prog [(D0.1,none),((.af 0),none)] D0.2)))))))
def Cc{x0 x1:ae}{W:AW}{r:ae×AW}(h:yq bl x0 x1 W=some r):bl (.func (.func 80) #[] #[]) [x0,x1] W=some (gc W r):=bO (nt:=131) (n:=2) (by kernel_rfl) (by kernel_rfl) rfl (aH (by kernel_rfl) h)
def iZ(call:Eng.Callee)(R:Nat->ae)(W:AW):Option LT:=aj (aw Tryz.prog .lss 3 false false (R 19) (R 18) W) λcj=>bf cj.1 (aj (iY 1 (R 17) (R 19) cj.2) λcA=>aj (aJ cA.1 cA.2) λcy=>aj (bH Tryz.prog 140 [(0,(R 4)),(1,(R 19)),(2,(R 3)),(3,cy.1)] cy.2) λbX=>aj (call (R 0) [bX.1] bX.2) λcg=>aj (CP Tryz.prog .not cg.1 cg.2) λcu=>bf cu.1 (some (X.ret,(bw R [(20,cj.1),(21,(R 19)),(22,cA.1),(23,cy.1),(6,(R 19)),(7,cy.1),(24,(R 0)),(25,(R 4)),(26,(R 19)),(27,(R 3)),(28,cy.1),(29,bX.1),(30,cg.1),(31,cu.1)]),cu.2)) (aj (aw Tryz.prog .add 3 false false (R 3) cy.1 cu.2) λcE=>aj (aw Tryz.prog .add 3 false true (R 19) (.af 1) cE.2) λbY=>some (X.normal,(bw R [(20,cj.1),(21,(R 19)),(22,cA.1),(23,cy.1),(6,(R 19)),(7,cy.1),(24,(R 0)),(25,(R 4)),(26,(R 19)),(27,(R 3)),(28,cy.1),(29,bX.1),(30,cg.1),(31,cu.1),(32,(R 3)),(33,cy.1),(34,cE.1),(3,cE.1),(35,bY.1),(19,bY.1)]),bY.2))) (some (X.exit 2,(eH R (some 20) cj.1),cj.2))
def lQ(call:Eng.Callee)(R:Nat->ae)(W:AW):Option LT:=aj (aw Tryz.prog .lss 3 false false (R 11) (R 10) W) λr4=>bf r4.1 (aj (iY 3 (R 9) (R 11) r4.2) λr5=>aj (bA 3 r5.1 r5.2) λr6=>aj (bc Tryz.prog 66 r6.2) λr7=>aj (bU 3 r7.1 r6.1 r7.2) λr8=>aj (aR 1 r7.1 r8.2) λr9=>aj (aJ r9.1 r9.2) λbK=>aj (aG Tryz.prog .len #[64] 3 #[false] [bK.1] bK.2) λbN=>aj (du (iZ call) (bw R [(12,r4.1),(13,(R 11)),(14,r5.1),(15,r6.1),(5,r7.1),(4,(R 11)),(16,r9.1),(17,bK.1),(18,bN.1),(19,(.af 0))]) bN.2) λcn=>dE 2 cn.1 (aj (aw Tryz.prog .add 3 false true (cn.2.1 11) (.af 1) cn.2.2) λcH=>some (X.normal,(bw cn.2.1 [(36,cH.1),(11,cH.1)]),cH.2)) (iK cn.1 (some (X.ret,cn.2.1,cn.2.2)))) (some (X.exit 0,(eH R (some 12) r4.1),r4.2))
def pz(call:Eng.Callee)(x0 x1:ae)(W:AW):Option (ae×AW):=aj (aR 3 x1 W) λr1=>aj (aJ r1.1 r1.2) λr2=>aj (aG Tryz.prog .len #[22] 3 #[false] [r2.1] r2.2) λr3=>aj (du (lQ call) (bw (dQ 0 [x0,x1] ak.blank) [(3,(.af 0)),(8,r1.1),(9,r2.1),(10,r3.1),(11,(.af 0))]) r3.2) λcK=>dE 0 cK.1 (aD Tryz.prog [] cK.2.2) (iK cK.1 (aD Tryz.prog [] cK.2.2))
def zB{x0 x1:ae}{W:AW}{r:ae×AW}(h:pz bl x0 x1 W=some r):bl (.func (.func 81) #[] #[x1]) [x0] W=some (gc W r):=bO (nt:=37) (n:=2) (by kernel_rfl) (by kernel_rfl) rfl (aH (by kernel_rfl) h)
def wt(call:Eng.Callee)(x0 x1:ae)(W:AW):Option (ae×AW):=aj (aw Tryz.prog .eql 9 false true x0 (AJ []) W) λr1=>aj (aU (aZ r1.1 false) (j0 x1 r1.2) (some (ag,r1.2))) λr2=>aj (aU (aZ r1.1 false) (aw Tryz.prog .eql 9 false true r2.1 (AJ []) r2.2) (some (ag,r2.2))) λr3=>aj (bt r1.1 (.bool true) r3.1 r3.2) λr4=>bf r4.1 (aD Tryz.prog [(x0,none)] r4.2) (aj (aG Tryz.prog .len #[9] 3 #[false] [x1] r4.2) λr5=>aj (aw Tryz.prog .eql 3 false true r5.1 (.af 1) r5.2) λr6=>aj (aU (aZ r6.1 true) (j0 x1 r6.2) (some (ag,r6.2))) λr7=>aj (aU (aZ r6.1 true) (dU Tryz.prog 9 r7.1 (.af 0) r7.2) (some (ag,r7.2))) λr8=>aj (aU (aZ r6.1 true) (aw Tryz.prog .lss 5 false true r8.1 (.int .u8 128) r8.2) (some (ag,r8.2))) λr9=>aj (bt r6.1 r9.1 (.bool false) r9.2) λbK=>bf bK.1 (aj (dU Tryz.prog 9 x1 (.af 0) bK.2) λbN=>aj (dU Tryz.prog 9 x1 (.af 0) bN.2) λcj=>aj (call (cN 131) [x0,bN.1] cj.2) λcA=>aj (call (cN 130) [cA.1,cj.1] cA.2) λcy=>aD Tryz.prog [(cy.1,none)] cy.2) (aj (call (cN 132) [x1] bK.2) λbX=>aj (au bX.1 0 bX.2) λcg=>aj (au bX.1 1 cg.2) λcu=>aj (bc Tryz.prog 212 cu.2) λcE=>aj (bU 256 cE.1 cg.1 cE.2) λbY=>bf cu.1 (aj (call (cN 134) [x0,cE.1] bY.2) λcn=>aj (call (cN 133) [cn.1,cE.1] cn.2) λcH=>aD Tryz.prog [(cH.1,none)] cH.2) (aj (call (cN 136) [x0,x1] bY.2) λcK=>aj (call (cN 135) [cK.1,x1] cK.2) λcP=>aD Tryz.prog [(cP.1,none)] cP.2)))
def zu{x0 x1:ae}{W:AW}{r:ae×AW}(h:wt bl x0 x1 W=some r):bl (.func (.func 97) #[] #[]) [x0,x1] W=some (gc W r):=bO (nt:=43) (n:=2) (by kernel_rfl) (by kernel_rfl) rfl (aH (by kernel_rfl) h)
def cq(call:Eng.Callee)(R:Nat->ae)(W:AW):Option LT:=aj (aw Tryz.prog .lss 3 false false (R 8) (R 7) W) λr2=>bf r2.1 (aj (iY 3 (R 0) (R 8) r2.2) λr3=>aj (bA 3 r3.1 r3.2) λr4=>aj (call (R 1) [r4.1] r4.2) λr5=>bf r5.1 (some (X.ret,(bw R [(9,r2.1),(10,(R 8)),(5,(R 8)),(11,(R 1)),(12,(R 0)),(13,(R 8)),(14,r3.1),(15,r4.1),(16,r5.1),(17,(R 8)),(4,(R 8))]),r5.2)) (aj (aw Tryz.prog .add 3 false true (R 8) (.af 1) r5.2) λr6=>some (X.normal,(bw R [(9,r2.1),(10,(R 8)),(5,(R 8)),(11,(R 1)),(12,(R 0)),(13,(R 8)),(14,r3.1),(15,r4.1),(16,r5.1),(18,r6.1),(8,r6.1)]),r6.2))) (some (X.exit 0,(eH R (some 9) r2.1),r2.2))
def dD(call:Eng.Callee)(x0 x1:ae)(W:AW):Option (ae×AW):=aj (aG Tryz.prog .len #[22] 3 #[false] [x0] W) λr1=>aj (du (cq call) (bw (dQ 0 [x0,x1] ak.blank) [(4,(.af 0)),(6,x0),(7,r1.1),(8,(.af 0))]) r1.2) λr7=>dE 0 r7.1 (aD Tryz.prog [((.af (-1)),none)] r7.2.2) (iK r7.1 (aD Tryz.prog [((r7.2.1 4),none)] r7.2.2))
def fH{x0 x1:ae}{W:AW}{r:ae×AW}(h:dD bl x0 x1 W=some r):bl (.func (.func 98) #[] #[]) [x0,x1] W=some (gc W r):=bO (nt:=19) (n:=2) (by kernel_rfl) (by kernel_rfl) rfl (aH (by kernel_rfl) h)
def fd(call:Eng.Callee)(R:Nat->ae)(W:AW):Option LT:=aj (aw Tryz.prog .lss 3 false false (R 8) (R 7) W) λr2=>bf r2.1 (aj (iY 1 (R 0) (R 8) r2.2) λr3=>aj (aJ r3.1 r3.2) λr4=>aj (call (R 1) [r4.1] r4.2) λr5=>bf r5.1 (some (X.ret,(bw R [(9,r2.1),(10,(R 8)),(5,(R 8)),(11,(R 1)),(12,(R 0)),(13,(R 8)),(14,r3.1),(15,r4.1),(16,r5.1),(17,(R 8)),(4,(R 8))]),r5.2)) (aj (aw Tryz.prog .add 3 false true (R 8) (.af 1) r5.2) λr6=>some (X.normal,(bw R [(9,r2.1),(10,(R 8)),(5,(R 8)),(11,(R 1)),(12,(R 0)),(13,(R 8)),(14,r3.1),(15,r4.1),(16,r5.1),(18,r6.1),(8,r6.1)]),r6.2))) (some (X.exit 0,(eH R (some 9) r2.1),r2.2))
def jY(call:Eng.Callee)(x0 x1:ae)(W:AW):Option (ae×AW):=aj (aG Tryz.prog .len #[64] 3 #[false] [x0] W) λr1=>aj (du (fd call) (bw (dQ 0 [x0,x1] ak.blank) [(4,(.af 0)),(6,x0),(7,r1.1),(8,(.af 0))]) r1.2) λr7=>dE 0 r7.1 (aD Tryz.prog [((.af (-1)),none)] r7.2.2) (iK r7.1 (aD Tryz.prog [((r7.2.1 4),none)] r7.2.2))
def nz{x0 x1:ae}{W:AW}{r:ae×AW}(h:jY bl x0 x1 W=some r):bl (.func (.func 99) #[] #[]) [x0,x1] W=some (gc W r):=bO (nt:=19) (n:=2) (by kernel_rfl) (by kernel_rfl) rfl (aH (by kernel_rfl) h)
def sm(call:Eng.Callee)(R:Nat->ae)(W:AW):Option LT:=aj (bc Tryz.prog 135 W) λcg=>aj (bU 2 cg.1 (R 25) cg.2) λcu=>some (X.normal,(bw R [(10,(R 24)),(11,cg.1)]),cu.2)
def vX(call:Eng.Callee)(R:Nat->ae)(W:AW):fK Tryz.prog call false 31 (FB [1,1,1,0,1,0,0] (OV 100)) LT R W mg=sm call R W:=by kernel_rfl
def qV(call:Eng.Callee)(R:Nat->ae)(W:AW):Option LT:=aj (aJ (R 5) W) λcE=>aj (aw Tryz.prog .eql 3 false false (R 10) cE.1 cE.2) λbY=>bf bY.1 (aj (bA 2 (R 11) bY.2) λcn=>aj (bU 2 (R 6) cn.1 cn.2) λcH=>aj (bU 1 (R 7) (.af 0) cH.2) λcK=>some (X.ret,(bw R [(26,(R 10)),(27,cE.1),(28,bY.1),(29,cn.1)]),cK.2)) (some (X.normal,(bw R [(26,(R 10)),(27,cE.1),(28,bY.1)]),bY.2))
def vO(call:Eng.Callee)(R:Nat->ae)(W:AW):fK Tryz.prog call false 31 (FB [1,1,1,0,1,0,1] (OV 100)) LT R W mg=qV call R W:=by kernel_rfl
def Bs(call:Eng.Callee)(x0 x1 x2:ae)(W:AW):Option (ae×AW):=aj (cC x0 W) λr1=>aj (cC x1 r1.2) λr2=>aj (cC x2 r2.2) λr3=>aj (bc Tryz.prog 135 r3.2) λr4=>aj (bc Tryz.prog 30 r4.2) λr5=>aj (bA 4 r1.1 r5.2) λr6=>aj (bA 12 r2.1 r6.2) λr7=>aj (call (cN 101) [r6.1,r7.1] r7.2) λr8=>aj (au r8.1 0 r8.2) λr9=>aj (au r8.1 1 r9.2) λbK=>aj (aw Tryz.prog .neq 30 false true bK.1 (.af 0) bK.2) λbN=>bf bN.1 (aj (bH Tryz.prog 135 [] bN.2) λcj=>aj (bU 2 r4.1 cj.1 cj.2) λcA=>aj (bU 1 r5.1 bK.1 cA.2) λcy=>aD Tryz.prog [(r4.1,some 135),(r5.1,some 30)] cy.2) (aj (call (cN 137) [r9.1] bN.2) λbX=>aj (jb call bX.1 (.loop .ready none (bw (dQ 0 [x0,x1,x2] ak.blank) [(3,r1.1),(4,r2.1),(5,r3.1),(6,r4.1),(7,r5.1),(13,r6.1),(14,r7.1),(15,r8.1),(12,r8.1),(16,r9.1),(17,bK.1),(8,r9.1),(9,bK.1),(18,bK.1),(19,bN.1),(22,r9.1),(23,bX.1)]) 31 #[24,25] (FB [1,1,1,0,1,0,0] (OV 100)) (FB [1,1,1,0,1,0,1] (OV 100))) bX.2) λcP=>qy cP.1 (aj (bH Tryz.prog 135 [] cP.2) λcZ=>aj (bU 2 r4.1 cZ.1 cZ.2) λcW=>aj (bU 1 r5.1 (.af 7) cW.2) λdA=>aD Tryz.prog [(r4.1,some 135),(r5.1,some 30)] dA.2) (iK cP.1 (aD Tryz.prog [(r4.1,some 135),(r5.1,some 30)] cP.2)))
def CZ{x0 x1 x2:ae}{W:AW}{r:ae×AW}(h:Bs bl x0 x1 x2 W=some r):bl (.func (.func 100) #[] #[]) [x0,x1,x2] W=some (gc W r):=bO (nt:=31) (n:=3) (by kernel_rfl) (by kernel_rfl) rfl (aH (by kernel_rfl) h)
def mQ(call:Eng.Callee)(R:Nat->ae)(W:AW):Option LT:=aj (aw Tryz.prog .lss 3 false false (R 64) (R 63) W) λcP=>bf cP.1 (aj (aC Tryz.prog 64 1 [(0,(R 64))] cP.2) λcZ=>aj (aO Tryz.prog cZ.2 #[64,64] (R 11) cZ.1) λcW=>aj (aw Tryz.prog .add 3 false true (R 64) (.af 1) cW.2) λdA=>some (X.normal,(bw R [(65,cP.1),(66,(R 64)),(12,(R 64)),(67,(R 11)),(68,(R 64)),(69,cZ.1),(70,cW.1),(11,cW.1),(71,dA.1),(64,dA.1)]),dA.2)) (some (X.exit 6,(eH R (some 65) cP.1),cP.2))
def yy(call:Eng.Callee)(x0 x1:ae)(W:AW):Option (ae×AW):=aj (cC x0 W) λr1=>aj (cC x1 r1.2) λr2=>aj (bA 4 r1.1 r2.2) λr3=>aj (call (cN 33) [r3.1] r3.2) λr4=>aj (au r4.1 0 r4.2) λr5=>aj (au r4.1 1 r5.2) λr6=>aj (aw Tryz.prog .neq 30 false true r6.1 (.af 0) r6.2) λr7=>bf r7.1 (aD Tryz.prog [((.slice none 0 0),none),(r6.1,none)] r7.2) (aj (bA 12 r2.1 r7.2) λr8=>aj (call (cN 66) [r8.1] r8.2) λr9=>aj (au r9.1 0 r9.2) λbK=>aj (au r9.1 1 bK.2) λbN=>aj (au r9.1 2 bN.2) λcj=>aj (aw Tryz.prog .neq 30 false true cj.1 (.af 0) cj.2) λcA=>bf cA.1 (aD Tryz.prog [((.slice none 0 0),none),(cj.1,none)] cA.2) (aj (aR 0 r2.1 cA.2) λcy=>aj (aJ cy.1 cy.2) λbX=>aj (aw Tryz.prog .eql 3 false true bX.1 (.af 12) bX.2) λcg=>bf cg.1 (aj (aR 0 r1.1 cg.2) λcu=>aj (aJ cu.1 cu.2) λcE=>aj (aR 3 r1.1 cE.2) λbY=>aj (aJ bY.1 bY.2) λcn=>aj (aG Tryz.prog .len #[22] 3 #[false] [cn.1] cn.2) λcH=>aj (aw Tryz.prog .add 3 false false cE.1 cH.1 cH.2) λcK=>aj (du (mQ call) (bw (dQ 0 [x0,x1] ak.blank) [(2,r1.1),(3,r2.1),(4,(.slice none 0 0)),(5,(.af 0)),(24,r3.1),(25,r4.1),(23,r4.1),(26,r5.1),(27,r6.1),(6,r5.1),(7,r6.1),(28,r6.1),(29,r7.1),(32,r8.1),(33,r9.1),(31,r9.1),(34,bK.1),(35,bN.1),(36,cj.1),(8,bK.1),(9,bN.1),(10,cj.1),(37,cj.1),(38,cA.1),(11,(.slice none 0 0)),(40,cy.1),(41,bX.1),(43,cg.1),(42,cg.1),(58,cu.1),(59,cE.1),(60,bY.1),(61,cn.1),(62,cH.1),(63,cK.1),(64,(.af 0))]) cK.2) λdx=>dE 6 dx.1 (aD Tryz.prog [((dx.2.1 11),none),((.af 0),none)] dx.2.2) (none)) (aj (aw Tryz.prog .eql 3 false true bX.1 (.af 3) cg.2) λdI=>bf dI.1 (aj (bA 4 r1.1 dI.2) λdr=>aj (call (cN 138) [dr.1,bN.1] dr.2) λeE=>aj (au eE.1 0 eE.2) λeh=>aj (au eE.1 1 eh.2) λej=>aj (aw Tryz.prog .eql 30 false true ej.1 (.af 0) ej.2) λdJ=>bf dJ.1 (aD Tryz.prog [(eh.1,none),((.af 0),none)] dJ.2) (aD Tryz.prog [((.slice none 0 0),none),((.af 0),none)] dJ.2)) (aj (aw Tryz.prog .eql 3 false true bX.1 (.af 4) dI.2) λdR=>bf dR.1 (bf dR.1 (aj (bA 4 r1.1 dR.2) λeN=>aj (call (cN 139) [eN.1,bK.1] eN.2) λeC=>aj (au eC.1 0 eC.2) λew=>aj (au eC.1 1 ew.2) λgT=>aj (bc Tryz.prog 167 gT.2) λgQ=>aj (bU 3 gQ.1 ew.1 gQ.2) λgt=>aj (aw Tryz.prog .eql 30 false true gT.1 (.af 0) gt.2) λii=>bf ii.1 (aj (bA 4 r1.1 ii.2) λgX=>aj (aR 0 gQ.1 gX.2) λiq=>aj (aJ iq.1 iq.2) λik=>aj (call (cN 140) [gX.1,ik.1] ik.2) λgR=>aj (au gR.1 0 gR.2) λkN=>aj (au gR.1 1 kN.2) λnB=>aj (aC Tryz.prog 64 1 [(0,kN.1)] nB.2) λod=>aj (aO Tryz.prog od.2 #[64,64] (.slice none 0 0) od.1) λpv=>aj (bA 4 r1.1 pv.2) λpw=>aj (call (cN 141) [pw.1,bK.1] pw.2) λpU=>aj (au pU.1 0 pU.2) λqt=>aj (au pU.1 1 qt.2) λtP=>aj (aw Tryz.prog .eql 30 false true tP.1 (.af 0) tP.2) λqT=>bf qT.1 (aj (aC Tryz.prog 64 1 [(0,qt.1)] qT.2) λyD=>aj (aO Tryz.prog yD.2 #[64,64] yD.1 pv.1) λtR=>aD Tryz.prog [(tR.1,none),((.af 0),none)] tR.2) (aD Tryz.prog [(pv.1,none),((.af 0),none)] qT.2)) (aj (bA 4 r1.1 ii.2) λyh=>aj (call (cN 141) [yh.1,bK.1] yh.2) λxH=>aj (au xH.1 0 xH.2) λt6=>aj (au xH.1 1 t6.2) λwN=>aj (aw Tryz.prog .eql 30 false true wN.1 (.af 0) wN.2) λuO=>bf uO.1 (aj (aC Tryz.prog 64 1 [(0,t6.1)] uO.2) λAB=>aj (aO Tryz.prog AB.2 #[64,64] AB.1 (.slice none 0 0)) λzm=>aD Tryz.prog [(zm.1,none),((.af 0),none)] zm.2) (aD Tryz.prog [((.slice none 0 0),none),((.af 0),none)] uO.2))) (aj (aw Tryz.prog .eql 3 false true bX.1 (.af 2) dR.2) λt8=>bf t8.1 (bf t8.1 (aj (bA 4 r1.1 t8.2) λza=>aj (call (cN 141) [za.1,bK.1] za.2) λuL=>aj (au uL.1 0 uL.2) λBw=>aj (au uL.1 1 Bw.2) λuC=>aj (aw Tryz.prog .eql 30 false true uC.1 (.af 0) uC.2) λyj=>bf yj.1 (aj (aC Tryz.prog 64 1 [(0,Bw.1)] yj.2) λw7=>aj (aO Tryz.prog w7.2 #[64,64] w7.1 (.slice none 0 0)) λoe=>aD Tryz.prog [(oe.1,none),((.af 0),none)] oe.2) (aD Tryz.prog [((.slice none 0 0),none),((.af 0),none)] yj.2)) (aj (aw Tryz.prog .eql 3 false true bX.1 (.af 10) t8.2) λuI=>bf uI.1 (bf uI.1 (aj (bA 4 r1.1 uI.2) λBl=>aj (call (cN 140) [Bl.1,bN.1] Bl.2) λwL=>aj (au wL.1 0 wL.2) λCv=>aj (au wL.1 1 Cv.2) λuW=>aj (aw Tryz.prog .eql 30 false true uW.1 (.af 0) uW.2) λCt=>bf Ct.1 (aj (aC Tryz.prog 64 1 [(0,Cv.1)] Ct.2) λBE=>aj (aO Tryz.prog BE.2 #[64,64] (.slice none 0 0) BE.1) λC7=>aD Tryz.prog [(C7.1,none),((.af 0),none)] C7.2) (aD Tryz.prog [((.slice none 0 0),none),((.af 0),none)] Ct.2)) (aD Tryz.prog [((.slice none 0 0),none),((.af 0),none)] uI.2)) (aj (aw Tryz.prog .eql 3 false true bX.1 (.af 11) uI.2) λFA=>bf FA.1 (aj (bA 4 r1.1 FA.2) λFc=>aj (call (cN 140) [Fc.1,bN.1] Fc.2) λDh=>aj (au Dh.1 0 Dh.2) λFx=>aj (au Dh.1 1 Fx.2) λFU=>aj (aw Tryz.prog .eql 30 false true FU.1 (.af 0) FU.2) λCA=>bf CA.1 (aj (aC Tryz.prog 64 1 [(0,Fx.1)] CA.2) λD0=>aj (aO Tryz.prog D0.2 #[64,64] (.slice none 0 0) D0.1) λKa=>aD Tryz.prog [(Ka.1,none),((.af 0),none)] Ka.2) (aD Tryz.prog [((.slice none 0 0),none),((.af 0),none)] CA.2)) (aD Tryz.prog [((.slice none 0 0),none),((.af 0),none)] FA.2)))) (aj (aw Tryz.prog .eql 3 false true bX.1 (.af 5) t8.2) λFz=>bf Fz.1 (bf Fz.1 (aj (bA 4 r1.1 Fz.2) λNd=>aj (call (cN 141) [Nd.1,bK.1] Nd.2) λKL=>aj (au KL.1 0 KL.2) λOM=>aj (au KL.1 1 OM.2) λWi=>aj (aw Tryz.prog .eql 30 false true Wi.1 (.af 0) Wi.2) λKA=>bf KA.1 (aj (aC Tryz.prog 64 1 [(0,OM.1)] KA.2) λIn=>aj (aO Tryz.prog In.2 #[64,64] In.1 (.slice none 0 0)) λMB=>aD Tryz.prog [(MB.1,none),((.af 0),none)] MB.2) (aD Tryz.prog [((.slice none 0 0),none),((.af 0),none)] KA.2)) (aj (aw Tryz.prog .eql 3 false true bX.1 (.af 10) Fz.2) λK4=>bf K4.1 (bf K4.1 (aj (bA 4 r1.1 K4.2) λTa=>aj (call (cN 140) [Ta.1,bN.1] Ta.2) λNW=>aj (au NW.1 0 NW.2) λS6=>aj (au NW.1 1 S6.2) λvW=>aj (aw Tryz.prog .eql 30 false true vW.1 (.af 0) vW.2) λvQ=>bf vQ.1 (aj (aC Tryz.prog 64 1 [(0,S6.1)] vQ.2) λxi=>aj (aO Tryz.prog xi.2 #[64,64] (.slice none 0 0) xi.1) λBP=>aD Tryz.prog [(BP.1,none),((.af 0),none)] BP.2) (aD Tryz.prog [((.slice none 0 0),none),((.af 0),none)] vQ.2)) (aD Tryz.prog [((.slice none 0 0),none),((.af 0),none)] K4.2)) (aj (aw Tryz.prog .eql 3 false true bX.1 (.af 11) K4.2) λF1=>bf F1.1 (aj (bA 4 r1.1 F1.2) λGj=>aj (call (cN 140) [Gj.1,bN.1] Gj.2) λoO=>aj (au oO.1 0 oO.2) λE1=>aj (au oO.1 1 E1.2) λFD=>aj (aw Tryz.prog .eql 30 false true FD.1 (.af 0) FD.2) λB7=>bf B7.1 (aj (aC Tryz.prog 64 1 [(0,E1.1)] B7.2) λFu=>aj (aO Tryz.prog Fu.2 #[64,64] (.slice none 0 0) Fu.1) λE6=>aD Tryz.prog [(E6.1,none),((.af 0),none)] E6.2) (aD Tryz.prog [((.slice none 0 0),none),((.af 0),none)] B7.2)) (aD Tryz.prog [((.slice none 0 0),none),((.af 0),none)] F1.2)))) (aj (aw Tryz.prog .eql 3 false true bX.1 (.af 6) Fz.2) λzn=>bf zn.1 (bf zn.1 (aj (bA 4 r1.1 zn.2) λGx=>aj (call (cN 141) [Gx.1,bK.1] Gx.2) λzg=>aj (au zg.1 0 zg.2) λEC=>aj (au zg.1 1 EC.2) λS0=>aj (aw Tryz.prog .eql 30 false true S0.1 (.af 0) S0.2) λIR=>bf IR.1 (aj (aC Tryz.prog 64 1 [(0,EC.1)] IR.2) λRh=>aj (aO Tryz.prog Rh.2 #[64,64] Rh.1 (.slice none 0 0)) λTL=>aD Tryz.prog [(TL.1,none),((.af 0),none)] TL.2) (aD Tryz.prog [((.slice none 0 0),none),((.af 0),none)] IR.2)) (aj (aw Tryz.prog .eql 3 false true bX.1 (.af 10) zn.2) λHW=>bf HW.1 (bf HW.1 (aj (bA 4 r1.1 HW.2) λP4=>aj (call (cN 140) [P4.1,bN.1] P4.2) λNn=>aj (au Nn.1 0 Nn.2) λP0=>aj (au Nn.1 1 P0.2) λPg=>aj (aw Tryz.prog .eql 30 false true Pg.1 (.af 0) Pg.2) λSi=>bf Si.1 (aj (aC Tryz.prog 64 1 [(0,P0.1)] Si.2) λRO=>aj (aO Tryz.prog RO.2 #[64,64] (.slice none 0 0) RO.1) λN9=>aD Tryz.prog [(N9.1,none),((.af 0),none)] N9.2) (aD Tryz.prog [((.slice none 0 0),none),((.af 0),none)] Si.2)) (aD Tryz.prog [((.slice none 0 0),none),((.af 0),none)] HW.2)) (aj (aw Tryz.prog .eql 3 false true bX.1 (.af 11) HW.2) λNN=>bf NN.1 (aj (bA 4 r1.1 NN.2) λPm=>aj (call (cN 140) [Pm.1,bN.1] Pm.2) λM7=>aj (au M7.1 0 M7.2) λPE=>aj (au M7.1 1 PE.2) λQD=>aj (aw Tryz.prog .eql 30 false true QD.1 (.af 0) QD.2) λN1=>bf N1.1 (aj (aC Tryz.prog 64 1 [(0,PE.1)] N1.2) λPj=>aj (aO Tryz.prog Pj.2 #[64,64] (.slice none 0 0) Pj.1) λSE=>aD Tryz.prog [(SE.1,none),((.af 0),none)] SE.2) (aD Tryz.prog [((.slice none 0 0),none),((.af 0),none)] N1.2)) (aD Tryz.prog [((.slice none 0 0),none),((.af 0),none)] NN.2)))) (aj (aw Tryz.prog .eql 3 false true bX.1 (.af 9) zn.2) λSO=>bf SO.1 (aj (bA 4 r1.1 SO.2) λQb=>aj (call (cN 141) [Qb.1,bK.1] Qb.2) λSA=>aj (au SA.1 0 SA.2) λQ9=>aj (au SA.1 1 Q9.2) λMp=>aj (aw Tryz.prog .eql 30 false true Mp.1 (.af 0) Mp.2) λJF=>bf JF.1 (aj (aC Tryz.prog 64 1 [(0,Q9.1)] JF.2) λPL=>aj (aO Tryz.prog PL.2 #[64,64] PL.1 (.slice none 0 0)) λRv=>aD Tryz.prog [(Rv.1,none),((.af 0),none)] Rv.2) (aD Tryz.prog [((.slice none 0 0),none),((.af 0),none)] JF.2)) (aj (aw Tryz.prog .eql 3 false true bX.1 (.af 10) SO.2) λFZ=>bf FZ.1 (bf FZ.1 (aj (bA 4 r1.1 FZ.2) λQm=>aj (call (cN 140) [Qm.1,bN.1] Qm.2) λOH=>aj (au OH.1 0 OH.2) λPT=>aj (au OH.1 1 PT.2) λNZ=>aj (aw Tryz.prog .eql 30 false true NZ.1 (.af 0) NZ.2) λM5=>bf M5.1 (aj (aC Tryz.prog 64 1 [(0,PT.1)] M5.2) λUz=>aj (aO Tryz.prog Uz.2 #[64,64] (.slice none 0 0) Uz.1) λPU=>aD Tryz.prog [(PU.1,none),((.af 0),none)] PU.2) (aD Tryz.prog [((.slice none 0 0),none),((.af 0),none)] M5.2)) (aD Tryz.prog [((.slice none 0 0),none),((.af 0),none)] FZ.2)) (aj (aw Tryz.prog .eql 3 false true bX.1 (.af 11) FZ.2) λNj=>bf Nj.1 (aj (bA 4 r1.1 Nj.2) λQL=>aj (call (cN 140) [QL.1,bN.1] QL.2) λOl=>aj (au Ol.1 0 Ol.2) λP7=>aj (au Ol.1 1 P7.2) λQz=>aj (aw Tryz.prog .eql 30 false true Qz.1 (.af 0) Qz.2) λMg=>bf Mg.1 (aj (aC Tryz.prog 64 1 [(0,P7.1)] Mg.2) λUr=>aj (aO Tryz.prog Ur.2 #[64,64] (.slice none 0 0) Ur.1) λOj=>aD Tryz.prog [(Oj.1,none),((.af 0),none)] Oj.2) (aD Tryz.prog [((.slice none 0 0),none),((.af 0),none)] Mg.2)) (aD Tryz.prog [((.slice none 0 0),none),((.af 0),none)] Nj.2)))))))) (aj (aw Tryz.prog .eql 3 false true bX.1 (.af 8) dR.2) λHB=>bf HB.1 (bf HB.1 (aj (bA 4 r1.1 HB.2) λSz=>aj (call (cN 139) [Sz.1,bK.1] Sz.2) λNS=>aj (au NS.1 0 NS.2) λQv=>aj (au NS.1 1 Qv.2) λQq=>aj (bc Tryz.prog 167 Qq.2) λPw=>aj (bU 3 Pw.1 Qv.1 Pw.2) λTI=>aj (aw Tryz.prog .eql 30 false true Qq.1 (.af 0) TI.2) λMD=>bf MD.1 (aj (bA 4 r1.1 MD.2) λR4=>aj (aR 0 Pw.1 R4.2) λRx=>aj (aJ Rx.1 Rx.2) λOv=>aj (call (cN 140) [R4.1,Ov.1] Ov.2) λJc=>aj (au Jc.1 0 Jc.2) λNP=>aj (au Jc.1 1 NP.2) λPG=>aj (aC Tryz.prog 64 1 [(0,NP.1)] PG.2) λM4=>aj (aO Tryz.prog M4.2 #[64,64] (.slice none 0 0) M4.1) λKj=>aj (bA 4 r1.1 Kj.2) λPX=>aj (call (cN 141) [PX.1,bK.1] PX.2) λN4=>aj (au N4.1 0 N4.2) λIx=>aj (au N4.1 1 Ix.2) λRw=>aj (aw Tryz.prog .eql 30 false true Rw.1 (.af 0) Rw.2) λL5=>bf L5.1 (aj (aC Tryz.prog 64 1 [(0,Ix.1)] L5.2) λUX=>aj (aO Tryz.prog UX.2 #[64,64] UX.1 Kj.1) λPF=>aD Tryz.prog [(PF.1,none),((.af 0),none)] PF.2) (aD Tryz.prog [(Kj.1,none),((.af 0),none)] L5.2)) (aj (bA 4 r1.1 MD.2) λMG=>aj (call (cN 141) [MG.1,bK.1] MG.2) λNu=>aj (au Nu.1 0 Nu.2) λR5=>aj (au Nu.1 1 R5.2) λR6=>aj (aw Tryz.prog .eql 30 false true R6.1 (.af 0) R6.2) λQQ=>bf QQ.1 (aj (aC Tryz.prog 64 1 [(0,R5.1)] QQ.2) λxl=>aj (aO Tryz.prog xl.2 #[64,64] xl.1 (.slice none 0 0)) λND=>aD Tryz.prog [(ND.1,none),((.af 0),none)] ND.2) (aD Tryz.prog [((.slice none 0 0),none),((.af 0),none)] QQ.2))) (aj (aw Tryz.prog .eql 3 false true bX.1 (.af 2) HB.2) λFf=>bf Ff.1 (bf Ff.1 (aj (bA 4 r1.1 Ff.2) λME=>aj (call (cN 141) [ME.1,bK.1] ME.2) λIv=>aj (au Iv.1 0 Iv.2) λNR=>aj (au Iv.1 1 NR.2) λCH=>aj (aw Tryz.prog .eql 30 false true CH.1 (.af 0) CH.2) λIo=>bf Io.1 (aj (aC Tryz.prog 64 1 [(0,NR.1)] Io.2) λOd=>aj (aO Tryz.prog Od.2 #[64,64] Od.1 (.slice none 0 0)) λAQ=>aD Tryz.prog [(AQ.1,none),((.af 0),none)] AQ.2) (aD Tryz.prog [((.slice none 0 0),none),((.af 0),none)] Io.2)) (aj (aw Tryz.prog .eql 3 false true bX.1 (.af 10) Ff.2) λEi=>bf Ei.1 (bf Ei.1 (aj (bA 4 r1.1 Ei.2) λLY=>aj (call (cN 140) [LY.1,bN.1] LY.2) λJg=>aj (au Jg.1 0 Jg.2) λNT=>aj (au Jg.1 1 NT.2) λMq=>aj (aw Tryz.prog .eql 30 false true Mq.1 (.af 0) Mq.2) λIC=>bf IC.1 (aj (aC Tryz.prog 64 1 [(0,NT.1)] IC.2) λSx=>aj (aO Tryz.prog Sx.2 #[64,64] (.slice none 0 0) Sx.1) λMV=>aD Tryz.prog [(MV.1,none),((.af 0),none)] MV.2) (aD Tryz.prog [((.slice none 0 0),none),((.af 0),none)] IC.2)) (aD Tryz.prog [((.slice none 0 0),none),((.af 0),none)] Ei.2)) (aj (aw Tryz.prog .eql 3 false true bX.1 (.af 11) Ei.2) λtu=>bf tu.1 (aj (bA 4 r1.1 tu.2) λNb=>aj (call (cN 140) [Nb.1,bN.1] Nb.2) λIG=>aj (au IG.1 0 IG.2) λMy=>aj (au IG.1 1 My.2) λDY=>aj (aw Tryz.prog .eql 30 false true DY.1 (.af 0) DY.2) λJL=>bf JL.1 (aj (aC Tryz.prog 64 1 [(0,My.1)] JL.2) λNz=>aj (aO Tryz.prog Nz.2 #[64,64] (.slice none 0 0) Nz.1) λOb=>aD Tryz.prog [(Ob.1,none),((.af 0),none)] Ob.2) (aD Tryz.prog [((.slice none 0 0),none),((.af 0),none)] JL.2)) (aD Tryz.prog [((.slice none 0 0),none),((.af 0),none)] tu.2)))) (aj (aw Tryz.prog .eql 3 false true bX.1 (.af 5) Ff.2) λEf=>bf Ef.1 (bf Ef.1 (aj (bA 4 r1.1 Ef.2) λEz=>aj (call (cN 141) [Ez.1,bK.1] Ez.2) λIt=>aj (au It.1 0 It.2) λL1=>aj (au It.1 1 L1.2) λOo=>aj (aw Tryz.prog .eql 30 false true Oo.1 (.af 0) Oo.2) λJl=>bf Jl.1 (aj (aC Tryz.prog 64 1 [(0,L1.1)] Jl.2) λEg=>aj (aO Tryz.prog Eg.2 #[64,64] Eg.1 (.slice none 0 0)) λOh=>aD Tryz.prog [(Oh.1,none),((.af 0),none)] Oh.2) (aD Tryz.prog [((.slice none 0 0),none),((.af 0),none)] Jl.2)) (aj (aw Tryz.prog .eql 3 false true bX.1 (.af 10) Ef.2) λEy=>bf Ey.1 (bf Ey.1 (aj (bA 4 r1.1 Ey.2) λNc=>aj (call (cN 140) [Nc.1,bN.1] Nc.2) λOe=>aj (au Oe.1 0 Oe.2) λL0=>aj (au Oe.1 1 L0.2) λacP=>aj (aw Tryz.prog .eql 30 false true acP.1 (.af 0) acP.2) λXt=>bf Xt.1 (aj (aC Tryz.prog 64 1 [(0,L0.1)] Xt.2) λabr=>aj (aO Tryz.prog abr.2 #[64,64] (.slice none 0 0) abr.1) λaaU=>aD Tryz.prog [(aaU.1,none),((.af 0),none)] aaU.2) (aD Tryz.prog [((.slice none 0 0),none),((.af 0),none)] Xt.2)) (aD Tryz.prog [((.slice none 0 0),none),((.af 0),none)] Ey.2)) (aj (aw Tryz.prog .eql 3 false true bX.1 (.af 11) Ey.2) λZx=>bf Zx.1 (aj (bA 4 r1.1 Zx.2) λacz=>aj (call (cN 140) [acz.1,bN.1] acz.2) λXf=>aj (au Xf.1 0 Xf.2) λac2=>aj (au Xf.1 1 ac2.2) λaaB=>aj (aw Tryz.prog .eql 30 false true aaB.1 (.af 0) aaB.2) λZG=>bf ZG.1 (aj (aC Tryz.prog 64 1 [(0,ac2.1)] ZG.2) λaeR=>aj (aO Tryz.prog aeR.2 #[64,64] (.slice none 0 0) aeR.1) λaek=>aD Tryz.prog [(aek.1,none),((.af 0),none)] aek.2) (aD Tryz.prog [((.slice none 0 0),none),((.af 0),none)] ZG.2)) (aD Tryz.prog [((.slice none 0 0),none),((.af 0),none)] Zx.2)))) (aj (aw Tryz.prog .eql 3 false true bX.1 (.af 6) Ef.2) λQV=>bf QV.1 (bf QV.1 (aj (bA 4 r1.1 QV.2) λabh=>aj (call (cN 141) [abh.1,bK.1] abh.2) λZj=>aj (au Zj.1 0 Zj.2) λabv=>aj (au Zj.1 1 abv.2) λabS=>aj (aw Tryz.prog .eql 30 false true abS.1 (.af 0) abS.2) λYI=>bf YI.1 (aj (aC Tryz.prog 64 1 [(0,abv.1)] YI.2) λaaV=>aj (aO Tryz.prog aaV.2 #[64,64] aaV.1 (.slice none 0 0)) λadr=>aD Tryz.prog [(adr.1,none),((.af 0),none)] adr.2) (aD Tryz.prog [((.slice none 0 0),none),((.af 0),none)] YI.2)) (aj (aw Tryz.prog .eql 3 false true bX.1 (.af 10) QV.2) λSg=>bf Sg.1 (bf Sg.1 (aj (bA 4 r1.1 Sg.2) λabI=>aj (call (cN 140) [abI.1,bN.1] abI.2) λW8=>aj (au W8.1 0 W8.2) λabJ=>aj (au W8.1 1 abJ.2) λac5=>aj (aw Tryz.prog .eql 30 false true ac5.1 (.af 0) ac5.2) λXy=>bf Xy.1 (aj (aC Tryz.prog 64 1 [(0,abJ.1)] Xy.2) λabP=>aj (aO Tryz.prog abP.2 #[64,64] (.slice none 0 0) abP.1) λacH=>aD Tryz.prog [(acH.1,none),((.af 0),none)] acH.2) (aD Tryz.prog [((.slice none 0 0),none),((.af 0),none)] Xy.2)) (aD Tryz.prog [((.slice none 0 0),none),((.af 0),none)] Sg.2)) (aj (aw Tryz.prog .eql 3 false true bX.1 (.af 11) Sg.2) λYh=>bf Yh.1 (aj (bA 4 r1.1 Yh.2) λadv=>aj (call (cN 140) [adv.1,bN.1] adv.2) λYE=>aj (au YE.1 0 YE.2) λadL=>aj (au YE.1 1 adL.2) λacu=>aj (aw Tryz.prog .eql 30 false true acu.1 (.af 0) acu.2) λYC=>bf YC.1 (aj (aC Tryz.prog 64 1 [(0,adL.1)] YC.2) λacq=>aj (aO Tryz.prog acq.2 #[64,64] (.slice none 0 0) acq.1) λaaI=>aD Tryz.prog [(aaI.1,none),((.af 0),none)] aaI.2) (aD Tryz.prog [((.slice none 0 0),none),((.af 0),none)] YC.2)) (aD Tryz.prog [((.slice none 0 0),none),((.af 0),none)] Yh.2)))) (aj (aw Tryz.prog .eql 3 false true bX.1 (.af 9) QV.2) λZC=>bf ZC.1 (aj (bA 4 r1.1 ZC.2) λacM=>aj (call (cN 141) [acM.1,bK.1] acM.2) λXc=>aj (au Xc.1 0 Xc.2) λabe=>aj (au Xc.1 1 abe.2) λacx=>aj (aw Tryz.prog .eql 30 false true acx.1 (.af 0) acx.2) λYV=>bf YV.1 (aj (aC Tryz.prog 64 1 [(0,abe.1)] YV.2) λafd=>aj (aO Tryz.prog afd.2 #[64,64] afd.1 (.slice none 0 0)) λae0=>aD Tryz.prog [(ae0.1,none),((.af 0),none)] ae0.2) (aD Tryz.prog [((.slice none 0 0),none),((.af 0),none)] YV.2)) (aj (aw Tryz.prog .eql 3 false true bX.1 (.af 10) ZC.2) λQP=>bf QP.1 (bf QP.1 (aj (bA 4 r1.1 QP.2) λaer=>aj (call (cN 140) [aer.1,bN.1] aer.2) λZT=>aj (au ZT.1 0 ZT.2) λaaT=>aj (au ZT.1 1 aaT.2) λaeS=>aj (aw Tryz.prog .eql 30 false true aeS.1 (.af 0) aeS.2) λXS=>bf XS.1 (aj (aC Tryz.prog 64 1 [(0,aaT.1)] XS.2) λadE=>aj (aO Tryz.prog adE.2 #[64,64] (.slice none 0 0) adE.1) λaeg=>aD Tryz.prog [(aeg.1,none),((.af 0),none)] aeg.2) (aD Tryz.prog [((.slice none 0 0),none),((.af 0),none)] XS.2)) (aD Tryz.prog [((.slice none 0 0),none),((.af 0),none)] QP.2)) (aj (aw Tryz.prog .eql 3 false true bX.1 (.af 11) QP.2) λX0=>bf X0.1 (aj (bA 4 r1.1 X0.2) λaeo=>aj (call (cN 140) [aeo.1,bN.1] aeo.2) λZn=>aj (au Zn.1 0 Zn.2) λadA=>aj (au Zn.1 1 adA.2) λae8=>aj (aw Tryz.prog .eql 30 false true ae8.1 (.af 0) ae8.2) λXs=>bf Xs.1 (aj (aC Tryz.prog 64 1 [(0,adA.1)] Xs.2) λafp=>aj (aO Tryz.prog afp.2 #[64,64] (.slice none 0 0) afp.1) λae1=>aD Tryz.prog [(ae1.1,none),((.af 0),none)] ae1.2) (aD Tryz.prog [((.slice none 0 0),none),((.af 0),none)] Xs.2)) (aD Tryz.prog [((.slice none 0 0),none),((.af 0),none)] X0.2)))))))) (aj (aw Tryz.prog .eql 3 false true bX.1 (.af 7) HB.2) λYw=>bf Yw.1 (aj (bA 4 r1.1 Yw.2) λabY=>aj (call (cN 139) [abY.1,bK.1] abY.2) λZ0=>aj (au Z0.1 0 Z0.2) λacR=>aj (au Z0.1 1 acR.2) λab0=>aj (bc Tryz.prog 167 ab0.2) λYX=>aj (bU 3 YX.1 acR.1 YX.2) λagC=>aj (aw Tryz.prog .eql 30 false true ab0.1 (.af 0) agC.2) λXG=>bf XG.1 (aj (bA 4 r1.1 XG.2) λaeU=>aj (aR 0 YX.1 aeU.2) λadG=>aj (aJ adG.1 adG.2) λafr=>aj (call (cN 140) [aeU.1,afr.1] afr.2) λX7=>aj (au X7.1 0 X7.2) λadF=>aj (au X7.1 1 adF.2) λahE=>aj (aC Tryz.prog 64 1 [(0,adF.1)] ahE.2) λaaW=>aj (aO Tryz.prog aaW.2 #[64,64] (.slice none 0 0) aaW.1) λZD=>aj (bA 4 r1.1 ZD.2) λadu=>aj (call (cN 141) [adu.1,bK.1] adu.2) λY4=>aj (au Y4.1 0 Y4.2) λab2=>aj (au Y4.1 1 ab2.2) λadR=>aj (aw Tryz.prog .eql 30 false true adR.1 (.af 0) adR.2) λWR=>bf WR.1 (aj (aC Tryz.prog 64 1 [(0,ab2.1)] WR.2) λaee=>aj (aO Tryz.prog aee.2 #[64,64] aee.1 ZD.1) λadH=>aD Tryz.prog [(adH.1,none),((.af 0),none)] adH.2) (aD Tryz.prog [(ZD.1,none),((.af 0),none)] WR.2)) (aj (bA 4 r1.1 XG.2) λac6=>aj (call (cN 141) [ac6.1,bK.1] ac6.2) λXp=>aj (au Xp.1 0 Xp.2) λaeA=>aj (au Xp.1 1 aeA.2) λaed=>aj (aw Tryz.prog .eql 30 false true aed.1 (.af 0) aed.2) λZQ=>bf ZQ.1 (aj (aC Tryz.prog 64 1 [(0,aeA.1)] ZQ.2) λaeO=>aj (aO Tryz.prog aeO.2 #[64,64] aeO.1 (.slice none 0 0)) λaec=>aD Tryz.prog [(aec.1,none),((.af 0),none)] aec.2) (aD Tryz.prog [((.slice none 0 0),none),((.af 0),none)] ZQ.2))) (aj (aw Tryz.prog .eql 3 false true bX.1 (.af 2) Yw.2) λPJ=>bf PJ.1 (bf PJ.1 (aj (bA 4 r1.1 PJ.2) λaeV=>aj (call (cN 141) [aeV.1,bK.1] aeV.2) λZW=>aj (au ZW.1 0 ZW.2) λaaN=>aj (au ZW.1 1 aaN.2) λacZ=>aj (aw Tryz.prog .eql 30 false true acZ.1 (.af 0) acZ.2) λXD=>bf XD.1 (aj (aC Tryz.prog 64 1 [(0,aaN.1)] XD.2) λacr=>aj (aO Tryz.prog acr.2 #[64,64] acr.1 (.slice none 0 0)) λabF=>aD Tryz.prog [(abF.1,none),((.af 0),none)] abF.2) (aD Tryz.prog [((.slice none 0 0),none),((.af 0),none)] XD.2)) (aj (aw Tryz.prog .eql 3 false true bX.1 (.af 10) PJ.2) λRo=>bf Ro.1 (bf Ro.1 (aj (bA 4 r1.1 Ro.2) λaeT=>aj (call (cN 140) [aeT.1,bN.1] aeT.2) λX3=>aj (au X3.1 0 X3.2) λacV=>aj (au X3.1 1 acV.2) λacI=>aj (aw Tryz.prog .eql 30 false true acI.1 (.af 0) acI.2) λX6=>bf X6.1 (aj (aC Tryz.prog 64 1 [(0,acV.1)] X6.2) λabH=>aj (aO Tryz.prog abH.2 #[64,64] (.slice none 0 0) abH.1) λadI=>aD Tryz.prog [(adI.1,none),((.af 0),none)] adI.2) (aD Tryz.prog [((.slice none 0 0),none),((.af 0),none)] X6.2)) (aD Tryz.prog [((.slice none 0 0),none),((.af 0),none)] Ro.2)) (aj (aw Tryz.prog .eql 3 false true bX.1 (.af 11) Ro.2) λX4=>bf X4.1 (aj (bA 4 r1.1 X4.2) λadz=>aj (call (cN 140) [adz.1,bN.1] adz.2) λZP=>aj (au ZP.1 0 ZP.2) λadT=>aj (au ZP.1 1 adT.2) λadw=>aj (aw Tryz.prog .eql 30 false true adw.1 (.af 0) adw.2) λXh=>bf Xh.1 (aj (aC Tryz.prog 64 1 [(0,adT.1)] Xh.2) λabC=>aj (aO Tryz.prog abC.2 #[64,64] (.slice none 0 0) abC.1) λaaY=>aD Tryz.prog [(aaY.1,none),((.af 0),none)] aaY.2) (aD Tryz.prog [((.slice none 0 0),none),((.af 0),none)] Xh.2)) (aD Tryz.prog [((.slice none 0 0),none),((.af 0),none)] X4.2)))) (aj (aw Tryz.prog .eql 3 false true bX.1 (.af 5) PJ.2) λRy=>bf Ry.1 (bf Ry.1 (aj (bA 4 r1.1 Ry.2) λadq=>aj (call (cN 141) [adq.1,bK.1] adq.2) λYU=>aj (au YU.1 0 YU.2) λad4=>aj (au YU.1 1 ad4.2) λaaP=>aj (aw Tryz.prog .eql 30 false true aaP.1 (.af 0) aaP.2) λWO=>bf WO.1 (aj (aC Tryz.prog 64 1 [(0,ad4.1)] WO.2) λabR=>aj (aO Tryz.prog abR.2 #[64,64] abR.1 (.slice none 0 0)) λafh=>aD Tryz.prog [(afh.1,none),((.af 0),none)] afh.2) (aD Tryz.prog [((.slice none 0 0),none),((.af 0),none)] WO.2)) (aj (aw Tryz.prog .eql 3 false true bX.1 (.af 10) Ry.2) λQj=>bf Qj.1 (bf Qj.1 (aj (bA 4 r1.1 Qj.2) λaa7=>aj (call (cN 140) [aa7.1,bN.1] aa7.2) λZY=>aj (au ZY.1 0 ZY.2) λafc=>aj (au ZY.1 1 afc.2) λabo=>aj (aw Tryz.prog .eql 30 false true abo.1 (.af 0) abo.2) λWP=>bf WP.1 (aj (aC Tryz.prog 64 1 [(0,afc.1)] WP.2) λaaF=>aj (aO Tryz.prog aaF.2 #[64,64] (.slice none 0 0) aaF.1) λacW=>aD Tryz.prog [(acW.1,none),((.af 0),none)] acW.2) (aD Tryz.prog [((.slice none 0 0),none),((.af 0),none)] WP.2)) (aD Tryz.prog [((.slice none 0 0),none),((.af 0),none)] Qj.2)) (aj (aw Tryz.prog .eql 3 false true bX.1 (.af 11) Qj.2) λXw=>bf Xw.1 (aj (bA 4 r1.1 Xw.2) λafq=>aj (call (cN 140) [afq.1,bN.1] afq.2) λZa=>aj (au Za.1 0 Za.2) λaeQ=>aj (au Za.1 1 aeQ.2) λacX=>aj (aw Tryz.prog .eql 30 false true acX.1 (.af 0) acX.2) λYe=>bf Ye.1 (aj (aC Tryz.prog 64 1 [(0,aeQ.1)] Ye.2) λab8=>aj (aO Tryz.prog ab8.2 #[64,64] (.slice none 0 0) ab8.1) λabb=>aD Tryz.prog [(abb.1,none),((.af 0),none)] abb.2) (aD Tryz.prog [((.slice none 0 0),none),((.af 0),none)] Ye.2)) (aD Tryz.prog [((.slice none 0 0),none),((.af 0),none)] Xw.2)))) (aj (aw Tryz.prog .eql 3 false true bX.1 (.af 6) Ry.2) λSj=>bf Sj.1 (bf Sj.1 (aj (bA 4 r1.1 Sj.2) λaby=>aj (call (cN 141) [aby.1,bK.1] aby.2) λYp=>aj (au Yp.1 0 Yp.2) λacn=>aj (au Yp.1 1 acn.2) λaa1=>aj (aw Tryz.prog .eql 30 false true aa1.1 (.af 0) aa1.2) λZL=>bf ZL.1 (aj (aC Tryz.prog 64 1 [(0,acn.1)] ZL.2) λafi=>aj (aO Tryz.prog afi.2 #[64,64] afi.1 (.slice none 0 0)) λadY=>aD Tryz.prog [(adY.1,none),((.af 0),none)] adY.2) (aD Tryz.prog [((.slice none 0 0),none),((.af 0),none)] ZL.2)) (aj (aw Tryz.prog .eql 3 false true bX.1 (.af 10) Sj.2) λRL=>bf RL.1 (bf RL.1 (aj (bA 4 r1.1 RL.2) λaa2=>aj (call (cN 140) [aa2.1,bN.1] aa2.2) λYH=>aj (au YH.1 0 YH.2) λabt=>aj (au YH.1 1 abt.2) λafo=>aj (aw Tryz.prog .eql 30 false true afo.1 (.af 0) afo.2) λXB=>bf XB.1 (aj (aC Tryz.prog 64 1 [(0,abt.1)] XB.2) λaaR=>aj (aO Tryz.prog aaR.2 #[64,64] (.slice none 0 0) aaR.1) λaeq=>aD Tryz.prog [(aeq.1,none),((.af 0),none)] aeq.2) (aD Tryz.prog [((.slice none 0 0),none),((.af 0),none)] XB.2)) (aD Tryz.prog [((.slice none 0 0),none),((.af 0),none)] RL.2)) (aj (aw Tryz.prog .eql 3 false true bX.1 (.af 11) RL.2) λYi=>bf Yi.1 (aj (bA 4 r1.1 Yi.2) λaeC=>aj (call (cN 140) [aeC.1,bN.1] aeC.2) λY7=>aj (au Y7.1 0 Y7.2) λaaQ=>aj (au Y7.1 1 aaQ.2) λaeK=>aj (aw Tryz.prog .eql 30 false true aeK.1 (.af 0) aeK.2) λXC=>bf XC.1 (aj (aC Tryz.prog 64 1 [(0,aaQ.1)] XC.2) λaci=>aj (aO Tryz.prog aci.2 #[64,64] (.slice none 0 0) aci.1) λac4=>aD Tryz.prog [(ac4.1,none),((.af 0),none)] ac4.2) (aD Tryz.prog [((.slice none 0 0),none),((.af 0),none)] XC.2)) (aD Tryz.prog [((.slice none 0 0),none),((.af 0),none)] Yi.2)))) (aj (aw Tryz.prog .eql 3 false true bX.1 (.af 9) Sj.2) λXU=>bf XU.1 (aj (bA 4 r1.1 XU.2) λacD=>aj (call (cN 141) [acD.1,bK.1] acD.2) λXe=>aj (au Xe.1 0 Xe.2) λaeF=>aj (au Xe.1 1 aeF.2) λabm=>aj (aw Tryz.prog .eql 30 false true abm.1 (.af 0) abm.2) λZ1=>bf Z1.1 (aj (aC Tryz.prog 64 1 [(0,aeF.1)] Z1.2) λaes=>aj (aO Tryz.prog aes.2 #[64,64] aes.1 (.slice none 0 0)) λadZ=>aD Tryz.prog [(adZ.1,none),((.af 0),none)] adZ.2) (aD Tryz.prog [((.slice none 0 0),none),((.af 0),none)] Z1.2)) (aj (aw Tryz.prog .eql 3 false true bX.1 (.af 10) XU.2) λQt=>bf Qt.1 (bf Qt.1 (aj (bA 4 r1.1 Qt.2) λad8=>aj (call (cN 140) [ad8.1,bN.1] ad8.2) λZF=>aj (au ZF.1 0 ZF.2) λabx=>aj (au ZF.1 1 abx.2) λadx=>aj (aw Tryz.prog .eql 30 false true adx.1 (.af 0) adx.2) λXl=>bf Xl.1 (aj (aC Tryz.prog 64 1 [(0,abx.1)] Xl.2) λaa4=>aj (aO Tryz.prog aa4.2 #[64,64] (.slice none 0 0) aa4.1) λabW=>aD Tryz.prog [(abW.1,none),((.af 0),none)] abW.2) (aD Tryz.prog [((.slice none 0 0),none),((.af 0),none)] Xl.2)) (aD Tryz.prog [((.slice none 0 0),none),((.af 0),none)] Qt.2)) (aj (aw Tryz.prog .eql 3 false true bX.1 (.af 11) Qt.2) λZJ=>bf ZJ.1 (aj (bA 4 r1.1 ZJ.2) λacC=>aj (call (cN 140) [acC.1,bN.1] acC.2) λYx=>aj (au Yx.1 0 Yx.2) λaa0=>aj (au Yx.1 1 aa0.2) λadm=>aj (aw Tryz.prog .eql 30 false true adm.1 (.af 0) adm.2) λZ5=>bf Z5.1 (aj (aC Tryz.prog 64 1 [(0,aa0.1)] Z5.2) λaaL=>aj (aO Tryz.prog aaL.2 #[64,64] (.slice none 0 0) aaL.1) λadj=>aD Tryz.prog [(adj.1,none),((.af 0),none)] adj.2) (aD Tryz.prog [((.slice none 0 0),none),((.af 0),none)] Z5.2)) (aD Tryz.prog [((.slice none 0 0),none),((.af 0),none)] ZJ.2)))))))))))))
def BW{x0 x1:ae}{W:AW}{r:ae×AW}(h:yy bl x0 x1 W=some r):bl (.func (.func 101) #[] #[]) [x0,x1] W=some (gc W r):=bO (nt:=125) (n:=2) (by kernel_rfl) (by kernel_rfl) rfl (aH (by kernel_rfl) h)
def yu(call:Eng.Callee)(x0:ae)(W:AW):Option (ae×AW):=aj (aw Tryz.prog .geq 5 false true x0 (.int .u8 97) W) λr1=>aj (aU (aZ r1.1 true) (j0 x0 r1.2) (some (ag,r1.2))) λr2=>aj (aU (aZ r1.1 true) (aw Tryz.prog .leq 5 false true r2.1 (.int .u8 122) r2.2) (some (ag,r2.2))) λr3=>aj (bt r1.1 r3.1 (.bool false) r3.2) λr4=>aD Tryz.prog [(r4.1,none)] r4.2
def BJ{x0:ae}{W:AW}{r:ae×AW}(h:yu bl x0 W=some r):bl (.func (.func 102) #[] #[]) [x0] W=some (gc W r):=bO (nt:=9) (n:=1) (by kernel_rfl) (by kernel_rfl) rfl (aH (by kernel_rfl) h)
def yF(call:Eng.Callee)(x0:ae)(W:AW):Option (ae×AW):=aj (aw Tryz.prog .geq 5 false true x0 (.int .u8 48) W) λr1=>aj (aU (aZ r1.1 true) (j0 x0 r1.2) (some (ag,r1.2))) λr2=>aj (aU (aZ r1.1 true) (aw Tryz.prog .leq 5 false true r2.1 (.int .u8 57) r2.2) (some (ag,r2.2))) λr3=>aj (bt r1.1 r3.1 (.bool false) r3.2) λr4=>aD Tryz.prog [(r4.1,none)] r4.2
def AK{x0:ae}{W:AW}{r:ae×AW}(h:yF bl x0 W=some r):bl (.func (.func 103) #[] #[]) [x0] W=some (gc W r):=bO (nt:=9) (n:=1) (by kernel_rfl) (by kernel_rfl) rfl (aH (by kernel_rfl) h)
def BT(call:Eng.Callee)(x0 x1:ae)(W:AW):Option (ae×AW):=aj (cC x0 W) λr1=>aj (bA 4 r1.1 r1.2) λr2=>aj (call (cN 142) [r2.1,x1] r2.2) λr3=>aj (au r3.1 0 r3.2) λr4=>aj (au r3.1 1 r4.2) λr5=>aj (au r3.1 2 r5.2) λr6=>aj (aw Tryz.prog .neq 30 false true r6.1 (.af 0) r6.2) λr7=>bf r7.1 (aD Tryz.prog [((.af 0),none),(r6.1,none)] r7.2) (aj (aR 0 r1.1 r7.2) λr8=>aj (aJ r8.1 r8.2) λr9=>aj (aw Tryz.prog .add 3 false false r9.1 x1 r9.2) λbK=>aD Tryz.prog [(bK.1,none),((.af 0),none)] bK.2)
def C3{x0 x1:ae}{W:AW}{r:ae×AW}(h:BT bl x0 x1 W=some r):bl (.func (.func 105) #[] #[]) [x0,x1] W=some (gc W r):=bO (nt:=23) (n:=2) (by kernel_rfl) (by kernel_rfl) rfl (aH (by kernel_rfl) h)
def js(call:Eng.Callee)(R:Nat->ae)(W:AW):Option LT:=aj (aw Tryz.prog .add 3 false false (R 6) (R 7) W) λbN=>aj (aw Tryz.prog .lss 3 false false (R 12) bN.1 bN.2) λcj=>bf cj.1 (aj (aR 0 (R 2) cj.2) λcA=>aj (aJ cA.1 cA.2) λcy=>aj (aw Tryz.prog .rem 3 false false (R 12) cy.1 cy.2) λbX=>aj (aw Tryz.prog .eql 3 false false bX.1 (R 10) bX.2) λcg=>bf cg.1 (aj (aw Tryz.prog .add 3 false true (R 12) (.af 1) cg.2) λcu=>some (X.normal,(bw R [(30,(R 12)),(31,(R 6)),(32,(R 7)),(33,bN.1),(34,cj.1),(37,(R 12)),(38,cA.1),(39,cy.1),(40,bX.1),(41,(R 10)),(42,cg.1),(11,(.bool true)),(35,(R 12)),(36,cu.1),(12,cu.1)]),cu.2)) (aj (aw Tryz.prog .add 3 false true (R 12) (.af 1) cg.2) λcE=>some (X.normal,(bw R [(30,(R 12)),(31,(R 6)),(32,(R 7)),(33,bN.1),(34,cj.1),(37,(R 12)),(38,cA.1),(39,cy.1),(40,bX.1),(41,(R 10)),(42,cg.1),(35,(R 12)),(36,cE.1),(12,cE.1)]),cE.2))) (some (X.exit 2,(bw R [(30,(R 12)),(31,(R 6)),(32,(R 7)),(33,bN.1),(34,cj.1)]),cj.2))
def nh(call:Eng.Callee)(R:Nat->ae)(W:AW):Option LT:=aj (aR 0 (R 2) W) λr8=>aj (aJ r8.1 r8.2) λr9=>aj (aw Tryz.prog .lss 3 false false (R 10) r9.1 r9.2) λbK=>bf bK.1 (aj (du (js call) (bw R [(23,(R 10)),(24,r8.1),(25,r9.1),(26,bK.1),(11,(.bool false)),(29,(R 6)),(12,(R 6))]) bK.2) λbY=>dE 2 bY.1 (bf (bY.2.1 11) (aj (aC Tryz.prog 64 1 [(0,(bY.2.1 10))] bY.2.2) λcn=>aj (aO Tryz.prog cn.2 #[64,64] (bY.2.1 9) cn.1) λcH=>aj (aw Tryz.prog .add 3 false true (bY.2.1 10) (.af 1) cH.2) λcK=>some (X.normal,(bw bY.2.1 [(43,(bY.2.1 11)),(44,(bY.2.1 9)),(45,(bY.2.1 10)),(46,cn.1),(47,cH.1),(9,cH.1),(27,(bY.2.1 10)),(28,cK.1),(10,cK.1)]),cK.2)) (aj (aw Tryz.prog .add 3 false true (bY.2.1 10) (.af 1) bY.2.2) λcP=>some (X.normal,(bw bY.2.1 [(43,(bY.2.1 11)),(27,(bY.2.1 10)),(28,cP.1),(10,cP.1)]),cP.2))) (none)) (some (X.exit 0,(bw R [(23,(R 10)),(24,r8.1),(25,r9.1),(26,bK.1)]),bK.2))
def yw(call:Eng.Callee)(x0 x1:ae)(W:AW):Option (ae×AW):=aj (cC x0 W) λr1=>aj (bA 4 r1.1 r1.2) λr2=>aj (call (cN 142) [r2.1,x1] r2.2) λr3=>aj (au r3.1 0 r3.2) λr4=>aj (au r3.1 1 r4.2) λr5=>aj (au r3.1 2 r5.2) λr6=>aj (aw Tryz.prog .neq 30 false true r6.1 (.af 0) r6.2) λr7=>bf r7.1 (aD Tryz.prog [((.slice none 0 0),none),(r6.1,none)] r7.2) (aj (du (nh call) (bw (dQ 0 [x0,x1] ak.blank) [(2,r1.1),(4,(.slice none 0 0)),(5,(.af 0)),(14,r2.1),(15,x1),(16,r3.1),(13,r3.1),(17,r4.1),(18,r5.1),(19,r6.1),(6,r4.1),(7,r5.1),(8,r6.1),(20,r6.1),(21,r7.1),(9,(.slice none 0 0)),(10,(.af 0))]) r7.2) λcZ=>dE 0 cZ.1 (aD Tryz.prog [((cZ.2.1 9),none),((.af 0),none)] cZ.2.2) (none))
def Cf{x0 x1:ae}{W:AW}{r:ae×AW}(h:yw bl x0 x1 W=some r):bl (.func (.func 106) #[] #[]) [x0,x1] W=some (gc W r):=bO (nt:=49) (n:=2) (by kernel_rfl) (by kernel_rfl) rfl (aH (by kernel_rfl) h)
def yJ(call:Eng.Callee)(x0 x1:ae)(W:AW):Option (ae×AW):=aj (cC x0 W) λr1=>aj (bc Tryz.prog 167 r1.2) λr2=>aj (bA 4 r1.1 r2.2) λr3=>aj (call (cN 143) [r3.1] r3.2) λr4=>aj (au r4.1 0 r4.2) λr5=>aj (au r4.1 1 r5.2) λr6=>aj (aw Tryz.prog .eql 30 false true r6.1 (.af 0) r6.2) λr7=>aj (aU (aZ r7.1 true) (j0 x1 r7.2) (some (ag,r7.2))) λr8=>aj (aU (aZ r7.1 true) (aw Tryz.prog .lss 3 false true r8.1 (.af 0) r8.2) (some (ag,r8.2))) λr9=>aj (aU (aZ r7.1 true) (j0 r9.1 r9.2) (some (ag,r9.2))) λbK=>aj (aU (aZ bK.1 false) (j0 x1 bK.2) (some (ag,bK.2))) λbN=>aj (aU (aZ bK.1 false) (j0 r5.1 bN.2) (some (ag,bN.2))) λcj=>aj (aU (aZ bK.1 false) (aw Tryz.prog .geq 3 false false bN.1 cj.1 cj.2) (some (ag,cj.2))) λcA=>aj (aU (aZ r7.1 true) (bt bK.1 (.bool true) cA.1 cA.2) (some (ag,cA.2))) λcy=>aj (bt r7.1 cy.1 (.bool false) cy.2) λbX=>bf bX.1 (aj (aw Tryz.prog .neq 30 false true (.af 4) (.af 0) bX.2) λcg=>bf cg.1 (aj (bH Tryz.prog 167 [] cg.2) λcu=>aj (bU 3 r2.1 cu.1 cu.2) λcE=>aD Tryz.prog [(r2.1,some 167),((.af 4),none)] cE.2) (aj (bA 4 r1.1 cg.2) λbY=>aj (call (cN 56) [bY.1] bY.2) λcn=>aj (iY 3 cn.1 x1 cn.2) λcH=>aj (bA 3 cH.1 cH.2) λcK=>aj (bU 3 r2.1 cK.1 cK.2) λcP=>aD Tryz.prog [(r2.1,some 167),((.af 0),none)] cP.2)) (aj (aw Tryz.prog .neq 30 false true r6.1 (.af 0) bX.2) λcZ=>bf cZ.1 (aj (bH Tryz.prog 167 [] cZ.2) λcW=>aj (bU 3 r2.1 cW.1 cW.2) λdA=>aD Tryz.prog [(r2.1,some 167),(r6.1,none)] dA.2) (aj (bA 4 r1.1 cZ.2) λdx=>aj (call (cN 56) [dx.1] dx.2) λdI=>aj (iY 3 dI.1 x1 dI.2) λdr=>aj (bA 3 dr.1 dr.2) λeE=>aj (bU 3 r2.1 eE.1 eE.2) λeh=>aD Tryz.prog [(r2.1,some 167),((.af 0),none)] eh.2))
def B6{x0 x1:ae}{W:AW}{r:ae×AW}(h:yJ bl x0 x1 W=some r):bl (.func (.func 107) #[] #[]) [x0,x1] W=some (gc W r):=bO (nt:=33) (n:=2) (by kernel_rfl) (by kernel_rfl) rfl (aH (by kernel_rfl) h)
def ym(call:Eng.Callee)(x0 x1:ae)(W:AW):Option (ae×AW):=aj (cC x0 W) λr1=>aj (bA 4 r1.1 r1.2) λr2=>aj (call (cN 107) [r2.1,x1] r2.2) λr3=>aj (au r3.1 0 r3.2) λr4=>aj (au r3.1 1 r4.2) λr5=>aj (bc Tryz.prog 167 r5.2) λr6=>aj (bU 3 r6.1 r4.1 r6.2) λr7=>aj (aw Tryz.prog .neq 30 false true r5.1 (.af 0) r7.2) λr8=>bf r8.1 (aD Tryz.prog [((.af 0),none),(r5.1,none)] r8.2) (aj (aR 0 r1.1 r8.2) λr9=>aj (aJ r9.1 r9.2) λbK=>aj (aw Tryz.prog .rem 3 false false x1 bK.1 bK.2) λbN=>aD Tryz.prog [(bN.1,none),((.af 0),none)] bN.2)
def AC{x0 x1:ae}{W:AW}{r:ae×AW}(h:ym bl x0 x1 W=some r):bl (.func (.func 108) #[] #[]) [x0,x1] W=some (gc W r):=bO (nt:=21) (n:=2) (by kernel_rfl) (by kernel_rfl) rfl (aH (by kernel_rfl) h)
def fO(call:Eng.Callee)(R:Nat->ae)(W:AW):Option LT:=aj (aG Tryz.prog .len #[9] 3 #[false] [(R 0)] W) λr2=>aj (aw Tryz.prog .lss 3 false false (R 4) r2.1 r2.2) λr3=>bf r3.1 (aj (dU Tryz.prog 9 (R 0) (R 4) r3.2) λr4=>aj (aw Tryz.prog .geq 5 false true r4.1 (.int .u8 128) r4.2) λr5=>bf r5.1 (aj (bA 256 (R 2) r5.2) λr6=>aj (bU 256 (R 2) r6.1 r6.2) λr7=>some (X.ret,(bw R [(6,(R 4)),(7,(R 0)),(8,r2.1),(9,r3.1),(12,(R 0)),(13,(R 4)),(14,r4.1),(5,r4.1),(15,r4.1),(16,r5.1),(17,r6.1),(3,(.bool false))]),r7.2)) (aj (EI 256 1 (R 2) r4.1 r5.2) λr8=>aj (bU 1 r8.1 (.bool true) r8.2) λr9=>aj (aw Tryz.prog .add 3 false true (R 4) (.af 1) r9.2) λbK=>some (X.normal,(bw R [(6,(R 4)),(7,(R 0)),(8,r2.1),(9,r3.1),(12,(R 0)),(13,(R 4)),(14,r4.1),(5,r4.1),(15,r4.1),(16,r5.1),(18,r4.1),(19,r8.1),(10,(R 4)),(11,bK.1),(4,bK.1)]),bK.2))) (some (X.exit 0,(bw R [(6,(R 4)),(7,(R 0)),(8,r2.1),(9,r3.1)]),r3.2))
def kY(call:Eng.Callee)(x0:ae)(W:AW):Option (ae×AW):=aj (bc Tryz.prog 212 W) λr1=>aj (du (fO call) (bw (dQ 0 [x0] ak.blank) [(2,r1.1),(3,(.bool false)),(4,(.af 0))]) r1.2) λbN=>dE 0 bN.1 (aj (bA 256 (bN.2.1 2) bN.2.2) λcj=>aj (bU 256 (bN.2.1 2) cj.1 cj.2) λcA=>aD Tryz.prog [((bN.2.1 2),some 212),((.bool true),none)] cA.2) (iK bN.1 (aD Tryz.prog [((bN.2.1 2),some 212),((bN.2.1 3),none)] bN.2.2))
def oR{x0:ae}{W:AW}{r:ae×AW}(h:kY bl x0 W=some r):bl (.func (.func 132) #[] #[]) [x0] W=some (gc W r):=bO (nt:=21) (n:=1) (by kernel_rfl) (by kernel_rfl) rfl (aH (by kernel_rfl) h)
def fB(call:Eng.Callee)(R:Nat->ae)(W:AW):Option LT:=aj (aG Tryz.prog .len #[9] 3 #[false] [(R 0)] W) λr1=>aj (aw Tryz.prog .gtr 3 false true r1.1 (.af 0) r1.2) λr2=>bf r2.1 (aj (dU Tryz.prog 9 (R 0) (.af 0) r2.2) λr3=>aj (call (cN 159) [(R 1),r3.1] r3.2) λr4=>aj (CP Tryz.prog .not r4.1 r4.2) λr5=>bf r5.1 (some (X.exit 0,(bw R [(5,(R 0)),(6,r1.1),(7,r2.1),(8,(R 1)),(9,(R 0)),(10,r3.1),(11,r4.1),(12,r5.1)]),r5.2)) (aj (gh Tryz.prog 9 (R 0) (some (.af 1)) none none r5.2) λr6=>some (X.normal,(bw R [(5,(R 0)),(6,r1.1),(7,r2.1),(8,(R 1)),(9,(R 0)),(10,r3.1),(11,r4.1),(12,r5.1),(13,(R 0)),(14,r6.1),(0,r6.1)]),r6.2))) (some (X.exit 0,(bw R [(5,(R 0)),(6,r1.1),(7,r2.1)]),r2.2))
def kb(call:Eng.Callee)(x0 x1:ae)(W:AW):Option (ae×AW):=aj (du (fB call) (eH (dQ 0 [x0,x1] ak.blank) (some 4) (AJ [])) W) λr7=>dE 0 r7.1 (aD Tryz.prog [((r7.2.1 0),none)] r7.2.2) (none)
def ol{x0 x1:ae}{W:AW}{r:ae×AW}(h:kb bl x0 x1 W=some r):bl (.func (.func 133) #[] #[]) [x0,x1] W=some (gc W r):=bO (nt:=16) (n:=2) (by kernel_rfl) (by kernel_rfl) rfl (aH (by kernel_rfl) h)
def fh(call:Eng.Callee)(R:Nat->ae)(W:AW):Option LT:=aj (aG Tryz.prog .len #[9] 3 #[false] [(R 0)] W) λr1=>aj (aw Tryz.prog .gtr 3 false true r1.1 (.af 0) r1.2) λr2=>bf r2.1 (aj (aG Tryz.prog .len #[9] 3 #[false] [(R 0)] r2.2) λr3=>aj (aw Tryz.prog .sub 3 false true r3.1 (.af 1) r3.2) λr4=>aj (dU Tryz.prog 9 (R 0) r4.1 r4.2) λr5=>aj (call (cN 159) [(R 1),r5.1] r5.2) λr6=>aj (CP Tryz.prog .not r6.1 r6.2) λr7=>bf r7.1 (some (X.exit 0,(bw R [(5,(R 0)),(6,r1.1),(7,r2.1),(8,(R 1)),(9,(R 0)),(10,(R 0)),(11,r3.1),(12,r4.1),(13,r5.1),(14,r6.1),(15,r7.1)]),r7.2)) (aj (aG Tryz.prog .len #[9] 3 #[false] [(R 0)] r7.2) λr8=>aj (aw Tryz.prog .sub 3 false true r8.1 (.af 1) r8.2) λr9=>aj (gh Tryz.prog 9 (R 0) none (some r9.1) none r9.2) λbK=>some (X.normal,(bw R [(5,(R 0)),(6,r1.1),(7,r2.1),(8,(R 1)),(9,(R 0)),(10,(R 0)),(11,r3.1),(12,r4.1),(13,r5.1),(14,r6.1),(15,r7.1),(16,(R 0)),(17,(R 0)),(18,r8.1),(19,r9.1),(20,bK.1),(0,bK.1)]),bK.2))) (some (X.exit 0,(bw R [(5,(R 0)),(6,r1.1),(7,r2.1)]),r2.2))
def j5(call:Eng.Callee)(x0 x1:ae)(W:AW):Option (ae×AW):=aj (du (fh call) (eH (dQ 0 [x0,x1] ak.blank) (some 4) (AJ [])) W) λbN=>dE 0 bN.1 (aD Tryz.prog [((bN.2.1 0),none)] bN.2.2) (none)
def nu{x0 x1:ae}{W:AW}{r:ae×AW}(h:j5 bl x0 x1 W=some r):bl (.func (.func 134) #[] #[]) [x0,x1] W=some (gc W r):=bO (nt:=22) (n:=2) (by kernel_rfl) (by kernel_rfl) rfl (aH (by kernel_rfl) h)
def rt(call:Eng.Callee)(x0:ae)(W:AW):Option (ae×AW):=aj (cC x0 W) λr1=>aj (vq (.func 163) #[] #[r1.1] r1.2) λr2=>aD Tryz.prog [(r2.1,none)] r2.2
def As{x0:ae}{W:AW}{r:ae×AW}(h:rt bl x0 W=some r):bl (.func (.func 137) #[] #[]) [x0] W=some (gc W r):=bO (nt:=4) (n:=1) (by kernel_rfl) (by kernel_rfl) rfl (aH (by kernel_rfl) h)
def m0(call:Eng.Callee)(R:Nat->ae)(W:AW):Option LT:=aj (aw Tryz.prog .lss 3 false false (R 25) (R 24) W) λbN=>bf bN.1 (aj (aw Tryz.prog .add 3 false false (R 6) (R 25) bN.2) λcj=>aj (aR 0 (R 2) cj.2) λcA=>aj (aJ cA.1 cA.2) λcy=>aj (aw Tryz.prog .rem 3 false false cj.1 cy.1 cy.2) λbX=>aj (aC Tryz.prog 64 1 [(0,bX.1)] bX.2) λcg=>aj (aO Tryz.prog cg.2 #[64,64] (R 9) cg.1) λcu=>aj (aw Tryz.prog .add 3 false true (R 25) (.af 1) cu.2) λcE=>some (X.normal,(bw R [(26,bN.1),(27,(R 25)),(10,(R 25)),(28,(R 9)),(29,(R 6)),(30,(R 25)),(31,cj.1),(32,cA.1),(33,cy.1),(34,bX.1),(35,cg.1),(36,cu.1),(9,cu.1),(37,cE.1),(25,cE.1)]),cE.2)) (some (X.exit 0,(eH R (some 26) bN.1),bN.2))
def yR(call:Eng.Callee)(x0 x1:ae)(W:AW):Option (ae×AW):=aj (cC x0 W) λr1=>aj (bA 4 r1.1 r1.2) λr2=>aj (call (cN 164) [r2.1,x1] r2.2) λr3=>aj (au r3.1 0 r3.2) λr4=>aj (au r3.1 1 r4.2) λr5=>aj (au r3.1 2 r5.2) λr6=>aj (aw Tryz.prog .neq 30 false true r6.1 (.af 0) r6.2) λr7=>bf r7.1 (aD Tryz.prog [((.slice none 0 0),none),(r6.1,none)] r7.2) (aj (aR 0 r1.1 r7.2) λr8=>aj (aJ r8.1 r8.2) λr9=>aj (aG Tryz.prog .min #[3,3] 3 #[false,false] [r5.1,r9.1] r9.2) λbK=>aj (du (m0 call) (bw (dQ 0 [x0,x1] ak.blank) [(2,r1.1),(4,(.slice none 0 0)),(5,(.af 0)),(12,r2.1),(13,x1),(14,r3.1),(11,r3.1),(15,r4.1),(16,r5.1),(17,r6.1),(6,r4.1),(7,r5.1),(8,r6.1),(18,r6.1),(19,r7.1),(9,(.slice none 0 0)),(21,r5.1),(22,r8.1),(23,r9.1),(24,bK.1),(25,(.af 0))]) bK.2) λbY=>dE 0 bY.1 (aj (call (cN 165) [(bY.2.1 9)] bY.2.2) λcn=>aD Tryz.prog [((bY.2.1 9),none),((.af 0),none)] cn.2) (none))
def B4{x0 x1:ae}{W:AW}{r:ae×AW}(h:yR bl x0 x1 W=some r):bl (.func (.func 138) #[] #[]) [x0,x1] W=some (gc W r):=bO (nt:=41) (n:=2) (by kernel_rfl) (by kernel_rfl) rfl (aH (by kernel_rfl) h)
def yG(call:Eng.Callee)(x0 x1:ae)(W:AW):Option (ae×AW):=aj (cC x0 W) λr1=>aj (bc Tryz.prog 167 r1.2) λr2=>aj (bA 4 r1.1 r2.2) λr3=>aj (call (cN 166) [r3.1,x1] r3.2) λr4=>aj (au r4.1 0 r4.2) λr5=>aj (au r4.1 1 r5.2) λr6=>aj (bc Tryz.prog 140 r6.2) λr7=>aj (bU 4 r7.1 r5.1 r7.2) λr8=>aj (aw Tryz.prog .neq 30 false true r6.1 (.af 0) r8.2) λr9=>bf r9.1 (aj (bH Tryz.prog 167 [] r9.2) λbK=>aj (bU 3 r2.1 bK.1 bK.2) λbN=>aD Tryz.prog [(r2.1,some 167),(r6.1,none)] bN.2) (aj (aR 0 r7.1 r9.2) λcj=>aj (aJ cj.1 cj.2) λcA=>aj (aR 1 r7.1 cA.2) λcy=>aj (aJ cy.1 cy.2) λbX=>aj (aR 2 r7.1 bX.2) λcg=>aj (aJ cg.1 cg.2) λcu=>aj (aw Tryz.prog .sub 3 false false x1 cu.1 cu.2) λcE=>aj (bH Tryz.prog 167 [(0,cA.1),(1,bX.1),(2,cE.1)] cE.2) λbY=>aj (bU 3 r2.1 bY.1 bY.2) λcn=>aD Tryz.prog [(r2.1,some 167),((.af 0),none)] cn.2)
def An{x0 x1:ae}{W:AW}{r:ae×AW}(h:yG bl x0 x1 W=some r):bl (.func (.func 139) #[] #[]) [x0,x1] W=some (gc W r):=bO (nt:=27) (n:=2) (by kernel_rfl) (by kernel_rfl) rfl (aH (by kernel_rfl) h)
def A6(call:Eng.Callee)(x0 x1:ae)(W:AW):Option (ae×AW):=aj (cC x0 W) λr1=>aj (bA 4 r1.1 r1.2) λr2=>aj (call (cN 164) [r2.1,x1] r2.2) λr3=>aj (au r3.1 0 r3.2) λr4=>aj (au r3.1 1 r4.2) λr5=>aj (au r3.1 2 r5.2) λr6=>aj (aw Tryz.prog .neq 30 false true r6.1 (.af 0) r6.2) λr7=>bf r7.1 (aD Tryz.prog [((.af 0),none),(r6.1,none)] r7.2) (aj (aR 0 r1.1 r7.2) λr8=>aj (aJ r8.1 r8.2) λr9=>aj (aw Tryz.prog .add 3 false false r9.1 x1 r9.2) λbK=>aD Tryz.prog [(bK.1,none),((.af 0),none)] bK.2)
def CG{x0 x1:ae}{W:AW}{r:ae×AW}(h:A6 bl x0 x1 W=some r):bl (.func (.func 140) #[] #[]) [x0,x1] W=some (gc W r):=bO (nt:=23) (n:=2) (by kernel_rfl) (by kernel_rfl) rfl (aH (by kernel_rfl) h)
def yI(call:Eng.Callee)(x0 x1:ae)(W:AW):Option (ae×AW):=aj (cC x0 W) λr1=>aj (bA 4 r1.1 r1.2) λr2=>aj (call (cN 166) [r2.1,x1] r2.2) λr3=>aj (au r3.1 0 r3.2) λr4=>aj (au r3.1 1 r4.2) λr5=>aj (bc Tryz.prog 140 r5.2) λr6=>aj (bU 4 r6.1 r4.1 r6.2) λr7=>aj (aw Tryz.prog .neq 30 false true r5.1 (.af 0) r7.2) λr8=>bf r8.1 (aD Tryz.prog [((.af 0),none),(r5.1,none)] r8.2) (aj (aR 0 r1.1 r8.2) λr9=>aj (aJ r9.1 r9.2) λbK=>aj (aw Tryz.prog .rem 3 false false x1 bK.1 bK.2) λbN=>aD Tryz.prog [(bN.1,none),((.af 0),none)] bN.2)
def Be{x0 x1:ae}{W:AW}{r:ae×AW}(h:yI bl x0 x1 W=some r):bl (.func (.func 141) #[] #[]) [x0,x1] W=some (gc W r):=bO (nt:=21) (n:=2) (by kernel_rfl) (by kernel_rfl) rfl (aH (by kernel_rfl) h)
def FV(call:Eng.Callee)(x0 x1:ae)(W:AW):Option (ae×AW):=aj (cC x0 W) λr1=>aj (bA 4 r1.1 r1.2) λr2=>aj (call (cN 167) [r2.1,x1,(.af (-1))] r2.2) λr3=>aj (au r3.1 0 r3.2) λr4=>aj (au r3.1 1 r4.2) λr5=>aj (au r3.1 2 r5.2) λr6=>aD Tryz.prog [(r4.1,none),(r5.1,none),(r6.1,none)] r6.2
def Gr{x0 x1:ae}{W:AW}{r:ae×AW}(h:FV bl x0 x1 W=some r):bl (.func (.func 142) #[] #[]) [x0,x1] W=some (gc W r):=bO (nt:=13) (n:=2) (by kernel_rfl) (by kernel_rfl) rfl (aH (by kernel_rfl) h)
def yA(call:Eng.Callee)(x0:ae)(W:AW):Option (ae×AW):=aj (cC x0 W) λr1=>aj (bA 4 r1.1 r1.2) λr2=>aj (call (cN 36) [r2.1] r2.2) λr3=>aj (au r3.1 0 r3.2) λr4=>aj (au r3.1 1 r4.2) λr5=>aj (aw Tryz.prog .neq 30 false true r5.1 (.af 0) r5.2) λr6=>bf r6.1 (aD Tryz.prog [((.af 0),none),(r5.1,none)] r6.2) (aj (bA 4 r1.1 r6.2) λr7=>aj (call (cN 56) [r7.1] r7.2) λr8=>aj (aG Tryz.prog .len #[127] 3 #[false] [r8.1] r8.2) λr9=>aD Tryz.prog [(r9.1,none),((.af 0),none)] r9.2)
def Br{x0:ae}{W:AW}{r:ae×AW}(h:yA bl x0 W=some r):bl (.func (.func 143) #[] #[]) [x0] W=some (gc W r):=bO (nt:=17) (n:=1) (by kernel_rfl) (by kernel_rfl) rfl (aH (by kernel_rfl) h)
def iy(call:Eng.Callee)(x0 x1:ae)(W:AW):Option (ae×AW):=aj (aW x0 W) λr1=>aj (EI 256 1 r1.1 x1 r1.2) λr2=>aj (aJ r2.1 r2.2) λr3=>aD Tryz.prog [(r3.1,none)] r3.2
def lG{x0 x1:ae}{W:AW}{r:ae×AW}(h:iy bl x0 x1 W=some r):bl (.func (.func 159) #[] #[]) [x0,x1] W=some (gc W r):=bO (nt:=10) (n:=2) (by kernel_rfl) (by kernel_rfl) rfl (aH (by kernel_rfl) h)
def kE(call:Eng.Callee)(R:Nat->ae)(W:AW):Option LT:=aj (aw Tryz.prog .lss 3 false false (R 11) (R 10) W) λr5=>bf r5.1 (aj (bH Tryz.prog 135 [(0,(.af 2))] r5.2) λr6=>aj (bc Tryz.prog 135 r6.2) λr7=>aj (bU 2 r7.1 r6.1 r7.2) λr8=>aj (aw Tryz.prog .lss 3 false false (R 11) (R 3) r8.2) λr9=>bf r9.1 (aj (aJ (R 1) r9.2) λbK=>aj (iY 1 bK.1 (R 11) bK.2) λbN=>aj (aJ bN.1 bN.2) λcj=>aj (bH Tryz.prog 135 [(0,(.af 1)),(1,cj.1)] cj.2) λcA=>aj (bU 2 r7.1 cA.1 cA.2) λcy=>aj (bA 2 r7.1 cy.2) λbX=>aj (call (R 0) [(R 11),bX.1] bX.2) λcg=>aj (CP Tryz.prog .not cg.1 cg.2) λcu=>bf cu.1 (some (X.ret,(bw R [(12,r5.1),(13,(R 11)),(4,(R 11)),(14,r6.1),(5,r7.1),(16,(R 11)),(17,(R 3)),(18,r9.1),(15,r9.1),(19,bK.1),(20,(R 11)),(21,bN.1),(22,cj.1),(23,cA.1),(36,(R 0)),(37,(R 11)),(38,bX.1),(39,cg.1),(40,cu.1)]),cu.2)) (aj (aw Tryz.prog .add 3 false true (R 11) (.af 1) cu.2) λcE=>some (X.normal,(bw R [(12,r5.1),(13,(R 11)),(4,(R 11)),(14,r6.1),(5,r7.1),(16,(R 11)),(17,(R 3)),(18,r9.1),(15,r9.1),(19,bK.1),(20,(R 11)),(21,bN.1),(22,cj.1),(23,cA.1),(36,(R 0)),(37,(R 11)),(38,bX.1),(39,cg.1),(40,cu.1),(41,cE.1),(11,cE.1)]),cE.2))) (aj (aw Tryz.prog .gtr 3 false false (R 11) (R 3) r9.2) λbY=>bf bY.1 (aj (aJ (R 1) bY.2) λcn=>aj (aw Tryz.prog .mul 3 true false (.af 2) (R 3) cn.2) λcH=>aj (aw Tryz.prog .sub 3 false false cH.1 (R 11) cH.2) λcK=>aj (iY 1 cn.1 cK.1 cK.2) λcP=>aj (aJ cP.1 cP.2) λcZ=>aj (bH Tryz.prog 135 [(0,(.af 3)),(1,cZ.1)] cZ.2) λcW=>aj (bU 2 r7.1 cW.1 cW.2) λdA=>aj (bA 2 r7.1 dA.2) λdx=>aj (call (R 0) [(R 11),dx.1] dx.2) λdI=>aj (CP Tryz.prog .not dI.1 dI.2) λdr=>bf dr.1 (some (X.ret,(bw R [(12,r5.1),(13,(R 11)),(4,(R 11)),(14,r6.1),(5,r7.1),(16,(R 11)),(17,(R 3)),(18,r9.1),(15,r9.1),(25,(R 11)),(26,(R 3)),(27,bY.1),(24,bY.1),(28,cn.1),(29,(R 3)),(30,cH.1),(31,(R 11)),(32,cK.1),(33,cP.1),(34,cZ.1),(35,cW.1),(36,(R 0)),(37,(R 11)),(38,dx.1),(39,dI.1),(40,dr.1)]),dr.2)) (aj (aw Tryz.prog .add 3 false true (R 11) (.af 1) dr.2) λeE=>some (X.normal,(bw R [(12,r5.1),(13,(R 11)),(4,(R 11)),(14,r6.1),(5,r7.1),(16,(R 11)),(17,(R 3)),(18,r9.1),(15,r9.1),(25,(R 11)),(26,(R 3)),(27,bY.1),(24,bY.1),(28,cn.1),(29,(R 3)),(30,cH.1),(31,(R 11)),(32,cK.1),(33,cP.1),(34,cZ.1),(35,cW.1),(36,(R 0)),(37,(R 11)),(38,dx.1),(39,dI.1),(40,dr.1),(41,eE.1),(11,eE.1)]),eE.2))) (aj (bA 2 r7.1 bY.2) λeh=>aj (call (R 0) [(R 11),eh.1] eh.2) λej=>aj (CP Tryz.prog .not ej.1 ej.2) λdJ=>bf dJ.1 (some (X.ret,(bw R [(12,r5.1),(13,(R 11)),(4,(R 11)),(14,r6.1),(5,r7.1),(16,(R 11)),(17,(R 3)),(18,r9.1),(15,r9.1),(25,(R 11)),(26,(R 3)),(27,bY.1),(24,bY.1),(36,(R 0)),(37,(R 11)),(38,eh.1),(39,ej.1),(40,dJ.1)]),dJ.2)) (aj (aw Tryz.prog .add 3 false true (R 11) (.af 1) dJ.2) λdR=>some (X.normal,(bw R [(12,r5.1),(13,(R 11)),(4,(R 11)),(14,r6.1),(5,r7.1),(16,(R 11)),(17,(R 3)),(18,r9.1),(15,r9.1),(25,(R 11)),(26,(R 3)),(27,bY.1),(24,bY.1),(36,(R 0)),(37,(R 11)),(38,eh.1),(39,ej.1),(40,dJ.1),(41,dR.1),(11,dR.1)]),dR.2))))) (some (X.exit 0,(eH R (some 12) r5.1),r5.2))
def oq(call:Eng.Callee)(x0 x1:ae)(W:AW):Option (ae×AW):=aj (aJ x1 W) λr1=>aj (aG Tryz.prog .len #[64] 3 #[false] [r1.1] r1.2) λr2=>aj (aw Tryz.prog .mul 3 true false (.af 2) r2.1 r2.2) λr3=>aj (aw Tryz.prog .add 3 false true r3.1 (.af 1) r3.2) λr4=>aj (du (kE call) (bw (dQ 0 [x0,x1] ak.blank) [(6,r1.1),(7,r2.1),(3,r2.1),(8,r2.1),(9,r3.1),(10,r4.1),(11,(.af 0))]) r4.2) λeN=>dE 0 eN.1 (aD Tryz.prog [] eN.2.2) (iK eN.1 (aD Tryz.prog [] eN.2.2))
def xG{x0 x1:ae}{W:AW}{r:ae×AW}(h:oq bl x0 x1 W=some r):bl (.func (.func 163) #[] #[x1]) [x0] W=some (gc W r):=bO (nt:=42) (n:=2) (by kernel_rfl) (by kernel_rfl) rfl (aH (by kernel_rfl) h)
def vh(call:Eng.Callee)(R:Nat->ae)(W:AW):Option LT:=aj (bc Tryz.prog 140 W) λcy=>aj (bU 4 cy.1 (R 20) cy.2) λbX=>some (X.normal,(eH R (some 9) cy.1),bX.2)
def y0(call:Eng.Callee)(R:Nat->ae)(W:AW):fK Tryz.prog call false 37 (FB [1,1,0,1,0,0] (OV 164)) LT R W mg=vh call R W:=by kernel_rfl
def v8(call:Eng.Callee)(R:Nat->ae)(W:AW):Option LT:=aj (aR 0 (R 9) W) λcg=>aj (aJ cg.1 cg.2) λcu=>aj (aJ (R 3) cu.2) λcE=>aj (aw Tryz.prog .neq 3 false false cu.1 cE.1 cE.2) λbY=>bf bY.1 (some (X.normal,(bw R [(21,cg.1),(22,cu.1),(23,cE.1),(24,bY.1)]),bY.2)) (aj (aJ (R 5) bY.2) λcn=>aj (aw Tryz.prog .eql 3 false true cn.1 (.af 0) cn.2) λcH=>bf cH.1 (aj (aR 2 (R 9) cH.2) λcK=>aj (aJ cK.1 cK.2) λcP=>aj (bU 1 (R 4) cP.1 cP.2) λcZ=>aj (aJ (R 5) cZ.2) λcW=>aj (aR 3 (R 9) cW.2) λdA=>aj (aJ dA.1 dA.2) λdx=>aj (aw Tryz.prog .add 3 false false cW.1 dx.1 dx.2) λdI=>aj (bU 1 (R 5) dI.1 dI.2) λdr=>some (X.normal,(bw R [(21,cg.1),(22,cu.1),(23,cE.1),(24,bY.1),(25,cn.1),(26,cH.1),(27,cK.1),(28,cP.1),(29,cW.1),(30,dA.1),(31,dx.1),(32,dI.1)]),dr.2)) (aj (aJ (R 5) cH.2) λeE=>aj (aR 3 (R 9) eE.2) λeh=>aj (aJ eh.1 eh.2) λej=>aj (aw Tryz.prog .add 3 false false eE.1 ej.1 ej.2) λdJ=>aj (bU 1 (R 5) dJ.1 dJ.2) λdR=>some (X.normal,(bw R [(21,cg.1),(22,cu.1),(23,cE.1),(24,bY.1),(25,cn.1),(26,cH.1),(29,eE.1),(30,eh.1),(31,ej.1),(32,dJ.1)]),dR.2)))
def zz(call:Eng.Callee)(R:Nat->ae)(W:AW):fK Tryz.prog call false 37 (FB [1,1,0,1,0,1] (OV 164)) LT R W mg=v8 call R W:=by kernel_rfl
def Hv(call:Eng.Callee)(x0 x1:ae)(W:AW):Option (ae×AW):=aj (cC x0 W) λr1=>aj (cC x1 r1.2) λr2=>aj (bc Tryz.prog 3 r2.2) λr3=>aj (bc Tryz.prog 3 r3.2) λr4=>aj (bA 4 r1.1 r4.2) λr5=>aj (call (cN 33) [r5.1] r5.2) λr6=>aj (au r6.1 0 r6.2) λr7=>aj (au r6.1 1 r7.2) λr8=>aj (aw Tryz.prog .neq 30 false true r8.1 (.af 0) r8.2) λr9=>bf r9.1 (aj (bU 1 r3.1 (.af 0) r9.2) λbK=>aj (bU 1 r4.1 (.af 0) bK.2) λbN=>aD Tryz.prog [(r3.1,some 3),(r4.1,some 3),(r8.1,none)] bN.2) (aj (bA 4 r1.1 r9.2) λcj=>aj (call (cN 62) [cj.1] cj.2) λcA=>aj (jb call cA.1 (.loop .ready none (bw (dQ 0 [x0,x1] ak.blank) [(2,r1.1),(3,r2.1),(4,r3.1),(5,r4.1),(6,(.af 0)),(11,r5.1),(12,r6.1),(10,r6.1),(13,r7.1),(14,r8.1),(7,r7.1),(8,r8.1),(15,r8.1),(16,r9.1),(18,cj.1),(19,cA.1)]) 37 #[20] (FB [1,1,0,1,0,0] (OV 164)) (FB [1,1,0,1,0,1] (OV 164))) cA.2) λeN=>qy eN.1 (aj (aJ r4.1 eN.2) λeC=>aj (aw Tryz.prog .eql 3 false true eC.1 (.af 0) eC.2) λew=>bf ew.1 (aj (bU 1 r3.1 (.af 0) ew.2) λgT=>aj (bU 1 r4.1 (.af 0) gT.2) λgQ=>aD Tryz.prog [(r3.1,some 3),(r4.1,some 3),((.af 4),none)] gQ.2) (aj (aJ r3.1 ew.2) λgt=>aj (aJ r4.1 gt.2) λii=>aj (bU 1 r3.1 gt.1 ii.2) λgX=>aU (rP true (aJ r4.1 gX.2) ii.1&&true) (aj (bU 1 r4.1 ii.1 gX.2) λiq=>aD Tryz.prog [(r3.1,some 3),(r4.1,some 3),((.af 0),none)] iq.2) none)) (none))
def Gk{x0 x1:ae}{W:AW}{r:ae×AW}(h:Hv bl x0 x1 W=some r):bl (.func (.func 164) #[] #[]) [x0,x1] W=some (gc W r):=bO (nt:=37) (n:=2) (by kernel_rfl) (by kernel_rfl) rfl (aH (by kernel_rfl) h)
def qQ(call:Eng.Callee)(R:Nat->ae)(W:AW):Option LT:=aj (bc Tryz.prog 140 W) λbX=>aj (bU 4 bX.1 (R 20) bX.2) λcg=>some (X.normal,(eH R (some 8) bX.1),cg.2)
def wn(call:Eng.Callee)(R:Nat->ae)(W:AW):fK Tryz.prog call false 36 (FB [1,1,0,1,0,0] (OV 166)) LT R W mg=qQ call R W:=by kernel_rfl
def rG(call:Eng.Callee)(R:Nat->ae)(W:AW):Option LT:=aj (aJ (R 3) W) λcu=>aj (aR 2 (R 8) cu.2) λcE=>aj (aJ cE.1 cE.2) λbY=>aj (aw Tryz.prog .geq 3 false false cu.1 bY.1 bY.2) λcn=>aj (aU (aZ cn.1 true) (aJ (R 3) cn.2) (some (ag,cn.2))) λcH=>aj (aU (aZ cn.1 true) (aR 2 (R 8) cH.2) (some (ag,cH.2))) λcK=>aj (aU (aZ cn.1 true) (aJ cK.1 cK.2) (some (ag,cK.2))) λcP=>aj (aU (aZ cn.1 true) (aR 3 (R 8) cP.2) (some (ag,cP.2))) λcZ=>aj (aU (aZ cn.1 true) (aJ cZ.1 cZ.2) (some (ag,cZ.2))) λcW=>aj (aU (aZ cn.1 true) (aw Tryz.prog .add 3 false false cP.1 cW.1 cW.2) (some (ag,cW.2))) λdA=>aj (aU (aZ cn.1 true) (aw Tryz.prog .lss 3 false false cH.1 dA.1 dA.2) (some (ag,dA.2))) λdx=>aj (bt cn.1 dx.1 (.bool false) dx.2) λdI=>bf dI.1 (aj (bA 4 (R 8) dI.2) λdr=>aj (bU 4 (R 4) dr.1 dr.2) λeE=>aj (bU 1 (R 5) (.af 0) eE.2) λeh=>some (X.ret,(bw R [(21,cu.1),(22,cE.1),(23,bY.1),(24,cn.1),(25,cn.1),(26,cH.1),(27,cK.1),(28,cP.1),(29,cZ.1),(30,cW.1),(31,dA.1),(32,dx.1),(33,dI.1),(34,dr.1)]),eh.2)) (some (X.normal,(bw R [(21,cu.1),(22,cE.1),(23,bY.1),(24,cn.1),(25,cn.1),(26,cH.1),(27,cK.1),(28,cP.1),(29,cZ.1),(30,cW.1),(31,dA.1),(32,dx.1),(33,dI.1)]),dI.2))
def wh(call:Eng.Callee)(R:Nat->ae)(W:AW):fK Tryz.prog call false 36 (FB [1,1,0,1,0,1] (OV 166)) LT R W mg=rG call R W:=by kernel_rfl
def AX(call:Eng.Callee)(x0 x1:ae)(W:AW):Option (ae×AW):=aj (cC x0 W) λr1=>aj (cC x1 r1.2) λr2=>aj (bc Tryz.prog 140 r2.2) λr3=>aj (bc Tryz.prog 30 r3.2) λr4=>aj (bA 4 r1.1 r4.2) λr5=>aj (call (cN 33) [r5.1] r5.2) λr6=>aj (au r6.1 0 r6.2) λr7=>aj (au r6.1 1 r7.2) λr8=>aj (aw Tryz.prog .neq 30 false true r8.1 (.af 0) r8.2) λr9=>bf r9.1 (aj (bH Tryz.prog 140 [] r9.2) λbK=>aj (bU 4 r3.1 bK.1 bK.2) λbN=>aj (bU 1 r4.1 r8.1 bN.2) λcj=>aD Tryz.prog [(r3.1,some 140),(r4.1,some 30)] cj.2) (aj (bA 4 r1.1 r9.2) λcA=>aj (call (cN 62) [cA.1] cA.2) λcy=>aj (jb call cy.1 (.loop .ready none (bw (dQ 0 [x0,x1] ak.blank) [(2,r1.1),(3,r2.1),(4,r3.1),(5,r4.1),(10,r5.1),(11,r6.1),(9,r6.1),(12,r7.1),(13,r8.1),(6,r7.1),(7,r8.1),(14,r8.1),(15,r9.1),(18,cA.1),(19,cy.1)]) 36 #[20] (FB [1,1,0,1,0,0] (OV 166)) (FB [1,1,0,1,0,1] (OV 166))) cy.2) λej=>qy ej.1 (aj (bH Tryz.prog 140 [] ej.2) λdJ=>aj (bU 4 r3.1 dJ.1 dJ.2) λdR=>aj (bU 1 r4.1 (.af 4) dR.2) λeN=>aD Tryz.prog [(r3.1,some 140),(r4.1,some 30)] eN.2) (iK ej.1 (aD Tryz.prog [(r3.1,some 140),(r4.1,some 30)] ej.2)))
def CB{x0 x1:ae}{W:AW}{r:ae×AW}(h:AX bl x0 x1 W=some r):bl (.func (.func 166) #[] #[]) [x0,x1] W=some (gc W r):=bO (nt:=36) (n:=2) (by kernel_rfl) (by kernel_rfl) rfl (aH (by kernel_rfl) h)
def ou(call:Eng.Callee)(R:Nat->ae)(W:AW):Option LT:=aj (aG Tryz.prog .len #[127] 3 #[false] [(R 13)] W) λr9=>aj (aw Tryz.prog .lss 3 false false (R 14) r9.1 r9.2) λbK=>bf bK.1 (aj (iY 3 (R 13) (R 14) bK.2) λbN=>aj (aR 0 bN.1 bN.2) λcj=>aj (aJ cj.1 cj.2) λcA=>aj (aw Tryz.prog .eql 3 false false cA.1 (R 1) cA.2) λcy=>aj (aU (aZ cy.1 true) (j0 (R 2) cy.2) (some (ag,cy.2))) λbX=>aj (aU (aZ cy.1 true) (aw Tryz.prog .eql 3 false true bX.1 (.af (-1)) bX.2) (some (ag,bX.2))) λcg=>aj (aU (aZ cy.1 true) (j0 cg.1 cg.2) (some (ag,cg.2))) λcu=>aj (aU (aZ cu.1 false) (j0 (R 13) cu.2) (some (ag,cu.2))) λcE=>aj (aU (aZ cu.1 false) (j0 (R 14) cE.2) (some (ag,cE.2))) λbY=>aj (aU (aZ cu.1 false) (iY 3 cE.1 bY.1 bY.2) (some (ag,bY.2))) λcn=>aj (aU (aZ cu.1 false) (aR 1 cn.1 cn.2) (some (ag,cn.2))) λcH=>aj (aU (aZ cu.1 false) (aJ cH.1 cH.2) (some (ag,cH.2))) λcK=>aj (aU (aZ cu.1 false) (j0 (R 2) cK.2) (some (ag,cK.2))) λcP=>aj (aU (aZ cu.1 false) (aw Tryz.prog .eql 3 false false cK.1 cP.1 cP.2) (some (ag,cP.2))) λcZ=>aj (aU (aZ cy.1 true) (bt cu.1 (.bool true) cZ.1 cZ.2) (some (ag,cZ.2))) λcW=>aj (bt cy.1 cW.1 (.bool false) cW.2) λdA=>bf dA.1 (aj (aw Tryz.prog .eql 3 false true (R 12) (.af 0) dA.2) λdx=>bf dx.1 (aj (aw Tryz.prog .add 3 false true (R 12) (.af 1) dx.2) λdI=>aj (aw Tryz.prog .add 3 false true (R 14) (.af 1) dI.2) λdr=>some (X.normal,(bw R [(25,(R 14)),(26,(R 13)),(27,r9.1),(28,bK.1),(31,(R 13)),(32,(R 14)),(33,bN.1),(34,cj.1),(35,cA.1),(36,(R 1)),(37,cy.1),(38,cy.1),(39,bX.1),(40,cg.1),(41,cu.1),(42,cE.1),(43,bY.1),(44,cn.1),(45,cH.1),(46,cK.1),(47,cP.1),(48,cZ.1),(49,cW.1),(50,dA.1),(51,(R 12)),(52,dx.1),(53,(R 14)),(11,(R 14)),(54,(R 12)),(55,dI.1),(12,dI.1),(29,(R 14)),(30,dr.1),(14,dr.1)]),dr.2)) (aj (aw Tryz.prog .add 3 false true (R 12) (.af 1) dx.2) λeE=>aj (aw Tryz.prog .add 3 false true (R 14) (.af 1) eE.2) λeh=>some (X.normal,(bw R [(25,(R 14)),(26,(R 13)),(27,r9.1),(28,bK.1),(31,(R 13)),(32,(R 14)),(33,bN.1),(34,cj.1),(35,cA.1),(36,(R 1)),(37,cy.1),(38,cy.1),(39,bX.1),(40,cg.1),(41,cu.1),(42,cE.1),(43,bY.1),(44,cn.1),(45,cH.1),(46,cK.1),(47,cP.1),(48,cZ.1),(49,cW.1),(50,dA.1),(51,(R 12)),(52,dx.1),(54,(R 12)),(55,eE.1),(12,eE.1),(29,(R 14)),(30,eh.1),(14,eh.1)]),eh.2))) (aj (aw Tryz.prog .add 3 false true (R 14) (.af 1) dA.2) λej=>some (X.normal,(bw R [(25,(R 14)),(26,(R 13)),(27,r9.1),(28,bK.1),(31,(R 13)),(32,(R 14)),(33,bN.1),(34,cj.1),(35,cA.1),(36,(R 1)),(37,cy.1),(38,cy.1),(39,bX.1),(40,cg.1),(41,cu.1),(42,cE.1),(43,bY.1),(44,cn.1),(45,cH.1),(46,cK.1),(47,cP.1),(48,cZ.1),(49,cW.1),(50,dA.1),(29,(R 14)),(30,ej.1),(14,ej.1)]),ej.2))) (some (X.exit 0,(bw R [(25,(R 14)),(26,(R 13)),(27,r9.1),(28,bK.1)]),bK.2))
def Cd(call:Eng.Callee)(x0 x1 x2:ae)(W:AW):Option (ae×AW):=aj (cC x0 W) λr1=>aj (bA 4 r1.1 r1.2) λr2=>aj (call (cN 36) [r2.1] r2.2) λr3=>aj (au r3.1 0 r3.2) λr4=>aj (au r3.1 1 r4.2) λr5=>aj (aw Tryz.prog .neq 30 false true r5.1 (.af 0) r5.2) λr6=>bf r6.1 (aD Tryz.prog [((.af 0),none),((.af 0),none),(r5.1,none)] r6.2) (aj (bA 4 r1.1 r6.2) λr7=>aj (call (cN 56) [r7.1] r7.2) λr8=>aj (du (ou call) (bw (dQ 0 [x0,x1,x2] ak.blank) [(3,r1.1),(6,(.af 0)),(7,(.af 0)),(8,(.af 0)),(16,r2.1),(17,r3.1),(15,r3.1),(18,r4.1),(19,r5.1),(9,r4.1),(10,r5.1),(20,r5.1),(21,r6.1),(11,(.af 0)),(12,(.af 0)),(23,r7.1),(24,r8.1),(13,r8.1),(14,(.af 0))]) r8.2) λdJ=>dE 0 dJ.1 (aj (aw Tryz.prog .eql 3 false true (dJ.2.1 12) (.af 0) dJ.2.2) λdR=>bf dR.1 (aD Tryz.prog [((.af 0),none),((.af 0),none),((.af 4),none)] dR.2) (aD Tryz.prog [((dJ.2.1 11),none),((dJ.2.1 12),none),((.af 0),none)] dR.2)) (none))
def C4{x0 x1 x2:ae}{W:AW}{r:ae×AW}(h:Cd bl x0 x1 x2 W=some r):bl (.func (.func 167) #[] #[]) [x0,x1,x2] W=some (gc W r):=bO (nt:=60) (n:=3) (by kernel_rfl) (by kernel_rfl) rfl (aH (by kernel_rfl) h)
def tp:((#[64]:Array ai)[0]?).bind Tryz.prog.underlying=some (.slice 3):=by kernel_rfl
def GU:((#[22]:Array ai)[0]?).bind Tryz.prog.underlying=some (.slice 66):=by kernel_rfl
def iz(n lo hi:Int):Bool:=decide (n<lo)||decide (hi<n)
def kI(n lo hi:Int)(W:AW):bl (.func (.func 45) #[] #[]) [.af n,.af lo,.af hi] W=some (.bool (iz n lo hi),W):=by
 have h:ko bl (.af n) (.af lo) (.af hi) W=some (.bool (iz n lo hi),W):=by unfold ko iz;by_cases h:n<lo<;>simp only[SX,h,sV,Bool.false_or]
 rw[tj h,vE (.refl _)]
def qA(n lo hi:Int)(W:AW):bl (.func (.func 46) #[] #[]) [.af n,.af lo,.af hi] W=some (.bool (iz n lo hi),W):=by
 have h:ja bl (.af n) (.af lo) (.af hi) W=some (.bool (iz n lo hi),W):=by unfold ja iz;by_cases h:n<lo<;>simp only[SX,h,sV,Bool.false_or]
 rw[qG h,vE (.refl _)]
def inB(n lo hi:Int):Bool:=decide (lo<=n)&&decide (n<=hi)
def uQ(n lo hi:Int):inB n lo hi= !iz n lo hi:=by unfold inB iz;rw[oi];simp
def oT(n lo hi:Int)(W:AW):bl (.func (.func 54) #[] #[]) [.af n,.af lo,.af hi] W=some (.bool (inB n lo hi),W):=by
 have h:pS bl (.af n) (.af lo) (.af hi) W=some (.bool (inB n lo hi),W):=by unfold pS inB;by_cases h:lo<=n<;>simp only[SX,h,je,jB]
 rw[yZ h,vE (.refl _)]
def QK:Tryz.prog.underlying 9=some .string:=by kernel_rfl
def oG:((#[9]:Array ai)[0]?).bind Tryz.prog.underlying=some .string:=by kernel_rfl
def iC(l:List UInt8):List ae:=(List.range 256).map λi=>.bool (l.any λc=>c.toNat==i)
def iO(l:List UInt8):(iC l).length=256:=by simp[iC]
def AV(l:List UInt8){i:Nat}(h:i<256):(iC l)[i]? =some (.bool (l.any λc=>c.toNat==i)):=by simp[iC,h]
def Hn(l:List UInt8):(iC l).all Eng.one=true:=by unfold iC;rw[List.all_map,cr];intro x _;rfl
def IT(l:List UInt8):(bI (.tuple #[.agg (iC l).toArray,.bool true])&& !Y3 (.tuple #[.agg (iC l).toArray,.bool true]))=true:=by
 have h:fY (.agg (iC l).toArray)=true:=by show(iC l).toArray.toList.all cJ=true;unfold iC;rw[zC,List.all_map,cr];intro x _;rfl
 have h2:bI (.tuple #[.agg (iC l).toArray,.bool true])=true:=by show(fY (.agg (iC l).toArray)&&(fY (.bool true)&&true))=true;rw[h];rfl
 rw[h2];rfl
def Rb(l:List UInt8)(c:UInt8):(iC l).set c.toNat (.bool true)=iC (l++[c]):=by
 apply tY;intro i;by_cases hi:i<256
 ·rw[rH,AV _ hi,AV _ hi,iO];by_cases hc:c.toNat=i
  ·rw[ax hc,nj];simp[hc]
  ·rw[ay hc];have:(c.toNat==i)=false:=by simpa using hc
   simp[this]
 ·rw[pH (by rw[nf,iO];omega),pH (by rw[iO];omega)]
def Wc(W:AW):bc Tryz.prog 212 W=some (.pointer (some ⟨W.next,0,none⟩),W.add (.cells (iC []))):=aH (by kernel_rfl) rfl
def abq(x:ae)(W:AW):iH Tryz.prog 212 x W=bA 256 x W:=by kernel_rfl
def DU{b:Nat}{l:List UInt8}{W:AW}(hb:aI W b=some (iC l))(c:UInt8):bl (.func (.func 159) #[] #[]) [.pointer (some ⟨b,0,none⟩),.int .u8 (c.toNat:Int)] W=some (.bool (l.any λx=>x==c),W):=by refine bS rfl ?_ lG;unfold iy;have hc:c.toNat<256:=c.toNat_lt;simp only[SX,aX,pN hc,Sw,hb,bq,jR,aK,AV l hc,cD,am];refine⟨?_,.refl _⟩;congr 2;funext x;rw[oi];simp[UInt8.toNat_inj]
def Pb{l:List UInt8}(hl:l.length<1000)(ha:∀c∈l,c.toNat<128)(W:AW):bl (.func (.func 132) #[] #[]) [.string (aQ l)] W=some (.tuple #[.agg (iC l).toArray,.bool true],W):=by
 refine bS (IT l) ?_ oR;unfold kY;simp only[SX,Wc];refine cx l.length (by omega) (λk R W'=>R 0=.string (aQ l)/\R 2=.pointer (some ⟨W.next,0,none⟩)/\R 4=.af (k:Int)/\aF W' W.next=some (iC (l.take k))/\Le W W')
  (λr=>r.1=.exit 0/\r.2.1 2=.pointer (some ⟨W.next,0,none⟩)/\aF r.2.2 W.next=some (iC l)/\Le W r.2.2) ⟨rfl,rfl,rfl,bQ,(Le.refl _).add _⟩ ?_ ?_ ?_
 ·rintro k R W' hk ⟨h0,h2,h4,hb,bi⟩;unfold fO;have hc:l[k].toNat<128:=ha _ (gd hk);have e1:((k:Int)<(l.length:Int)):=by omega
  have e2:¬(128:Int)<=(l[k].toNat:Int):=by omega
  simp only[SX,h0,h2,h4,ee oG,e1,ir QK hk,e2,pN (show l[k].toNat<256 by omega),Gv,hb,bq,jR,aK,iO,show l[k].toNat<256 by omega,bk,Rb,
   cY (show -9223372036854775808<=(k:Int)+1 by omega) (show(k:Int)+1<9223372036854775808 by omega),am];have e2:(k:Int)+1=((k+1:Nat):Int):=by omega
  refine .inl ⟨aB,h0,h2,by rw[<-e2];rfl,?_,bi.put (aS _) _⟩;rw[br,<-xk hk]
 ·rintro R W' ⟨h0,h2,h4,hb,bi⟩;unfold fO;have e1:¬((l.length:Int)<(l.length:Int)):=by omega
  simp only[SX,h0,h2,h4,ee oG,e1,am];rw[dN]at hb;exact⟨by simp,aB,h2,hb,bi⟩
 ·rintro⟨x,R,W'⟩ ⟨rfl,h2,hb,bi⟩;simp only at h2 hb bi;have h1:=Vb hb (Hn l);rw[iO]at h1;have h3:=kP (fj hb) (iO l);have h4:=kP (W:=W'.put W.next (.cells (iC l))) (nW _) (iO l);simp only[SX,h2,h3,h1,jv,abq,h4,bq,am];exact⟨aB,bi.put (aS _) _⟩
def rT(p:UInt8->Bool)(l:List UInt8):List UInt8:=(l.reverse.dropWhile p).reverse
def vm{p:UInt8->Bool}:∀{l:List UInt8} {k:Nat},(∀c∈l.take k,p c=true)->(l.drop k).dropWhile p=l.dropWhile p
 |l,0,_=>by simp
 |[],k+1,_=>by simp
 |c::l,k+1,h=>by have hc:p c=true:=h c (by simp);rw[List.drop_succ_cons,zL,ax hc];exact vm λd hd=>h d (by simp[hd])
abbrev Kn(S:List UInt8)(c:UInt8):Bool:=S.any λx=>x==c
def Rn{b:Nat}{S l:List UInt8}{W:AW}(hb:aI W b=some (iC S))(hl:l.length<1000):bl (.func (.func 133) #[] #[]) [.string (aQ l),.pointer (some ⟨b,0,none⟩)] W=some (.string (aQ (l.dropWhile (Kn S))),W):=by
 refine bS rfl ?_ ol;unfold kb;simp only[SX];refine cx l.length (by omega) (λk R W'=>W'=W/\R 0=.string (aQ (l.drop k))/\R 1=.pointer (some ⟨b,0,none⟩)/\∀c∈l.take k,Kn S c=true)
  (λr=>r.2.2=W/\r.1=.exit 0/\r.2.1 0=.string (aQ (l.dropWhile (Kn S)))) ⟨rfl,rfl,rfl,by simp⟩ ?_ ?_ ?_
 ·rintro k R W' hk ⟨rfl,h0,h1,ha⟩;unfold fB;have hd:l.drop k=l[k]::l.drop (k+1):=rC hk;have e1:(0:Int)<((l.drop k).length:Int):=by rw[List.length_drop];omega
  have e0:dU Tryz.prog 9 (.string (aQ (l.drop k))) (.af 0) W'=some (.int .u8 (l[k].toNat:Int),W'):=by have:=ir (P:=Tryz.prog) (W:=W') (k:=.i64) QK (l:=l.drop k) (i:=0) (by rw[List.length_drop];omega);simpa using this
  have e3:gh Tryz.prog 9 (.string (aQ (l.drop k))) (some (.af 1)) none none W'=some (.string (aQ (l.drop (k+1))),W'):=by have:=RU (P:=Tryz.prog) (W:=W') (k:=.i64) QK (l:=l.drop k) (a:=1) (by rw[List.length_drop];omega);rw[sC]at this;exact this
  simp only[SX,h0,h1,ee oG,e1,e0,DU hb,e3];cases hp:Kn S l[k]
  ·simp only[SX,show(S.any λx=>x==l[k])=false from hp,am];refine .inr ⟨by simp,aB,aB,?_⟩;show R 0=_;rw[h0,<-vm ha,hd,zL,hp];rfl
  ·simp only[SX,show(S.any λx=>x==l[k])=true from hp,am];refine .inl ⟨aB,aB,rfl,h1,?_⟩;rw[<-xk hk];intro c hc;rcases wx.1 hc with h|h
   ·exact ha c h
   ·rw[List.mem_singleton.1 h];exact hp
 ·rintro R W' ⟨rfl,h0,h1,ha⟩;unfold fB;rw[List.drop_length]at h0;have e1:¬(0:Int)<(([]:List UInt8).length:Int):=by simp
  simp only[SX,h0,h1,ee oG,e1,am];refine⟨by simp,aB,aB,?_⟩;show R 0=_;rw[h0,<-vm ha,List.drop_length];rfl
 ·rintro⟨x,R,W'⟩ ⟨hW,hx,h0⟩;simp only at hW hx h0;subst hW hx;simp only[SX,am,h0];exact⟨aB,.refl _⟩
def Ar{p:UInt8->Bool}{l:List UInt8}{n:Nat}(h:∀c∈l.drop n,p c=true):rT p (l.take n)=rT p l:=by
 unfold rT;have h2:l.reverse=(l.drop n).reverse++(l.take n).reverse:=by rw[<-List.reverse_append,xx]
 have h3:=vm (p:=p) (l:=l.reverse) (k:=(l.drop n).reverse.length) (by rw[h2,ws];intro c hc;exact h c (List.mem_reverse.1 hc));rw[<-h3,h2,vn]
def Qk{b:Nat}{S l:List UInt8}{W:AW}(hb:aI W b=some (iC S))(hl:l.length<1000):bl (.func (.func 134) #[] #[]) [.string (aQ l),.pointer (some ⟨b,0,none⟩)] W=some (.string (aQ (rT (Kn S) l)),W):=by
 refine bS rfl ?_ nu;unfold j5;simp only[SX];refine cx l.length (by omega) (λk R W'=>W'=W/\R 0=.string (aQ (l.take (l.length-k)))/\R 1=.pointer (some ⟨b,0,none⟩)/\∀c∈l.drop (l.length-k),Kn S c=true)
  (λr=>r.2.2=W/\r.1=.exit 0/\r.2.1 0=.string (aQ (rT (Kn S) l))) ⟨rfl,by simp;rfl,rfl,by simp⟩ ?_ ?_ ?_
 ·rintro k R W' hk ⟨rfl,h0,h1,ha⟩;unfold fh;obtain⟨m,hm⟩:∃m,l.length-k=m+1:=⟨l.length-k-1,by omega⟩;have hm2:l.length-(k+1)=m:=by omega
  have hml:m<l.length:=by omega
  rw[hm]at h0 ha;have fb:(l.take (m+1)).length=m+1:=by rw[fT];omega
  have e1:(0:Int)<(((m+1:Nat):Int)):=by omega
  have e2:((m+1:Nat):Int)-1=(m:Int):=by omega
  have e0:dU Tryz.prog 9 (.string (aQ (l.take (m+1)))) (.af (m:Int)) W'=some (.int .u8 (l[m].toNat:Int),W'):=by have:=ir (P:=Tryz.prog) (W:=W') (k:=.i64) QK (l:=l.take (m+1)) (i:=m) (by rw[fT];omega);simpa using this
  have e3:gh Tryz.prog 9 (.string (aQ (l.take (m+1)))) none (some (.af (m:Int))) none W'=some (.string (aQ (l.take m)),W'):=by have:=Zm (P:=Tryz.prog) (W:=W') (k:=.i64) QK (l:=l.take (m+1)) (a:=m) (by rw[fT];omega);rw[uS,nO (by omega)]at this;exact this
  have es:=Rz W' ((m+1:Nat):Int) 1;rw[e2]at es;simp only[SX,h0,h1,ee oG,fb,e1,es,e0,DU hb,e3];cases hp:Kn S l[m]
  ·simp only[SX,show(S.any λx=>x==l[m])=false from hp,am];refine .inr ⟨by simp,aB,aB,?_⟩;show R 0=_;rw[h0,<-Ar ha,<-xk hml];unfold rT;rw[List.reverse_append,List.reverse_singleton,List.singleton_append,zL,hp];simp
  ·simp only[SX,show(S.any λx=>x==l[m])=true from hp,am];refine .inl ⟨aB,aB,by rw[hm2];rfl,h1,?_⟩;rw[hm2,rC hml];intro c hc;rcases df.1 hc with h|h
   ·rw[h];exact hp
   ·exact ha c h
 ·rintro R W' ⟨rfl,h0,h1,ha⟩;unfold fh;rw[Nat.sub_self,rY]at h0;rw[Nat.sub_self,jy]at ha;have e1:¬(0:Int)<(([]:List UInt8).length:Int):=by simp
  simp only[SX,h0,h1,ee oG,e1,am];refine⟨by simp,aB,aB,?_⟩;show R 0=_;rw[h0,<-Ar (n:=0) (by simpa using ha)];rfl
 ·rintro⟨x,R,W'⟩ ⟨hW,hx,h0⟩;simp only at hW hx h0;subst hW hx;simp only[SX,am,h0];exact⟨aB,.refl _⟩
def xh{p:UInt8->Bool}:∀{l:List UInt8},l.dropWhile p=[]<->∀c∈l,p c=true
 |[]=>by simp
 |c::l=>by
  rw[zL];cases hp:p c
  ·simp[hp]
  ·simp[hp,xh]
def PV{p:UInt8->Bool}{l:List UInt8}:(((rT p l).dropWhile p)==[])=l.all p:=by
 rw[oi,kH,xh,cr];unfold rT;constructor
 ·intro h;have h2:l.reverse.dropWhile p=[]:=by
   cases hd:l.reverse.dropWhile p with
   |nil=>rfl
   |cons x xs=>have:=List.head_dropWhile_not (p:=p) (l:=l.reverse) (by rw[hd];simp);rw[hd]at h;have h3:=h x (by simp);simp only[hd,List.head_cons]at this;rw[h3]at this;cases this
  rw[xh]at h2;exactλc hc=>h2 c (List.mem_reverse.2 hc)
 ·intro h c hc;exact h c (by have:=List.mem_reverse.1 hc;have:=(List.dropWhile_sublist p).subset this;exact List.mem_reverse.1 this)
def xe:List Nat:=[97,98,99,100,101,102,103,104,105,106,107,108,109,110,111,112,113,114,115,116,117,118,119,120,121,122,48,49,50,51,52,53,54,55,56,57,45]
def jS:List UInt8:=xe.map UInt8.ofNat
def Ni:∀n,n<256->Kn jS (UInt8.ofNat n)=nR (UInt8.ofNat n):=by decide+kernel
def GV(c:UInt8):Kn jS c=nR c:=by have:=Ni c.toNat c.toNat_lt;rwa [UInt8.ofNat_toNat]at this
def UI{l:List UInt8}(hl:l.length<1000)(h0:l≠[])(W:AW):bl (.func (.func 97) #[] #[]) [.string (aQ l),AJ xe] W=some (.string (aQ ((rT (Kn jS) l).dropWhile (Kn jS))),W):=by
 refine bS rfl ?_ zu;unfold wt;have hs:=Pb (l:=jS) (by decide) (by decide+kernel) W;have e1:(l==[])=false:=by simpa using h0
 have e2:(jS==[])=false:=by decide+kernel
 have e3:¬((jS.length:Int)=1):=by decide+kernel
 have hz:(iC []).length=256:=iO [];have px:bU 256 (.pointer (some ⟨W.next,0,none⟩)) (.agg (iC jS).toArray) (W.add (.cells (iC [])))=some (ag,(W.add (.cells (iC []))).put W.next (.cells (iC jS))):=by rw[sY,bQ];simp only[bq,pA,iO,aK,aS,Hn,mp,bk,fN,rY,lu];rw[zV (by simp[iO]),iD]
 have hc:aI ((W.add (.cells (iC []))).put W.next (.cells (iC jS))) W.next=some (iC jS):=nW _;have hr:=Qk (l:=l) hc hl;have gY:(rT (Kn jS) l).length<1000:=by have:=(List.dropWhile_sublist (Kn jS) (l:=l.reverse)).length_le;unfold rT;rw[List.length_reverse];rw[List.length_reverse]at this;omega
 have hL:=Rn hc gY;show Ok _ _;rw[uz];change bl (.func (.func 132) #[] #[]) [.string (aQ (xe.map UInt8.ofNat))] W=_ at hs;simp only[SX,uz,mY,nC,e1,ee oG];simp only[SX,show(xe.map UInt8.ofNat==[])=false from e2,show¬(((xe.map UInt8.ofNat).length:Int)=1)from e3,hs,Wc,px,hr,hL,am];exact⟨aB,((Le.refl _).add _).put (aS _) _⟩
def pQ(l:List UInt8)(W:AW):bl (.func (.func 70) #[] #[]) [.string (aQ l)] W=some (.bool (nL l),W):=by
 refine bS rfl ?_ CU;unfold Ak;cases l with
 |nil=>simp only[SX,uz,mY,nC,BEq.rfl,am];exact⟨rfl,.refl _⟩
 |cons c l=>
  have e1:(c::l==[])=false:=rfl;have e0:dU Tryz.prog 9 (.string (aQ (c::l))) (.af 0) W=some (.int .u8 (c.toNat:Int),W):=by have:=ir (P:=Tryz.prog) (W:=W) (k:=.i64) QK (l:=c::l) (i:=0) (by simp);simpa using this
  by_cases h1:(16:Int)<(((c::l).length:Nat):Int)
  ·simp only[SX,uz,mY,nC,e1,ee oG,h1,am];refine⟨?_,.refl _⟩;have:decide ((c::l).length<=16)=false:=by simpa using(by omega:¬((c::l).length<=16))
   simp only[nL,this,Bool.and_false,jB]
  ·have h16:decide ((c::l).length<=16)=true:=by simpa using(by omega:((c::l).length<=16))
   by_cases h2:(c.toNat:Int)<97
   ·simp only[SX,uz,mY,nC,e1,ee oG,h1,e0,h2,am];refine⟨?_,.refl _⟩;have:decide (97<=c.toNat)=false:=by simpa using(by omega:¬(97<=c.toNat))
    simp only[nL,this,jB]
   ·by_cases h3:(122:Int)<(c.toNat:Int)
    ·simp only[SX,uz,mY,nC,e1,ee oG,h1,e0,h2,h3,am];refine⟨?_,.refl _⟩;have:decide (c.toNat<=122)=false:=by simpa using(by omega:¬(c.toNat<=122))
     simp only[nL,this,Bool.and_false,jB]
    ·have ht:=UI (l:=c::l) (by omega) (by simp) W;have hv:(AJ [97,98,99,100,101,102,103,104,105,106,107,108,109,110,111,112,113,114,115,116,117,118,119,120,121,122,48,49,50,51,52,53,54,55,56,57,45])=AJ xe:=rfl;rw[hv];simp only[SX,uz [],mY,nC,e1,ee oG,h1,e0,h2,h3,ht,PV,am];refine⟨?_,.refl _⟩;have i1:decide (97<=c.toNat)=true:=by simpa using(by omega:(97<=c.toNat))
     have i2:decide (c.toNat<=122)=true:=by simpa using(by omega:(c.toNat<=122))
     have i3:Kn jS=nR:=funext GV;simp only[nL,i1,i2,i3,h16,je]
def N6(c:UInt8):Bool:=decide (97<=c.toNat)&&decide (c.toNat<=122)
def RW(c:UInt8):Bool:=decide (48<=c.toNat)&&decide (c.toNat<=57)
def oY(c:UInt8)(W:AW):bl (.func (.func 102) #[] #[]) [.int .u8 (c.toNat:Int)] W=some (.bool (N6 c),W):=by
 refine bS rfl ?_ BJ;unfold yu N6;by_cases h:97<=c.toNat
 ·have h1:(97:Int)<=(c.toNat:Int):=by omega
  simp only[SX,h,h1,je,am];exact⟨by congr 2;exact propext ⟨λ_=>by omega,λ_=>by omega⟩,.refl _⟩
 ·have h1:¬(97:Int)<=(c.toNat:Int):=by omega
  simp only[SX,h,h1,jB,am];exact⟨aB,.refl _⟩
def Ag(c:UInt8)(W:AW):bl (.func (.func 103) #[] #[]) [.int .u8 (c.toNat:Int)] W=some (.bool (RW c),W):=by
 refine bS rfl ?_ AK;unfold yF RW;by_cases h:48<=c.toNat
 ·have h1:(48:Int)<=(c.toNat:Int):=by omega
  simp only[SX,h,h1,je,am];exact⟨by congr 2;exact propext ⟨λ_=>by omega,λ_=>by omega⟩,.refl _⟩
 ·have h1:¬(48:Int)<=(c.toNat:Int):=by omega
  simp only[SX,h,h1,jB,am];exact⟨aB,.refl _⟩
def PA(c:UInt8):nR c=(N6 c||RW c||decide ((c.toNat:Int)=45)):=by unfold nR N6 RW;congr 1;rw[oi,kH,decide_eq_true_iff];exact⟨λ_=>by omega,λ_=>by omega⟩
def Jx(l:List UInt8)(W:AW):bl (.func (.func 78) #[] #[]) [.string (aQ l)] W=some (.bool (nL l),W):=by
 refine bS rfl ?_ CV;unfold A9;cases l with
 |nil=>simp only[SX,ee oG,qo,show((0:Nat):Int)<1 by omega,am];exact⟨rfl,.refl _⟩
 |cons c l=>
  have e1:¬(((c::l).length:Int)<1):=by rw[dG];omega
  have e0:dU Tryz.prog 9 (.string (aQ (c::l))) (.af 0) W=some (.int .u8 (c.toNat:Int),W):=by have:=ir (P:=Tryz.prog) (W:=W) (k:=.i64) QK (l:=c::l) (i:=0) (by simp);simpa using this
  by_cases h1:(16:Int)<(((c::l).length:Nat):Int)
  ·simp only[SX,ee oG,e1,h1,am];refine⟨?_,.refl _⟩;have:decide ((c::l).length<=16)=false:=by simpa using(by omega:¬((c::l).length<=16))
   simp only[nL,this,Bool.and_false,jB]
  ·have h16:decide ((c::l).length<=16)=true:=by simpa using(by omega:((c::l).length<=16))
   cases TN:N6 c
   ·simp only[SX,ee oG,e1,h1,e0,oY,TN,am];refine⟨?_,.refl _⟩;have:(decide (97<=c.toNat)&&decide (c.toNat<=122))=false:=TN;simp only[nL,this,jB]
   ·simp only[SX,ee oG,e1,h1,e0,oY,TN];have hn:nL (c::l)=(c::l).all nR:=by have:(decide (97<=c.toNat)&&decide (c.toNat<=122))=true:=TN;simp only[nL,this,h16,je]
    rw[hn];generalize hL:c::l=L;rw[hL]at h1;refine cx L.length (by omega) (λk R W'=>W'=W/\R 0=.string (aQ L)/\R 3=.af (k:Int)/\(L.take k).all nR=true)
     (λr=>r.2.2=W/\((r.1=.exit 0/\L.all nR=true)\/(r.1=.ret/\r.2.1 2=.bool false/\L.all nR=false))) ⟨rfl,rfl,rfl,rfl⟩ ?_ ?_ ?_
    ·rintro k R W' hk ⟨rfl,h0,h3,ha⟩;unfold ov;have e1:((k:Int)<(L.length:Int)):=by omega
     have hx:=PA L[k];have yes:nR L[k]=true->(L.take (k+1)).all nR=true:=λh=>by rw[<-xk hk,List.all_append,ha];simpa using h
     have no:nR L[k]=false->L.all nR=false:=λh=>by rw[List.all_eq_false];exact⟨L[k],gd hk,by simp[h]⟩
     have e2:(k:Int)+1=((k+1:Nat):Int):=by omega
     have ea:=dP W' k 1;cases i1:N6 L[k]
     ·cases i2:RW L[k]
      ·by_cases i3:(L[k].toNat:Int)=45
       ·simp only[SX,h0,h3,ee oG,e1,ir QK hk,oY,Ag,i1,i2,show decide ((L[k].toNat:Int)=45)=true from aY i3,ea,am];refine .inl ⟨aB,aB,h0,by rw[<-e2];rfl,yes (by rw[hx,i1,i2];simp[i3])⟩
       ·simp only[SX,h0,h3,ee oG,e1,ir QK hk,oY,Ag,i1,i2,i3,ea,am];refine .inr ⟨by simp,aB,.inr ⟨aB,rfl,no (by rw[hx,i1,i2];simp[i3])⟩⟩
      ·simp only[SX,h0,h3,ee oG,e1,ir QK hk,oY,Ag,i1,i2,ea,am];refine .inl ⟨aB,aB,h0,by rw[<-e2];rfl,yes (by rw[hx,i1,i2];simp)⟩
     ·simp only[SX,h0,h3,ee oG,e1,ir QK hk,oY,i1,ea,am];refine .inl ⟨aB,aB,h0,by rw[<-e2];rfl,yes (by rw[hx,i1];simp)⟩
    ·rintro R W' ⟨rfl,h0,h3,ha⟩;unfold ov;have e1:¬((L.length:Int)<(L.length:Int)):=by omega
     rw[dN]at ha;simp only[SX,h0,h3,ee oG,e1,am];exact⟨by simp,aB,.inl ⟨aB,ha⟩⟩
    ·rintro⟨x,R,W'⟩ ⟨hW,h⟩;simp only at hW h;subst hW;rcases h with⟨rfl,h⟩|⟨rfl,h2,h⟩
     ·simp only[SX,am,h];exact⟨aB,.refl _⟩
     ·simp only[SX,am,h,h2];exact⟨aB,.refl _⟩
structure jr where
 name:List UInt8
 rows:List Int
 q:Int
structure cT where
 sh:Int
 sU:Int
 sF:Int
 az:List jr
def Pq(W:AW)(cs:List ae)(p:Nat)(s:jr):Prop:=cs[p]? =some (.string (aQ s.name))/\cs[p+2]? =some (.af s.q)/\∃rv,cs[p+1]? =some rv/\oZ W rv s.rows/\sS rv rv=true/\Eng.one rv=true
abbrev jc(W:AW)(v:ae)(l:List jr):Prop:=Row W 3 (Pq W) v l
def Row.imp{α:Type}{W W':AW}{z:Nat}{f g:List ae->Nat->α->Prop}{v:ae}{l:List α}(h:Row W z f v l)(bi:Le W W')(hfg:∀cs p a,f cs p a->g cs p a):Row W' z g v l:=by
 obtain⟨a,c,rfl,k⟩:=h.mono bi;refine⟨a,c,rfl,?_⟩;rcases k with h|⟨b,o,cs,h1,h2,h3,h4⟩
 ·exact .inl h
 ·exact .inr ⟨b,o,cs,h1,h2,h3,λi hi=>hfg _ _ _ (h4 i hi)⟩
def jc.mono{W W':AW}{v:ae}{l:List jr}(h:jc W v l)(bi:Le W W'):jc W' v l:=
 Row.imp h bi λcs p s ⟨h1,h2,rv,h3,h4,h5⟩=>⟨h1,h2,rv,h3,h4.mono bi,h5⟩
def V0{cs:List ae}{p:Nat}{a b c:ae}(h0:cs[p]? =some a)(h1:cs[p+1]? =some b)(h2:cs[p+2]? =some c):(cs.drop p).take 3=[a,b,c]:=by obtain⟨i0,e0⟩:=dV.1 h0;obtain⟨i1,e1⟩:=dV.1 h1;obtain⟨i2,e2⟩:=dV.1 h2;rw[rC i0,rC i1,rC i2,e0,e1,e2];rfl
abbrev MP(s:jr)(rv:ae):ae:=.agg #[.string (aQ s.name),rv,.af s.q]
def jc.get{W:AW}{v:ae}{l:List jr}(h:jc W v l){i:Nat}(hi:i<l.length):∃b o rv,(∀W' k,iY 3 v (.int k (i:Int)) W'=some (.pointer (some ⟨b,o,none⟩),W'))/\oZ W rv l[i].rows/\
 (∀W',Le W W'->bA 3 (.pointer (some ⟨b,o,none⟩)) W'=some (MP l[i] rv,W'))/\(∀W',Le W W'->aJ (.pointer (some ⟨b,o,none⟩)) W'=some (.string (aQ l[i].name),W'))/\
 (∀W',Le W W'->aJ (.pointer (some ⟨b,o+1,none⟩)) W'=some (rv,W'))/\(∀W',Le W W'->aJ (.pointer (some ⟨b,o+2,none⟩)) W'=some (.af l[i].q,W')):=by
 obtain⟨b,o,cs,h1,h2,h3,h4,h5,rv,h6,h7,-⟩:=h.elem hi;refine⟨b,o,rv,h1,h7,λW' bi=>?_,λW' bi=>cU (by rw[bi.aI h2];exact h3) h4,λW' bi=>cU (by rw[bi.aI h2];exact h3) h6,λW' bi=>cU (by rw[bi.aI h2];exact h3) h5⟩;rw[Ay,bi.aI h2,h3];simp only[bq,V0 h4 h6 h5,dG,qo,bk]
def rW(s:jr)(lM:List jr):Int:=
 if nL s.name=false then 6 else if(lM.any λx=>x.name==s.name)=true then 8 else if s.rows.length=0 then 6 else if 16<s.rows.length then 3 else
 if(s.rows.any λn=>iz n 1 64)=true then 7 else if iz s.q 0 64=true then 7 else 0
def kp(l:List jr):Nat->Option (Nat×Int)
 |0=>none
 |k+1=>match kp l k with
  |some r=>some r
  |none=>match l[k]? with
   |some s=>if rW s (l.take k)=0 then none else some (k,rW s (l.take k))
   |none=>none
def sN{l:List jr}{k n:Nat}{r:Nat×Int}(h:kp l k=some r)(hn:k<=n):kp l n=some r:=by
 induction n with
 |zero=>obtain rfl:k=0:=by omega
        exact h
 |succ n ih=>
  by_cases hk:k=n+1
  ·rw[<-hk];exact h
  ·show(match kp l n with|some r=>some r|none=>_)=_;rw[ih (by omega)]
def iE(l:List Int):Int:=l.foldr (· + ·) 0
def Ca(l:List Int)(n:Int):iE (l++[n])=iE l+n:=by
 induction l with
 |nil=>simp[iE]
 |cons a l ih=>simp only[iE,oy,List.foldr_cons]at ih|-;omega
def dv(l:List jr):Int:=iE (l.map λs=>iE s.rows)
def sQ(v:cT):Bool:=iz v.sh 1 16||iz v.sU 1 1000000000||iz v.sF 1 1000000000
def eR(v:cT):Int×Int:=
 if sQ v=true then(-1,7)else if v.az.length=0 then(-1,6)else if 8<v.az.length then(-1,3)else
 match kp v.az v.az.length with
 |some (i,e)=>((i:Int),e)
 |none=>if 4096<dv v.az then(-1,3)else(0,0)
abbrev gW(v:cT)(sv:ae):ae:=.agg #[.af v.sh,.af v.sU,.af v.sF,sv]
def eX(W:AW)(sv:ae)(l:List jr):Prop:=jc W sv l/\(∃a c,sv=.slice a l.length c/\((l.length<=c/\c<ge)\/c=ge+3)/\(l≠[]->∃b o,a=some ⟨b,o,none⟩))
def eX.mono{W W':AW}{v:ae}{l:List jr}(h:eX W v l)(bi:Le W W'):eX W' v l:=⟨h.1.mono bi,h.2⟩
def Row.take{α:Type}{W:AW}{z:Nat}{f:List ae->Nat->α->Prop}{b o c:Nat}{l:List α}(h:Row W z f (.slice (some ⟨b,o,none⟩) l.length c) l){k:Nat}(hk:k<=l.length)(h0:l≠[]):Row W z f (.slice (some ⟨b,o,none⟩) k c) (l.take k):=by
 obtain⟨a,c',he,h⟩:=h;injection he with e1 e2 e3;subst e1 e3;refine⟨_,c,by rw[fT,nO hk],?_⟩;rcases h with h|⟨b',o',cs,h1,h2,h3,h4⟩
 ·exact absurd h h0
 ·refine .inr ⟨b',o',cs,h1,h2,h3,λi hi=>?_⟩;rw[List.getElem_take];exact h4 i (by rw[fT]at hi;omega)
def ad9:AA Tryz.prog 22=some 3:=by kernel_rfl
def eX.pre{W:AW}{sv:ae}{l:List jr}(h:eX W sv l){k:Nat}(hk:k<l.length):∃u,(∀W',gh Tryz.prog 22 sv none (some (.af (k:Int))) none W'=some (u,W'))/\jc W u (l.take k):=by
 obtain⟨h1,a,c,rfl,h2,h4⟩:=h;have h0:l≠[]:=by intro e;rw[e]at hk;simp at hk
 obtain⟨b,o,rfl⟩:=h4 h0;rcases h2 with⟨h2,h3⟩|rfl
 ·exact⟨_,λW'=>L4 ad9 (by omega) h3,Row.take h1 (by omega) h0⟩
 ·exact⟨_,λW'=>Jn ad9 (by omega) (Nat.le_of_lt hk),Row.take h1 (by omega) h0⟩
def Up(W:AW):bc Tryz.prog 66 W=some (.pointer (some ⟨W.next,0,none⟩),W.add (.cells [.string (aQ []),.slice none 0 0,.af 0])):=aH (by kernel_rfl) rfl
def zc{α:Type}(p:α->Bool)(l:List α):Int:=match l.findIdx? p with
 |some i=>(i:Int)
 |none=> -1
def Dw{α:Type}{p:α->Bool}{l:List α}{k:Nat}(hk:k<l.length)(h1:p l[k]=true)(h2:(l.take k).any p=false):zc p l=(k:Int):=by
 have:l.findIdx? p=some k:=by rw[List.findIdx?_eq_some_iff_getElem];refine⟨hk,h1,λj hj=>?_⟩;rw[List.any_eq_false]at h2;exact h2 _ (by rw[List.mem_take_iff_getElem];exact⟨j,by omega,rfl⟩)
 unfold zc;rw[this]
def Ds{α:Type}{p:α->Bool}{l:List α}(h:l.any p=false):zc p l= -1:=by
 have:l.findIdx? p=none:=by rw[List.findIdx?_eq_none_iff];intro x hx;rw[List.any_eq_false]at h;simpa using h x hx
 unfold zc;rw[this]
def wE{α:Type}{p:α->Bool}{l:List α}{k:Nat}(hk:k<l.length)(h1:p l[k]=false)(h2:(l.take k).any p=false):(l.take (k+1)).any p=false:=by rw[<-xk hk,List.any_append,h2];simpa using h1
def any_some{α:Type}{p:α->Bool}{l:List α}{k:Nat}(hk:k<l.length)(h1:p l[k]=true):l.any p=true:=by rw[sL];exact⟨_,gd hk,h1⟩
def HH{α:Type}{p:α->Bool}{l:List α}:decide (0<=zc p l)=l.any p:=by
 unfold zc;cases h:l.findIdx? p with
 |none=>
  rw[List.findIdx?_eq_none_iff]at h;have:l.any p=false:=by rw[List.any_eq_false];intro x hx;simpa using h x hx
  rw[this];rfl
 |some i=>rw[List.findIdx?_eq_some_iff_getElem]at h;obtain⟨h1,h2,h3⟩:=h;rw[any_some h1 h2];simp
def Ma{f v:ae}{p:jr->Bool}{l:List jr}{W:AW}(h:jc W v l)(hl:l.length<1000)(hp:∀s rv,bl f [MP s rv] W=some (.bool (p s),W)):bl (.func (.func 98) #[] #[]) [v,f] W=some (.af (zc p l),W):=by
 refine bS rfl ?_ fH;unfold dD;simp only[SX,h.len GU];refine cx l.length (by omega) (λk R W'=>W'=W/\R 0=v/\R 1=f/\R 7=.af (l.length:Int)/\R 8=.af (k:Int)/\(l.take k).any p=false)
  (λr=>r.2.2=W/\((r.1=.exit 0/\zc p l= -1)\/(r.1=.ret/\r.2.1 4=.af (zc p l)))) ⟨rfl,rfl,rfl,rfl,rfl,rfl⟩ ?_ ?_ ?_
 ·rintro k R W' hk ⟨rfl,h0,h1,h7,h8,ha⟩;unfold cq;obtain⟨b,o,rv,g1,g2,g3,_⟩:=h.get hk;have e1:((k:Int)<(l.length:Int)):=by omega
  have e2:(k:Int)+1=((k+1:Nat):Int):=by omega
  have ea:=dP W' k 1;simp only[SX,h0,h1,h7,h8,e1,g1,g3 _ (.refl _),hp];cases hx:p l[k]
  ·simp only[SX,ea,am];exact .inl ⟨aB,aB,h0,h1,h7,by rw[<-e2];rfl,wE hk hx ha⟩
  ·simp only[SX,am];exact .inr ⟨by simp,aB,.inr ⟨aB,by rw[Dw hk hx ha];rfl⟩⟩
 ·rintro R W' ⟨rfl,h0,h1,h7,h8,ha⟩;unfold cq;have e1:¬((l.length:Int)<(l.length:Int)):=by omega
  rw[dN]at ha;simp only[SX,h7,h8,e1,am];exact⟨by simp,aB,.inl ⟨aB,Ds ha⟩⟩
 ·rintro⟨x,R,W'⟩ ⟨hW,hq⟩;simp only at hW hq;subst hW;rcases hq with⟨rfl,hq⟩|⟨rfl,h4⟩
  ·simp only[SX,am,hq];exact⟨aB,.refl _⟩
  ·simp only[SX,am,h4];exact⟨aB,.refl _⟩
def MN{f v:ae}{p:Int->Bool}{l:List Int}{W:AW}(h:oZ W v l)(hl:l.length<1000)(hp:∀n∈l,bl f [.af n] W=some (.bool (p n),W)):bl (.func (.func 99) #[] #[]) [v,f] W=some (.af (zc p l),W):=by
 refine bS rfl ?_ nz;unfold jY;simp only[SX,h.len tp];refine cx l.length (by omega) (λk R W'=>W'=W/\R 0=v/\R 1=f/\R 7=.af (l.length:Int)/\R 8=.af (k:Int)/\(l.take k).any p=false)
  (λr=>r.2.2=W/\((r.1=.exit 0/\zc p l= -1)\/(r.1=.ret/\r.2.1 4=.af (zc p l)))) ⟨rfl,rfl,rfl,rfl,rfl,rfl⟩ ?_ ?_ ?_
 ·rintro k R W' hk ⟨rfl,h0,h1,h7,h8,ha⟩;unfold fd;obtain⟨q,g1,g2⟩:=h.get hk;have e1:((k:Int)<(l.length:Int)):=by omega
  have e2:(k:Int)+1=((k+1:Nat):Int):=by omega
  have ea:=dP W' k 1;simp only[SX,h0,h1,h7,h8,e1,g1,g2 _ (.refl _),hp _ (gd hk)];cases hx:p l[k]
  ·simp only[SX,ea,am];exact .inl ⟨aB,aB,h0,h1,h7,by rw[<-e2];rfl,wE hk hx ha⟩
  ·simp only[SX,am];exact .inr ⟨by simp,aB,.inr ⟨aB,by rw[Dw hk hx ha];rfl⟩⟩
 ·rintro R W' ⟨rfl,h0,h1,h7,h8,ha⟩;unfold fd;have e1:¬((l.length:Int)<(l.length:Int)):=by omega
  rw[dN]at ha;simp only[SX,h7,h8,e1,am];exact⟨by simp,aB,.inl ⟨aB,Ds ha⟩⟩
 ·rintro⟨x,R,W'⟩ ⟨hW,hq⟩;simp only at hW hq;subst hW;rcases hq with⟨rfl,hq⟩|⟨rfl,h4⟩
  ·simp only[SX,am,hq];exact⟨aB,.refl _⟩
  ·simp only[SX,am,h4];exact⟨aB,.refl _⟩
def NJ{f v:ae}{p:jr->Bool}{l:List jr}{W:AW}(h:jc W v l)(hl:l.length<1000)(hp:∀s rv,bl f [MP s rv] W=some (.bool (p s),W)):bl (.func (.func 71) #[] #[]) [v,f] W=some (.bool (l.any p),W):=by refine bS rfl ?_ fc;unfold dw;simp only[SX,Ma h hl hp,HH,am];exact⟨aB,.refl _⟩
def MK{f v:ae}{p:Int->Bool}{l:List Int}{W:AW}(h:oZ W v l)(hl:l.length<1000)(hp:∀n∈l,bl f [.af n] W=some (.bool (p n),W)):bl (.func (.func 73) #[] #[]) [v,f] W=some (.bool (l.any p),W):=by refine bS rfl ?_ lI;unfold iv;simp only[SX,MN h hl hp,HH,am];exact⟨aB,.refl _⟩
def Mz(n:Int)(W:AW):bl (.func (.func 74) #[] #[]) [.af n] W=some (.bool (iz n 1 64),W):=by refine bS rfl ?_ xp;unfold tN;simp only[SX,kI,am];exact⟨aB,.refl _⟩
def ajk(a b c:ae)(W:AW):cC (.agg #[a,b,c]) W=some (.pointer (some ⟨W.next,0,none⟩),W.add (.cells [a,b,c])):=iR _
def Ho{c:Nat}{m:List UInt8}{W:AW}(hc:∀W',Le W W'->aJ (.pointer (some ⟨c,0,none⟩)) W'=some (.string (aQ m),W'))(s:jr)(rv:ae):
 bl (.func (.func 72) #[] #[.pointer (some ⟨c,0,none⟩)]) [MP s rv] W=some (.bool (s.name==m),W):=by
 refine bS rfl ?_ wO;unfold tC;have h0:=hc _ ((Le.refl W).add (.cells [.string (aQ s.name),rv,.af s.q]));have h1:aJ (.pointer (some ⟨W.next,0,none⟩)) (W.add (.cells [.string (aQ s.name),rv,.af s.q]))=some (.string (aQ s.name),W.add (.cells [.string (aQ s.name),rv,.af s.q])):=cU bp rfl;simp only[SX,h0,h1,aK,nC,am];exact⟨aB,(Le.refl _).add _⟩
def MW{s:jr}{rv bv:ae}{lM:List jr}{W:AW}(hs:oZ W rv s.rows)(hb:jc W bv lM)(hl:lM.length<1000):bl (.func (.func 47) #[] #[]) [MP s rv,bv] W=some (.af (rW s lM),W):=by
 refine bS rfl ?_ AS;unfold yO;have bi:Le W (W.add (.cells [.string (aQ s.name),rv,.af s.q])):=(Le.refl W).add _;simp only[SX,aK];generalize Ik:W.add (.cells [.string (aQ s.name),rv,.af s.q])=W1 at *;have nK:aI W1 W.next=some [.string (aQ s.name),rv,.af s.q]:=by rw[<-Ik];exact bp
 have hn:W.next<W1.next:=by rw[<-Ik,AW.aL];omega
 have h0:∀W',Le W1 W'->aJ (.pointer (some ⟨W.next,0,none⟩)) W'=some (.string (aQ s.name),W'):=λW' k=>cU (by rw[k.aI hn];exact nK) rfl
 have h1:aJ (.pointer (some ⟨W.next,1,none⟩)) W1=some (rv,W1):=cU nK rfl;have h2:aJ (.pointer (some ⟨W.next,2,none⟩)) W1=some (.af s.q,W1):=cU nK rfl;have hf:=NJ (W:=W1) (hb.mono bi) hl (p:=λx=>x.name==s.name) (λx rv=>Ho h0 x rv);unfold rW;cases n1:nL s.name
 ·simp only[SX,h0 _ (.refl _),pQ,n1,bk,am];exact⟨aB,bi⟩
 ·cases n2:lM.any λx=>x.name==s.name
  ·by_cases n3:s.rows.length=0
   ·have e:((s.rows.length:Int)=0):=by omega
    simp only[SX,h0 _ (.refl _),pQ,n1,hf,n2,h1,(hs.mono bi).len tp,e,ax n3,bG,oz,fJ,am];exact⟨aB,bi⟩
   ·have e:¬((s.rows.length:Int)=0):=by omega
    by_cases n4:16<s.rows.length
    ·have e2:((16:Int)<(s.rows.length:Int)):=by omega
     simp only[SX,h0 _ (.refl _),pQ,n1,hf,n2,h1,(hs.mono bi).len tp,e,n3,e2,n4,bk,bG,oz,fJ,am];exact⟨aB,bi⟩
    ·have e2:¬((16:Int)<(s.rows.length:Int)):=by omega
     have hg:=MK (W:=W1) (hs.mono bi) (by omega) (p:=λn=>iz n 1 64) (λn _=>Mz n W1);cases n5:s.rows.any λn=>iz n 1 64
     ·cases n6:iz s.q 0 64
      ·simp only[SX,h0 _ (.refl _),pQ,n1,hf,n2,h1,(hs.mono bi).len tp,e,n3,e2,n4,hg,n5,h2,kI,n6,bG,oz,fJ,am];exact⟨aB,bi⟩
      ·simp only[SX,h0 _ (.refl _),pQ,n1,hf,n2,h1,(hs.mono bi).len tp,e,n3,e2,n4,hg,n5,h2,kI,n6,bk,bG,oz,fJ,am];exact⟨aB,bi⟩
     ·simp only[SX,h0 _ (.refl _),pQ,n1,hf,n2,h1,(hs.mono bi).len tp,e,n3,e2,n4,hg,n5,bk,bG,oz,fJ,am];exact⟨aB,bi⟩
  ·simp only[SX,h0 _ (.refl _),pQ,n1,hf,n2,bk,bG,oz,am];exact⟨aB,bi⟩
def ac7(a b c d:ae)(W:AW):cC (.agg #[a,b,c,d]) W=some (.pointer (some ⟨W.next,0,none⟩),W.add (.cells [a,b,c,d])):=iR _
def dC(W:AW)(cs ds:List ae):(W.add (.cells cs)).put W.next (.cells ds)=W.add (.cells ds):=im W _ _
def Pd{b:Nat}{a c d x y z:ae}{W:AW}(h:aF W b=some [x,y,z])(h1:Eng.one a=true)(h2:Eng.one c=true)(h3:Eng.one d=true):bU 3 (.pointer (some ⟨b,0,none⟩)) (.agg #[a,c,d]) W=some (ag,W.put b (.cells [a,c,d])):=by
 rw[sY,h];have e:(#[a,c,d]:Array ae).toList.all Eng.one=true:=by simp[h1,h2,h3]
 simp only[bq,e,and_true];rfl
def Row.one{α:Type}{W:AW}{z:Nat}{f:List ae->Nat->α->Prop}{v:ae}{l:List α}(h:Row W z f v l):Eng.one v=true:=by obtain⟨a,c,rfl,_⟩:=h;rfl
def Ks{v:cT}{sv:ae}{W:AW}(hs:jc W sv v.az)(hv:v.az.length<1000){i:Nat}(hi:i<v.az.length)(hr:v.az[i].rows.length<1000):bl (.func (.func 55) #[] #[]) [gW v sv,.af (i:Int)] W=some (.af (rW v.az[i] (v.az.take i)),W):=by
 refine bS rfl ?_ xZ;unfold tS;have bi:Le W (W.add (.cells [.af v.sh,.af v.sU,.af v.sF,sv])):=(Le.refl W).add _;obtain⟨b,o,rv,g1,g2,g3,_⟩:=hs.get hi;have c3:aJ (.pointer (some ⟨W.next,3,none⟩)) (W.add (.cells [.af v.sh,.af v.sU,.af v.sF,sv]))=some (sv,W.add (.cells [.af v.sh,.af v.sU,.af v.sF,sv])):=cU bp rfl;simp only[SX,aK,c3,g1,g3 _ bi,Up,Pd bQ (mV _) (Row.one g2) (pF _ _),dC];generalize Ik:W.add (.cells [.af v.sh,.af v.sU,.af v.sF,sv])=W1 at *;have CL:Le W (W1.add (.cells [.string (aQ v.az[i].name),rv,.af v.az[i].q])):=bi.add _;have IE:aI (W1.add (.cells [.string (aQ v.az[i].name),rv,.af v.az[i].q])) W.next=some [.af v.sh,.af v.sU,.af v.sF,sv]:=by rw[rQ _ (by rw[<-Ik,AW.aL];omega),<-Ik];exact bp
 have iu:aI (W1.add (.cells [.string (aQ v.az[i].name),rv,.af v.az[i].q])) W1.next=some [.string (aQ v.az[i].name),rv,.af v.az[i].q]:=bp;generalize WI:W1.add (.cells [.string (aQ v.az[i].name),rv,.af v.az[i].q])=W2 at *;have d0:aJ (.pointer (some ⟨W1.next,0,none⟩)) W2=some (.string (aQ v.az[i].name),W2):=cU iu rfl;have d1:aJ (.pointer (some ⟨W1.next,1,none⟩)) W2=some (rv,W2):=cU iu rfl;have d2:aJ (.pointer (some ⟨W1.next,2,none⟩)) W2=some (.af v.az[i].q,W2):=cU iu rfl;have c3:aJ (.pointer (some ⟨W.next,3,none⟩)) W2=some (sv,W2):=cU IE rfl;have XE:=(g2.mono CL).len (P:=Tryz.prog) tp;simp only[SX,d0,Jx];generalize hs':v.az[i]=s at *;unfold rW;cases n1:nL s.name
 ·simp only[SX,bk,am];exact⟨aB,CL⟩
 ·simp only[SX];refine cx i (by omega) (λk R W'=>W'=W2/\R 1=.af (i:Int)/\R 2=.pointer (some ⟨W.next,0,none⟩)/\R 5=.pointer (some ⟨W1.next,0,none⟩)/\R 6=.af (k:Int)/\((v.az.take i).take k).any (λx=>x.name==s.name)=false)
   (λr=>r.2.2=W2/\((r.1=.exit 0/\r.2.1 5=.pointer (some ⟨W1.next,0,none⟩)/\(v.az.take i).any (λx=>x.name==s.name)=false)\/(r.1=.ret/\r.2.1 4=.af 8/\(v.az.take i).any (λx=>x.name==s.name)=true))) ⟨rfl,rfl,rfl,rfl,rfl,rfl⟩ ?_ ?_ ?_
  ·rintro k R W' hk ⟨rfl,h1,h2,h5,h6,ha⟩;unfold kB;have S8:k<v.az.length:=by omega
   have hk3:k<(v.az.take i).length:=by rw[fT];omega
   have O1:(v.az.take i)[k]=v.az[k]:=List.getElem_take;obtain⟨b',o',rv',f1,f2,f3,f4,_⟩:=hs.get S8;have e1:((k:Int)<(i:Int)):=by omega
   have e2:(k:Int)+1=((k+1:Nat):Int):=by omega
   have ea:=dP W' k 1;simp only[SX,h1,h2,h5,h6,e1,aK,c3,f1,ce,f4 _ CL,d0,nC];cases hx:v.az[k].name==s.name
   ·simp only[SX,ea,am];exact .inl ⟨aB,aB,h1,h2,h5,by rw[<-e2];rfl,wE hk3 (by rw[O1];exact hx) ha⟩
   ·simp only[SX,am];exact .inr ⟨by simp,aB,.inr ⟨aB,rfl,any_some hk3 (by rw[O1];exact hx)⟩⟩
  ·rintro R W' ⟨rfl,h1,h2,h5,h6,ha⟩;unfold kB;have e1:¬((i:Int)<(i:Int)):=by omega
   rw[oc (by rw[fT];omega)]at ha;simp only[SX,h1,h6,e1,am];exact⟨by simp,aB,.inl ⟨aB,h5,ha⟩⟩
  ·rintro⟨x,R,W'⟩ ⟨hW,hq⟩;simp only at hW hq;subst hW;rcases hq with⟨rfl,h5,hq⟩|⟨rfl,h4,hq⟩
   ·by_cases n3:s.rows.length=0
    ·have e:((s.rows.length:Int)=0):=by omega
     simp only[SX,h5,aK,d1,XE,e,hq,ax n3,bG,oz,fJ,am];exact⟨aB,CL⟩
    ·have e:¬((s.rows.length:Int)=0):=by omega
     by_cases n4:16<s.rows.length
     ·have e2:((16:Int)<(s.rows.length:Int)):=by omega
      simp only[SX,h5,aK,d1,XE,e,e2,hq,ay n3,ax n4,bG,oz,fJ,am];exact⟨aB,CL⟩
     ·have e2:¬((16:Int)<(s.rows.length:Int)):=by omega
      simp only[SX,h5,aK,d1,XE,e,e2,hq,ay n3,ay n4,bG,oz,fJ];refine cx s.rows.length (by omega) (λk R W3=>W3=W'/\R 5=.pointer (some ⟨W1.next,0,none⟩)/\R 7=.af (k:Int)/\(s.rows.take k).any (λn=>iz n 1 64)=false)
       (λr=>r.2.2=W'/\((r.1=.exit 2/\r.2.1 5=.pointer (some ⟨W1.next,0,none⟩)/\s.rows.any (λn=>iz n 1 64)=false)\/(r.1=.ret/\r.2.1 4=.af 7/\s.rows.any (λn=>iz n 1 64)=true))) ⟨rfl,h5,rfl,rfl⟩ ?_ ?_ ?_
      ·rintro k R W3 hk ⟨rfl,h5,h7,ha⟩;unfold kr;obtain⟨p,p1,p2⟩:=g2.get hk;have e1:((k:Int)<(s.rows.length:Int)):=by omega
       have e2:(k:Int)+1=((k+1:Nat):Int):=by omega
       have ea:=dP W3 k 1;simp only[SX,h5,h7,aK,d1,XE,e1,p1,p2 _ CL,oT,uQ];cases hx:iz s.rows[k] 1 64
       ·simp only[SX,ea,am];exact .inl ⟨aB,aB,h5,by rw[<-e2];rfl,wE hk hx ha⟩
       ·simp only[SX,am];exact .inr ⟨by simp,aB,.inr ⟨aB,rfl,any_some hk hx⟩⟩
      ·rintro R W3 ⟨rfl,h5,h7,ha⟩;unfold kr;have e1:¬((s.rows.length:Int)<(s.rows.length:Int)):=by omega
       rw[dN]at ha;simp only[SX,h5,h7,aK,d1,XE,e1,am];exact⟨by simp,aB,.inl ⟨aB,h5,ha⟩⟩
      ·rintro⟨x,R,W3⟩ ⟨hW,hq⟩;simp only at hW hq;subst hW;rcases hq with⟨rfl,h5,hq⟩|⟨rfl,h4,hq⟩
       ·simp only[SX,h5,hq,aK,d2,oT,uQ,fJ,bG];cases n6:iz s.q 0 64
        ·simp only[SX,fJ,bG,am];exact⟨aB,CL⟩
        ·simp only[SX,bk,am];exact⟨aB,CL⟩
       ·simp only[SX,hq,h4,bk,am];exact⟨aB,CL⟩
   ·simp only[SX,h4,hq,bk,bG,oz,am];exact⟨aB,CL⟩
def xF{s:jr}{b:List jr}(h:rW s b=0):nL s.name=true/\(b.any λx=>x.name==s.name)=false/\s.rows.length≠0/\s.rows.length<=16/\(∀n∈s.rows,1<=n/\n<=64)/\0<=s.q/\s.q<=64:=by
 unfold rW at h;split at h
 ·exact absurd h (by decide)
 rename_i h1;split at h
 ·exact absurd h (by decide)
 rename_i h2;split at h
 ·exact absurd h (by decide)
 rename_i h3;split at h
 ·exact absurd h (by decide)
 rename_i h4;split at h
 ·exact absurd h (by decide)
 rename_i h5;split at h
 ·exact absurd h (by decide)
 rename_i h6;refine⟨by simpa using h1,by simpa using h2,h3,by omega,?_,?_⟩
 ·intro n hn;have:iz n 1 64=false:=by
   cases ho:iz n 1 64
   ·rfl
   ·exact absurd (sL.2 ⟨n,hn,ho⟩) h5
  unfold iz at this;simp only[Bool.or_eq_false_iff,zX]at this;omega
 ·unfold iz at h6;simp only[ls,decide_eq_true_iff]at h6;omega
def mw{l:List Int}{k:Nat}(hk:k<l.length):iE (l.take (k+1))=iE (l.take k)+l[k]:=by rw[<-xk hk,Ca]
def mW{l:List jr}{k:Nat}(hk:k<l.length):dv (l.take (k+1))=dv (l.take k)+iE l[k].rows:=by unfold dv;rw[List.map_take,List.map_take,mw (by rw[ox];exact hk),List.getElem_map]
def m9{l:List Int}(h:∀n∈l,1<=n/\n<=64)(k:Nat):(0<=iE (l.take k)/\iE (l.take k)<=64*k)/\(min k l.length:Int)<=iE (l.take k):=by
 induction k with
 |zero=>simp[iE];omega
 |succ k ih=>
  by_cases hk:k<l.length
  ·rw[mw hk];have:=h _ (gd hk);omega
  ·rw[oc (by omega)]at ih|-;omega
def wX{l:List jr}{k:Nat}(h:kp l k=none)(hk:k<l.length):kp l (k+1)=if rW l[k] (l.take k)=0 then none else some (k,rW l[k] (l.take k)):=by show(match kp l k with|some r=>some r|none=>match l[k]? with|some s=>if rW s (l.take k)=0 then none else some (k,rW s (l.take k))|none=>none)=_;rw[h,dm hk]
def Dt{l:List jr}{k:Nat}(h:kp l k=none):∀i (hi:i<k) (hl:i<l.length),rW l[i] (l.take i)=0:=by
 induction k with
 |zero=>intro i hi;omega
 |succ k ih=>
  have h1:kp l k=none:=by
   cases hb:kp l k with
   |none=>rfl
   |some r=>rw[sN hb (Nat.le_succ k)]at h;cases h
  intro i hi hl;by_cases e:i=k
  ·subst e;rw[wX h1 hl]at h;split at h
   ·assumption
   ·cases h
  ·exact ih h1 i (by omega) hl
def HM{l:List jr}{k:Nat}(h:kp l k=none)(hk:k<=l.length):0<=dv (l.take k)/\dv (l.take k)<=1024*k:=by
 induction k with
 |zero=>simp[dv,iE]
 |succ k ih=>
  have h1:kp l k=none:=by
   cases hb:kp l k with
   |none=>rfl
   |some r=>rw[sN hb (Nat.le_succ k)]at h;cases h
  have h2:=ih h1 (by omega);have EB:k<l.length:=by omega
  obtain⟨_,_,_,h3,h4,_⟩:=xF (Dt h k (by omega) EB);rw[mW EB];have h5:=(m9 h4 l[k].rows.length).1;rw[dN]at h5;omega
def nD{v:cT}{sv:ae}{W:AW}(hs:eX W sv v.az)(hv:v.az.length<1000):bl (.func (.func 33) #[] #[]) [gW v sv] W=some (.tuple #[.af (eR v).1,.af (eR v).2],W):=by
 refine bS rfl ?_ Bq;unfold yo;have bi:Le W (W.add (.cells [.af v.sh,.af v.sU,.af v.sF,sv])):=(Le.refl W).add _;have hc:aI (W.add (.cells [.af v.sh,.af v.sU,.af v.sF,sv])) W.next=some [.af v.sh,.af v.sU,.af v.sF,sv]:=bp;have hn:W.next<(W.add (.cells [.af v.sh,.af v.sU,.af v.sF,sv])).next:=by rw[AW.aL];omega
 simp only[SX,aK];generalize Ik:W.add (.cells [.af v.sh,.af v.sU,.af v.sF,sv])=W1 at *;have c0:aJ (.pointer (some ⟨W.next,0,none⟩)) W1=some (.af v.sh,W1):=cU hc rfl;have c1:aJ (.pointer (some ⟨W.next,1,none⟩)) W1=some (.af v.sU,W1):=cU hc rfl;have c2:aJ (.pointer (some ⟨W.next,2,none⟩)) W1=some (.af v.sF,W1):=cU hc rfl;have c3:∀W',Le W1 W'->aJ (.pointer (some ⟨W.next,3,none⟩)) W'=some (sv,W'):=λW' k=>cU (by rw[k.aI hn];exact hc) rfl
 simp only[SX,c0,kI];unfold eR sQ;cases n1:iz v.sh 1 16;case true=>simp only[SX,sV,bk,am];exact⟨aB,bi⟩
 simp only[SX,c1,qA];cases n2:iz v.sU 1 1000000000;case true=>simp only[SX,sV,sM,bk,am];exact⟨aB,bi⟩
 simp only[SX,c2,qA];cases n3:iz v.sF 1 1000000000;case true=>simp only[SX,sM,bk,am];exact⟨aB,bi⟩
 simp only[SX,c3 _ (.refl _),hs.1.len GU,Bool.or_self,fJ,bG];by_cases n4:v.az.length=0;case pos=>
  have e:((v.az.length:Int)=0):=by omega
  simp only[SX,e,ax n4,am];exact⟨aB,bi⟩
 have e4:¬((v.az.length:Int)=0):=by omega
 simp only[SX,e4,ay n4];by_cases n5:8<v.az.length;case pos=>
  have e:((8:Int)<(v.az.length:Int)):=by omega
  simp only[SX,e,ax n5,am];exact⟨aB,bi⟩
 have e5:¬((8:Int)<(v.az.length:Int)):=by omega
 simp only[SX,e5,ay n5];refine cx v.az.length (by omega) (λk R W'=>Le W1 W'/\R 1=.pointer (some ⟨W.next,0,none⟩)/\R 4=.af (dv (v.az.take k))/\R 35=sv/\R 36=.af (v.az.length:Int)/\R 37=.af (k:Int)/\kp v.az k=none)
  (λr=>Le W1 r.2.2/\((r.1=.exit 1/\r.2.1 4=.af (dv v.az)/\kp v.az v.az.length=none)\/(r.1=.ret/\∃i e,r.2.1 2=.af ((i:Nat):Int)/\r.2.1 3=.af e/\kp v.az v.az.length=some (i,e)))) ⟨.refl _,rfl,rfl,rfl,rfl,rfl,rfl⟩ ?_ ?_ ?_
 ·rintro k R W' hk ⟨hl,h1,h4,Hx,SL,SD,hb⟩;unfold nl;obtain⟨b,o,rv,g1,g2,g3,_⟩:=hs.1.get hk;obtain⟨u,u1,u2⟩:=hs.pre hk;have e1:((k:Int)<(v.az.length:Int)):=by omega
  simp only[SX,Hx,SL,SD,e1,g1,g3 _ (bi.trans hl),Up,Pd bQ (mV _) (Row.one g2) (pF _ _),dC];have qN:Le W1 (W'.add (.cells [.string (aQ v.az[k].name),rv,.af v.az[k].q])):=hl.add _;have N8:aI (W'.add (.cells [.string (aQ v.az[k].name),rv,.af v.az[k].q])) W'.next=some [.string (aQ v.az[k].name),rv,.af v.az[k].q]:=bp;generalize WI:W'.add (.cells [.string (aQ v.az[k].name),rv,.af v.az[k].q])=W2 at *;have d3:bA 3 (.pointer (some ⟨W'.next,0,none⟩)) W2=some (MP v.az[k] rv,W2):=kP N8 rfl;have d1:aJ (.pointer (some ⟨W'.next,1,none⟩)) W2=some (rv,W2):=cU N8 rfl;have XE:=(g2.mono (bi.trans qN)).len (P:=Tryz.prog) tp;simp only[SX,d3,h1,aK,c3 _ qN,u1,MW (g2.mono (bi.trans qN)) (u2.mono (bi.trans qN)) (by rw[fT];omega)];have T0:=wX hb hk;by_cases hz:rW v.az[k] (v.az.take k)=0
  ·rw[ax hz]at T0;obtain⟨_,_,_,VF,S4,_⟩:=xF hz;have htb:=HM hb (by omega);simp only[SX,hz,d1,XE];refine cx v.az[k].rows.length (by omega) (λj R' W3=>W3=W2/\R' 1=.pointer (some ⟨W.next,0,none⟩)/\R' 4=.af (dv (v.az.take k)+iE (v.az[k].rows.take j))/\R' 35=sv/\R' 36=.af (v.az.length:Int)/\R' 37=.af (k:Int)/\R' 53=rv/\R' 54=.af (v.az[k].rows.length:Int)/\R' 55=.af (j:Int))
    (λr=>r.2.2=W2/\r.1=.exit 3/\r.2.1 1=.pointer (some ⟨W.next,0,none⟩)/\r.2.1 4=.af (dv (v.az.take (k+1)))/\r.2.1 35=sv/\r.2.1 36=.af (v.az.length:Int)/\r.2.1 37=.af (k:Int)) ⟨rfl,h1,by rw[rY,show iE []=0 from rfl,kT];exact h4,Hx,SL,SD,rfl,rfl,rfl⟩ ?_ ?_ ?_
   ·rintro j R' W3 hj ⟨rfl,h1,h4,Hx,SL,SD,h53,h54,h55⟩;unfold jx;obtain⟨p,p1,p2⟩:=g2.get hj;have e1:((j:Int)<(v.az[k].rows.length:Int)):=by omega
    have e2:(j:Int)+1=((j+1:Nat):Int):=by omega
    have ea:=dP W3 j 1;have hsb:=(m9 S4 j).1;have LZ:=S4 _ (gd hj);have eb:=rq W3 (dv (v.az.take k)+iE (v.az[k].rows.take j)) (v.az[k].rows[j]);simp only[SX,h4,h53,h54,h55,e1,p1,p2 _ (bi.trans qN),ea,eb,am];refine .inl ⟨aB,aB,h1,?_,Hx,SL,SD,h53,h54,by rw[<-e2];rfl⟩;rw[mw hj,<-wz];rfl
   ·rintro R' W3 ⟨rfl,h1,h4,Hx,SL,SD,h53,h54,h55⟩;unfold jx;have e1:¬((v.az[k].rows.length:Int)<(v.az[k].rows.length:Int)):=by omega
    simp only[SX,h54,h55,e1,am];refine⟨by simp,aB,aB,h1,?_,Hx,SL,SD⟩;rw[mW hk];rw[dN]at h4;exact h4
   ·rintro⟨x,R',W3⟩ ⟨hW,rfl,h1,h4,Hx,SL,SD⟩;simp only at hW h1 h4 Hx SL SD;subst hW;have e2:(k:Int)+1=((k+1:Nat):Int):=by omega
    have ea:=dP W3 k 1;simp only[SX,SD,ea,am];exact .inl ⟨aB,qN,h1,h4,Hx,SL,by rw[<-e2];rfl,T0⟩
  ·rw[ay hz]at T0;simp only[SX,hz,am];exact .inr ⟨by simp,qN,.inr ⟨aB,k,_,rfl,rfl,sN T0 (by omega)⟩⟩
 ·rintro R W' ⟨hl,h1,h4,Hx,SL,SD,hb⟩;unfold nl;have e1:¬((v.az.length:Int)<(v.az.length:Int)):=by omega
  rw[dN]at h4;simp only[SX,SL,SD,e1,am];exact⟨by simp,hl,.inl ⟨aB,h4,hb⟩⟩
 ·rintro⟨x,R,W'⟩ ⟨hl,hq⟩;simp only at hl hq;rcases hq with⟨rfl,h4,hb⟩|⟨rfl,i,e,h2,h3,hb⟩
  ·rw[hb];by_cases n6:4096<dv v.az
   ·simp only[SX,h4,n6,bk,am];exact⟨aB,bi.trans hl⟩
   ·simp only[SX,h4,n6,bG,am];exact⟨aB,bi.trans hl⟩
  ·rw[hb];simp only[SX,h2,h3,am];exact⟨aB,bi.trans hl⟩
abbrev Il:=Nat×Nat×Nat
def qE(i k m:Nat):List Il:=(List.range m).map λj=>(i,k,j)
def wR(i:Nat)(rows:List Int)(k:Nat):List Il:=(List.range k).flatMap λj=>qE i j (rows.getD j 0).toNat
def ur(l:List jr)(n:Nat):List Il:=(List.range n).flatMap λi=>match l[i]? with
 |some s=>wR i s.rows s.rows.length
 |none=>[]
def iG(l:List jr):List Il:=ur l l.length
def L2(i k m:Nat):qE i k (m+1)=qE i k m++[(i,k,m)]:=by simp[qE,mL]
def xz(i:Nat)(rows:List Int){k:Nat}(hk:k<rows.length):wR i rows (k+1)=wR i rows k++qE i k rows[k].toNat:=by unfold wR;rw[mL,jO,hO,List.flatMap_nil,iD,mS,dm hk,pB]
def wP(l:List jr){n:Nat}(hn:n<l.length):ur l (n+1)=ur l n++wR n l[n].rows l[n].rows.length:=by unfold ur;rw[mL,jO,hO,List.flatMap_nil,iD,dm hn]
structure Good (l:List jr):Prop where
 len:l.length<=8
 rows:∀s∈l,s.rows.length≠0/\s.rows.length<=16/\∀n∈s.rows,1<=n/\n<=64
def Good.of{l:List jr}(h:l.length<=8)(hb:kp l l.length=none):Good l:=
 ⟨h,λs hs=>by obtain⟨i,hi,rfl⟩:=vj hs;obtain⟨_,_,h3,h4,h5,_⟩:=xF (Dt hb i hi hi);exact⟨h3,h4,h5⟩⟩
def Hp(i k m:Nat):(qE i k m).length=m:=by simp[qE]
def Cn{i:Nat}{rows:List Int}(h:∀n∈rows,1<=n/\n<=64):∀{k:Nat},k<=rows.length->((wR i rows k).length:Int)=iE (rows.take k)
 |0,_=>by simp[wR,iE]
 |k+1,hk=>by
  have EB:k<rows.length:=by omega
  rw[xz i rows EB,cm,Hp,mw EB,<-Cn (i:=i) h (by omega:k<=rows.length)];have:=h _ (gd EB);omega
def rl{l:List jr}(h:Good l):∀{n:Nat},n<=l.length->((ur l n).length:Int)=dv (l.take n)/\(ur l n).length<=1024*n
 |0,_=>by simp[ur,dv,iE]
 |n+1,hn=>by
  have C5:n<l.length:=by omega
  obtain⟨h1,h2,h3⟩:=h.rows _ (gd C5);have ih:=rl h (by omega:n<=l.length);have hl:=Cn (i:=n) h3 (aS _);have hb:=(m9 h3 l[n].rows.length).1;rw[dN]at hl hb;rw[wP l C5,cm,mW C5];omega
def pY{l:List jr}(h:Good l):((iG l).length:Int)=dv l:=by have:=(rl h (aS l.length)).1;rwa [dN]at this
def CR(p:Il):List ae:=[.af (p.1:Int),.af (p.2.1:Int),.af (p.2.2:Int)]
def Wl(cs:List ae)(p:Nat)(a:Il):Prop:=cs[p]? =some (.af (a.1:Int))/\cs[p+1]? =some (.af (a.2.1:Int))/\cs[p+2]? =some (.af (a.2.2:Int))
def GD(p:Il):(CR p).length=3:=rfl
def PQ(p:Il):(CR p).all Eng.one=true:=rfl
def T4(a:Il)(pre post:List ae):Wl (pre++(CR a++post)) pre.length a:=by refine⟨?_,?_,?_⟩<;>(rw[ig (by omega)];simp[CR])
abbrev ZU(W:AW)(v:ae)(l:List Il):Prop:=Row W 3 Wl v l
def acQ:lS Tryz.prog #[127,127] 3 24=true:=by kernel_rfl
def adK(a b c:Int)(W:AW):bH Tryz.prog 167 [(0,.af a),(1,.af b),(2,.af c)] W=some (.agg #[.af a,.af b,.af c],W):=aH (by kernel_rfl) rfl
def abl(a b c:Int)(W:AW):aC Tryz.prog 127 1 [(0,.agg #[.af a,.af b,.af c])] W=some (.slice (some ⟨W.next,0,none⟩) 1 1,W.add (.cells [.af a,.af b,.af c])):=aH (by kernel_rfl) rfl
def sx{v:cT}{sv:ae}{W:AW}(hs:jc W sv v.az)(hg:Good v.az):∃r W',bl (.func (.func 56) #[] #[]) [gW v sv] W=some (r,W')/\Le W W'/\ZU W' r (iG v.az):=by
 have bi:Le W (W.add (.cells [.af v.sh,.af v.sU,.af v.sF,sv])):=(Le.refl W).add _;have hc:aI (W.add (.cells [.af v.sh,.af v.sU,.af v.sF,sv])) W.next=some [.af v.sh,.af v.sU,.af v.sF,sv]:=bp;have hn:W.next<(W.add (.cells [.af v.sh,.af v.sU,.af v.sF,sv])).next:=by rw[AW.aL];omega
 refine Y2 ?_ zl;unfold wg;simp only[SX];generalize Ik:W.add (.cells [.af v.sh,.af v.sU,.af v.sF,sv])=W1 at *;have c3:∀W',Le W1 W'->aJ (.pointer (some ⟨W.next,3,none⟩)) W'=some (sv,W'):=λW' k=>cU (by rw[k.aI hn];exact hc) rfl
 have j8:∀(k:Nat) (W':AW),k<1000000->aw Tryz.prog .add 3 false true (.af (k:Int)) (.af 1) W'=some (.af ((k+1:Nat):Int),W'):=λk W' hk=>cY (by omega) (by omega)
 have fb:=hg.len;refine cx v.az.length (by omega) (λi R W'=>Le W1 W'/\R 1=.pointer (some ⟨W.next,0,none⟩)/\R 4=.af (i:Int)/\ns W1.next W' 3 CR (R 3) (ur v.az i))
  (λr=>Le W1 r.2.2/\r.1=.exit 0/\ns W1.next r.2.2 3 CR (r.2.1 3) (ur v.az v.az.length)) ⟨.refl _,rfl,rfl,ns.nil _ _ _ _⟩ ?_ ?_ ?_
 ·rintro i R W' hi ⟨hl,h1,h4,hG⟩;unfold lB;have e1:((i:Int)<(v.az.length:Int)):=by omega
  simp only[SX,h1,h4,aK,c3 _ hl,hs.len GU,e1];obtain⟨b,o,rv,g1,g2,_,_,g5,_⟩:=hs.get hi;obtain⟨r1,r2,r3⟩:=hg.rows _ (gd hi);have mq:=(rl hg (by omega:i<=v.az.length)).2;refine cx v.az[i].rows.length (by omega) (λk R W'=>Le W1 W'/\R 1=.pointer (some ⟨W.next,0,none⟩)/\R 4=.af (i:Int)/\R 5=.af (k:Int)/\ns W1.next W' 3 CR (R 3) (ur v.az i++wR i v.az[i].rows k))
   (λr=>Le W1 r.2.2/\r.1=.exit 2/\r.2.1 1=.pointer (some ⟨W.next,0,none⟩)/\r.2.1 4=.af (i:Int)/\ns W1.next r.2.2 3 CR (r.2.1 3) (ur v.az (i+1))) ⟨hl,h1,h4,rfl,by rw[show wR i v.az[i].rows 0=[]from rfl,iD];exact hG⟩ ?_ ?_ ?_
  ·rintro k R W' hk ⟨hl,h1,h4,h5,hG⟩;unfold iX;have e1:((k:Int)<(v.az[i].rows.length:Int)):=by omega
   have W9:=g2.mono (bi.trans hl);simp only[SX,h1,h4,h5,aK,c3 _ hl,g1,g5 _ (bi.trans hl),W9.len tp,e1];obtain⟨p,p1,p2⟩:=g2.get hk;have hrk:=r3 _ (gd hk);have hsl:=Cn (i:=i) r3 (by omega:k<=v.az[i].rows.length);have hsb:=(m9 r3 k).1;refine cx v.az[i].rows[k].toNat (by omega) (λm R W'=>Le W1 W'/\R 1=.pointer (some ⟨W.next,0,none⟩)/\R 4=.af (i:Int)/\R 5=.af (k:Int)/\R 6=.af (m:Int)/\ns W1.next W' 3 CR (R 3) (ur v.az i++wR i v.az[i].rows k++qE i k m))
    (λr=>Le W1 r.2.2/\r.1=.exit 4/\r.2.1 1=.pointer (some ⟨W.next,0,none⟩)/\r.2.1 4=.af (i:Int)/\r.2.1 5=.af (k:Int)/\ns W1.next r.2.2 3 CR (r.2.1 3) (ur v.az i++wR i v.az[i].rows (k+1))) ⟨hl,h1,h4,h5,rfl,by rw[show qE i k 0=[]from rfl,iD];exact hG⟩ ?_ ?_ ?_
   ·rintro m R W' hm ⟨hl,h1,h4,h5,h6,hG⟩;unfold gM;have e1:((m:Int)<v.az[i].rows[k]):=by omega
    simp only[SX,h1,h4,h5,h6,aK,c3 _ hl,g1,g5 _ (bi.trans hl),p1,p2 _ (bi.trans hl),e1,adK,abl];have hGm:=hG.mono ((Le.refl W').add (.cells [.af (i:Int),.af (k:Int),.af (m:Int)]));have hlb:(ur v.az i++wR i v.az[i].rows k++qE i k m).length+1<100000:=by rw[cm,cm,Hp];omega
    obtain⟨v',W2,q1,q2,q3,q4⟩:=ns.push (P:=Tryz.prog) (a:=(i,k,m)) (b:=W'.next) (c:=1) acQ GD PQ hGm bp (by omega) (by omega) (by rw[AW.aL];have:=hl.next;omega);simp only[SX,q1,j8 m _ (by omega),am];refine .inl ⟨aB,q4 _ (hl.add _) (aS _),h1,h4,h5,rfl,?_⟩;rw[L2,<-ji];exact q2
   ·rintro R W' ⟨hl,h1,h4,h5,h6,hG⟩;unfold gM;have e1:¬((v.az[i].rows[k].toNat:Int)<v.az[i].rows[k]):=by omega
    simp only[SX,h1,h4,h5,h6,aK,c3 _ hl,g1,g5 _ (bi.trans hl),p1,p2 _ (bi.trans hl),e1,am];refine⟨by simp,hl,aB,h1,h4,h5,?_⟩;rw[xz _ _ hk,<-ji];exact hG
   ·rintro⟨x,R,W'⟩ ⟨hl,rfl,h1,h4,h5,hG⟩;simp only at hl h1 h4 h5 hG;simp only[SX,h5,j8 k _ (by omega),am];exact .inl ⟨aB,hl,h1,h4,rfl,hG⟩
  ·rintro R W' ⟨hl,h1,h4,h5,hG⟩;unfold iX;have e1:¬((v.az[i].rows.length:Int)<(v.az[i].rows.length:Int)):=by omega
   have W9:=g2.mono (bi.trans hl);simp only[SX,h1,h4,h5,aK,c3 _ hl,g1,g5 _ (bi.trans hl),W9.len tp,e1,am];refine⟨by simp,hl,aB,h1,h4,?_⟩;rw[wP _ hi];exact hG
  ·rintro⟨x,R,W'⟩ ⟨hl,rfl,h1,h4,hG⟩;simp only at hl h1 h4 hG;simp only[SX,h4,j8 i _ (by omega),am];exact .inl ⟨aB,hl,h1,rfl,hG⟩
 ·rintro R W' ⟨hl,h1,h4,hG⟩;unfold lB;have e1:¬((v.az.length:Int)<(v.az.length:Int)):=by omega
  simp only[SX,h1,h4,aK,c3 _ hl,hs.len GU,e1,am];exact⟨by simp,hl,aB,hG⟩
 ·rintro⟨x,R,W'⟩ ⟨hl,rfl,hG⟩;simp only at hl hG;simp only[SX,am];exact⟨bi.trans hl,hG.row GD T4⟩
def Tz:((#[127]:Array ai)[0]?).bind Tryz.prog.underlying=some (.slice 167):=by kernel_rfl
def te{v:cT}{sv:ae}{W:AW}(hs:jc W sv v.az)(hv:v.az.length<1000)(hr:∀s∈v.az,s.rows.length<1000):bl (.func (.func 36) #[] #[]) [gW v sv] W=some (.tuple #[.af (eR v).1,.af (eR v).2],W):=by
 refine bS rfl ?_ Bb;unfold yC;have bi:Le W (W.add (.cells [.af v.sh,.af v.sU,.af v.sF,sv])):=(Le.refl W).add _;have hc:aI (W.add (.cells [.af v.sh,.af v.sU,.af v.sF,sv])) W.next=some [.af v.sh,.af v.sU,.af v.sF,sv]:=bp;have hn:W.next<(W.add (.cells [.af v.sh,.af v.sU,.af v.sF,sv])).next:=by rw[AW.aL];omega
 simp only[SX,aK];generalize Ik:W.add (.cells [.af v.sh,.af v.sU,.af v.sF,sv])=W1 at *;have c0:aJ (.pointer (some ⟨W.next,0,none⟩)) W1=some (.af v.sh,W1):=cU hc rfl;have c1:aJ (.pointer (some ⟨W.next,1,none⟩)) W1=some (.af v.sU,W1):=cU hc rfl;have c2:aJ (.pointer (some ⟨W.next,2,none⟩)) W1=some (.af v.sF,W1):=cU hc rfl;have c3:aJ (.pointer (some ⟨W.next,3,none⟩)) W1=some (sv,W1):=cU hc rfl;have c4:bA 4 (.pointer (some ⟨W.next,0,none⟩)) W1=some (gW v sv,W1):=kP hc rfl;have ze:=hs.mono bi;simp only[SX,c0,oT,uQ];unfold eR sQ;cases n1:iz v.sh 1 16;case true=>simp only[SX,sV,bk,am];exact⟨aB,bi⟩
 simp only[SX,c1,oT,uQ];cases n2:iz v.sU 1 1000000000;case true=>simp only[SX,sV,sM,bk,am];exact⟨aB,bi⟩
 simp only[SX,c2,oT,uQ];cases n3:iz v.sF 1 1000000000;case true=>simp only[SX,sM,bk,am];exact⟨aB,bi⟩
 simp only[SX,c3,hs.len GU,Bool.or_self,fJ,bG];by_cases n4:v.az.length=0;case pos=>
  have e:((v.az.length:Int)=0):=by omega
  simp only[SX,e,ax n4,am];exact⟨aB,bi⟩
 have e4:¬((v.az.length:Int)=0):=by omega
 simp only[SX,e4,ay n4];by_cases n5:8<v.az.length;case pos=>
  have e:((8:Int)<(v.az.length:Int)):=by omega
  simp only[SX,e,ax n5,am];exact⟨aB,bi⟩
 have e5:¬((8:Int)<(v.az.length:Int)):=by omega
 simp only[SX,e5,ay n5];refine cx v.az.length (by omega) (λk R W'=>W'=W1/\R 1=.pointer (some ⟨W.next,0,none⟩)/\R 4=.af (k:Int)/\kp v.az k=none)
  (λr=>r.2.2=W1/\((r.1=.exit 0/\r.2.1 1=.pointer (some ⟨W.next,0,none⟩)/\kp v.az v.az.length=none)\/(r.1=.ret/\∃i e,r.2.1 2=.af ((i:Nat):Int)/\r.2.1 3=.af e/\kp v.az v.az.length=some (i,e)))) ⟨rfl,rfl,rfl,rfl⟩ ?_ ?_ ?_
 ·rintro k R W' hk ⟨rfl,h1,h4,hb⟩;unfold mK;have e1:((k:Int)<(v.az.length:Int)):=by omega
  have e2:(k:Int)+1=((k+1:Nat):Int):=by omega
  have ea:=dP W' k 1;simp only[SX,h1,h4,aK,c3,hs.len GU,e1,c4,Ks ze hv hk (hr _ (gd hk))];have T0:=wX hb hk;by_cases hz:rW v.az[k] (v.az.take k)=0
  ·rw[ax hz]at T0;simp only[SX,hz,ea,am];exact .inl ⟨aB,aB,h1,by rw[<-e2];rfl,T0⟩
  ·rw[ay hz]at T0;simp only[SX,hz,am];exact .inr ⟨by simp,aB,.inr ⟨aB,k,_,rfl,rfl,sN T0 (by omega)⟩⟩
 ·rintro R W' ⟨rfl,h1,h4,hb⟩;unfold mK;have e1:¬((v.az.length:Int)<(v.az.length:Int)):=by omega
  simp only[SX,h1,h4,aK,c3,hs.len GU,e1,am];exact⟨by simp,aB,.inl ⟨aB,h1,hb⟩⟩
 ·rintro⟨x,R,W'⟩ ⟨hW,hq⟩;simp only at hW hq;subst hW;rcases hq with⟨rfl,h1,hb⟩|⟨rfl,i,e,h2,h3,hb⟩
  ·rw[hb];have hg:=Good.of (by omega) hb;obtain⟨r,W2,q1,q2,q3⟩:=sx ze hg;simp only[SX,h1,c4,q1,q3.len Tz,pY hg];by_cases n6:4096<dv v.az
   ·simp only[SX,n6,bk,am];exact⟨aB,bi.trans q2⟩
   ·simp only[SX,n6,bG,am];exact⟨aB,bi.trans q2⟩
  ·rw[hb];simp only[SX,h2,h3,am];exact⟨aB,bi⟩
def eD{v:cT}(h:(eR v).2=0):Good v.az/\sQ v=false/\0<v.az.length/\kp v.az v.az.length=none/\dv v.az<=4096/\(eR v).1=0:=by
 unfold eR at h|-;split at h
 ·exact absurd h (by decide)
 rename_i h1;split at h
 ·exact absurd h (by decide)
 rename_i h2;split at h
 ·exact absurd h (by decide)
 rename_i h3;cases hb:kp v.az v.az.length with
 |some r=>
  obtain⟨i,e⟩:=r;rw[hb]at h;simp only at h;subst h;exfalso;have:∀n,kp v.az n≠some (i,0):=by
   intro n;induction n with
   |zero=>simp[kp]
   |succ n ih=>
    intro hn;have C5:(match kp v.az n with|some r=>some r|none=>match v.az[n]? with|some s=>if rW s (v.az.take n)=0 then none else some (n,rW s (v.az.take n))|none=>none)=some (i,0):=hn;cases KZ:kp v.az n with
    |some r=>rw[KZ]at C5;simp only at C5;rw[C5]at KZ;exact ih KZ
    |none=>
     rw[KZ]at C5;simp only at C5;split at C5
     ·split at C5
      ·cases C5
      ·rename_i hz;injection C5 with C5;injection C5 with _ e;exact hz e
     ·cases C5
  exact this _ hb
 |none=>
  rw[hb]at h;simp only at h|-;split at h
  ·exact absurd h (by decide)
  rename_i h4;rw[ay h4,ay h1,ay h2,ay h3];exact⟨Good.of (by omega) hb,by simpa using h1,by omega,aB,by omega,rfl⟩
def fP(v:cT)(sv:ae)(W:AW):∃W1,cC (gW v sv) W=some (.pointer (some ⟨W.next,0,none⟩),W1)/\Le W W1/\W.next<W1.next/\
 (∀W',Le W1 W'->bA 4 (.pointer (some ⟨W.next,0,none⟩)) W'=some (gW v sv,W'))/\(∀W',Le W1 W'->aJ (.pointer (some ⟨W.next,0,none⟩)) W'=some (.af v.sh,W'))/\(∀W',Le W1 W'->aJ (.pointer (some ⟨W.next,3,none⟩)) W'=some (sv,W')):=by
 have hc:aI (W.add (.cells [.af v.sh,.af v.sU,.af v.sF,sv])) W.next=some [.af v.sh,.af v.sU,.af v.sF,sv]:=bp;have hn:W.next<(W.add (.cells [.af v.sh,.af v.sU,.af v.sF,sv])).next:=by rw[AW.aL];omega
 exact⟨_,ac7 _ _ _ _ W,(Le.refl W).add _,hn,λW' k=>kP (by rw[k.aI hn];exact hc) rfl,λW' k=>cU (by rw[k.aI hn];exact hc) rfl,λW' k=>cU (by rw[k.aI hn];exact hc) rfl⟩
def i7(v:cT):Int×Int:=if(eR v).2=0 then(dv v.az,0)else(0,(eR v).2)
def HT{v:cT}{sv:ae}{W:AW}(hs:jc W sv v.az)(hv:v.az.length<1000)(hr:∀s∈v.az,s.rows.length<1000):bl (.func (.func 143) #[] #[]) [gW v sv] W=some (.tuple #[.af (i7 v).1,.af (i7 v).2],W):=by
 refine bS rfl ?_ Br;unfold yA i7;obtain⟨W1,hB,bi,hn,c4,c0,c3⟩:=fP v sv W;simp only[SX,hB,c4 _ (.refl _),te (hs.mono bi) hv hr];by_cases he:(eR v).2=0
 ·obtain⟨r,W2,q1,q2,q3⟩:=sx (hs.mono bi) (eD he).1;simp only[SX,aY he,q1,q3.len Tz,pY (eD he).1,ax he,am];exact⟨aB,bi.trans q2⟩
 ·simp only[SX,he,bG,am];exact⟨aB,bi⟩
structure fx where
 sec:Nat
 row:Nat
 first:Int
 many:Int
abbrev Ea(r:fx):ae:=.agg #[.af (r.sec:Int),.af (r.row:Int),.af r.first,.af r.many]
def vU(l:List jr)(i:Nat)(rows:List Int)(k:Nat):List fx:=(List.range k).map λj=>⟨i,j,dv (l.take i)+iE (rows.take j),rows.getD j 0⟩
def nN(l:List jr)(n:Nat):List fx:=(List.range n).flatMap λi=>match l[i]? with
 |some s=>vU l i s.rows s.rows.length
 |none=>[]
def db(l:List jr):List fx:=nN l l.length
def mu(l:List jr)(i:Nat)(rows:List Int){k:Nat}(hk:k<rows.length):vU l i rows (k+1)=vU l i rows k++[⟨i,k,dv (l.take i)+iE (rows.take k),rows[k]⟩]:=by unfold vU;rw[mL,pL,i6,mY,mS,dm hk,pB]
def kD(l:List jr){n:Nat}(hn:n<l.length):nN l (n+1)=nN l n++vU l n l[n].rows l[n].rows.length:=by unfold nN;rw[mL,jO,hO,List.flatMap_nil,iD,dm hn]
def SY{l:List jr}{i:Nat}{rows:List Int}{k n:Nat}(h:k<=n)(hn:n<=rows.length):vU l i rows k<+:vU l i rows n:=by
 induction n with
 |zero=>obtain rfl:k=0:=by omega
        exact List.prefix_refl _
 |succ n ih=>
  by_cases e:k=n+1
  ·subst e;exact List.prefix_refl _
  ·rw[mu l i rows (by omega)];exact(ih (by omega) (by omega)).trans (Ab _ _)
def Nf{l:List jr}{k n:Nat}(h:k<=n)(hn:n<=l.length):nN l k<+:nN l n:=by
 induction n with
 |zero=>obtain rfl:k=0:=by omega
        exact List.prefix_refl _
 |succ n ih=>
  by_cases e:k=n+1
  ·subst e;exact List.prefix_refl _
  ·rw[kD l (by omega)];exact(ih (by omega) (by omega)).trans (Ab _ _)
def RZ{l:List jr}{i k:Nat}(hi:i<l.length)(hk:k<l[i].rows.length):(nN l i++vU l i l[i].rows k)++[⟨i,k,dv (l.take i)+iE (l[i].rows.take k),l[i].rows[k]⟩]<+:db l:=by rw[ji,<-mu l i _ hk];refine List.IsPrefix.trans ?_ (Nf (k:=i+1) (by omega) (aS _));rw[kD l hi];exact(List.prefix_append_right_inj _).2 (SY (by omega) (aS _))
def aiT(a b c d:Int)(W:AW):bH Tryz.prog 140 [(0,.af a),(1,.af b),(2,.af c),(3,.af d)] W=some (.agg #[.af a,.af b,.af c,.af d],W):=aH (by kernel_rfl) rfl
def Vd{v:cT}{sv f:ae}{bx:Nat}{W0 W:AW}(hs:jc W0 sv v.az)(hg:Good v.az)(hb:aJ (.pointer (some ⟨bx,3,none⟩)) W=some (sv,W))(I:List fx->AW->Prop)(Q:AW->Prop)
 (hI:I [] W)(hS:∀pre W',I pre W'->Le W0 W')(hA:∀pre W' cs,I pre W'->I pre (W'.add (.cells cs)))
 (step:∀pre r W',pre++[r]<+:db v.az->I pre W'->∃b W2,bl f [Ea r] W'=some (.bool b,W2)/\(b=true->I (pre++[r]) W2)/\(b=false->Q W2)):
 ∃W2,bl (.func (.func 81) #[] #[.pointer (some ⟨bx,0,none⟩)]) [f] W=some (.tuple #[],W2)/\(I (db v.az) W2\/Q W2):=by
 have kw:Ok (pz bl f (.pointer (some ⟨bx,0,none⟩)) W) λr=>r.1=.tuple #[]/\(I (db v.az) r.2\/Q r.2):=by
  unfold pz;have fb:=hg.len;have j8:∀(k:Nat) (W':AW),k<1000000->aw Tryz.prog .add 3 false true (.af (k:Int)) (.af 1) W'=some (.af ((k+1:Nat):Int),W'):=λk W' hk=>cY (by omega) (by omega)
  simp only[SX,aK,hb,hs.len GU];refine cx v.az.length (by omega) (λi R W'=>R 0=f/\R 3=.af (dv (v.az.take i))/\R 9=sv/\R 10=.af (v.az.length:Int)/\R 11=.af (i:Int)/\I (nN v.az i) W')
   (λr=>(r.1=.exit 0/\I (db v.az) r.2.2)\/(r.1=.ret/\Q r.2.2)) ⟨rfl,rfl,rfl,rfl,rfl,hI⟩ ?_ ?_ ?_
  ·rintro i R W' hi ⟨h0,h3,h9,wI,ve,oI⟩;unfold lQ;have e1:((i:Int)<(v.az.length:Int)):=by omega
   obtain⟨b,o,rv,g1,g2,g3,_⟩:=hs.get hi;obtain⟨r1,r2,r3⟩:=hg.rows _ (gd hi);have htb:0<=dv (v.az.take i)/\dv (v.az.take i)<=1024*i:=by have:=rl hg (by omega:i<=v.az.length);omega
   have XM:=hA _ _ [.string (aQ v.az[i].name),rv,.af v.az[i].q] oI;have N8:aI (W'.add (.cells [.string (aQ v.az[i].name),rv,.af v.az[i].q])) W'.next=some [.string (aQ v.az[i].name),rv,.af v.az[i].q]:=bp;simp only[SX,h9,wI,ve,e1,g1,g3 _ (hS _ _ oI),Up,Pd bQ (mV _) (Row.one g2) (pF _ _),dC,aK];generalize WI:W'.add (.cells [.string (aQ v.az[i].name),rv,.af v.az[i].q])=W2 at *;have d1:aJ (.pointer (some ⟨W'.next,1,none⟩)) W2=some (rv,W2):=cU N8 rfl;simp only[SX,d1,g2.len tp];refine cx v.az[i].rows.length (by omega) (λk R W'=>R 0=f/\R 3=.af (dv (v.az.take i)+iE (v.az[i].rows.take k))/\R 4=.af (i:Int)/\R 9=sv/\R 10=.af (v.az.length:Int)/\R 11=.af (i:Int)/\R 17=rv/\R 18=.af (v.az[i].rows.length:Int)/\R 19=.af (k:Int)/\I (nN v.az i++vU v.az i v.az[i].rows k) W')
    (λr=>(r.1=.exit 2/\r.2.1 0=f/\r.2.1 3=.af (dv (v.az.take (i+1)))/\r.2.1 9=sv/\r.2.1 10=.af (v.az.length:Int)/\r.2.1 11=.af (i:Int)/\I (nN v.az (i+1)) r.2.2)\/(r.1=.ret/\Q r.2.2))
    ⟨h0,by rw[rY,show iE []=0 from rfl,kT];exact h3,rfl,h9,wI,ve,rfl,rfl,rfl,by rw[show vU v.az i v.az[i].rows 0=[]from rfl,iD];exact XM⟩ ?_ ?_ ?_
   ·rintro k R W' hk ⟨h0,h3,h4,h9,wI,ve,h17,h18,h19,oI⟩;unfold iZ;have e1:((k:Int)<(v.az[i].rows.length:Int)):=by omega
    obtain⟨p,p1,p2⟩:=g2.get hk;obtain⟨c,W3,s1,s2,s3⟩:=step _ ⟨i,k,dv (v.az.take i)+iE (v.az[i].rows.take k),v.az[i].rows[k]⟩ W' (RZ hi hk) oI;have hsb:=(m9 r3 k).1;have LZ:=r3 _ (gd hk);have eb:=rq W3 (dv (v.az.take i)+iE (v.az[i].rows.take k)) (v.az[i].rows[k]);simp only[SX,h0,h3,h4,h17,h18,h19,e1,p1,p2 _ (hS _ _ oI),aiT,s1];cases c
    ·simp only[SX,am];exact .inr ⟨by simp,.inr ⟨aB,s3 rfl⟩⟩
    ·simp only[SX,eb,j8 k _ (by omega),am];refine .inl ⟨aB,h0,?_,h4,h9,wI,ve,h17,h18,rfl,?_⟩
     ·rw[mw hk,<-wz];rfl
     ·rw[mu _ _ _ hk,<-ji];exact s2 rfl
   ·rintro R W' ⟨h0,h3,h4,h9,wI,ve,h17,h18,h19,oI⟩;unfold iZ;have e1:¬((v.az[i].rows.length:Int)<(v.az[i].rows.length:Int)):=by omega
    simp only[SX,h18,h19,e1,am];refine⟨by simp,.inl ⟨aB,h0,?_,h9,wI,ve,?_⟩⟩
    ·rw[mW hi];rw[dN]at h3;exact h3
    ·rw[kD _ hi];exact oI
   ·rintro⟨x,R,W'⟩ hq;rcases hq with⟨rfl,h0,h3,h9,wI,ve,oI⟩|⟨rfl,hq⟩
    ·simp only at h0 h3 h9 wI ve oI;simp only[SX,ve,j8 i _ (by omega),am];exact .inl ⟨aB,h0,h3,h9,wI,rfl,oI⟩
    ·simp only[SX,am];exact .inr ⟨by simp,.inr ⟨aB,hq⟩⟩
  ·rintro R W' ⟨h0,h3,h9,wI,ve,oI⟩;unfold lQ;have e1:¬((v.az.length:Int)<(v.az.length:Int)):=by omega
   simp only[SX,wI,ve,e1,am];exact⟨by simp,.inl ⟨aB,oI⟩⟩
  ·rintro⟨x,R,W'⟩ hq;rcases hq with⟨rfl,oI⟩|⟨rfl,hq⟩
   ·simp only[SX,am];exact⟨aB,.inl oI⟩
   ·simp only[SX,am];exact⟨aB,.inr hq⟩
 obtain⟨⟨r,W'⟩,h1,h2,h3⟩:=kw;simp only at h2 h3;subst h2;exact⟨W',by rw[zB h1,uB rfl],h3⟩
def KO{v:cT}{sv:ae}(W:AW):∃W1,bl (.func (.func 62) #[] #[]) [gW v sv] W=some (.func (.func 81) #[] #[.pointer (some ⟨W.next,0,none⟩)],W1)/\Le W W1/\W.next<W1.next/\(∀W',Le W1 W'->aJ (.pointer (some ⟨W.next,3,none⟩)) W'=some (sv,W')):=by
 obtain⟨W1,hB,bi,hn,c4,c0,c3⟩:=fP v sv W;refine⟨W1,?_,bi,hn,c3⟩;have:uF bl (gW v sv) W=some (.func (.func 81) #[] #[.pointer (some ⟨W.next,0,none⟩)],W1):=by unfold uF;simp only[SX,hB]
 rw[CC this,uB rfl]
def Jb{v:cT}{sv:ae}{W0 W:AW}{bx nt:Nat}{R:Nat->ae}{ps:Array Tmp}{ac bd:Code}(hs:jc W0 sv v.az)(hg:Good v.az)
 (hb:aJ (.pointer (some ⟨bx,3,none⟩)) (W.add (.loop .ready none R nt ps ac bd))=some (sv,W.add (.loop .ready none R nt ps ac bd)))(hp:ps.size=1)
 (J:List fx->AW->Prop)(Q:X->AW->Prop)(h0:J [] (W.add (.loop .ready none R nt ps ac bd)))
 (hS:∀pre W',J pre W'->Le W0 W')(hA:∀pre W' cs,J pre W'->W.next<W'.next->J pre (W'.add (.cells cs)))(hP:∀pre W' o,J pre W'->J pre (W'.put W.next o))(hQ:∀x W' o,Q x W'->Q x (W'.put W.next o))
 (d:Nat)(has:∀r W' R',R'=lR ps.toList [Ea r] R->fK Tryz.prog bl false nt ac LT R' W' mg=some (.normal,eH R' (some d) (.pointer (some ⟨W'.next,0,none⟩)),W'.add (.cells [.af (r.sec:Int),.af (r.row:Int),.af r.first,.af r.many])))
 (step:∀pre r W' b R',R'=eH (lR ps.toList [Ea r] R) (some d) (.pointer (some ⟨b,0,none⟩))->pre++[r]<+:db v.az->J pre W'->W.next<W'.next->aF W' b=some [.af (r.sec:Int),.af (r.row:Int),.af r.first,.af r.many]->W.next<b->b<W'.next->
   Ok (fK Tryz.prog bl false nt bd LT R' W' mg) λq=>W'.next<=q.2.2.next/\q.2.2.get W.next=W'.get W.next/\((q.1=.normal/\J (pre++[r]) q.2.2)\/(q.1≠ .normal/\Q q.1 q.2.2))):
 ∃x W2,jb bl (.func (.func 81) #[] #[.pointer (some ⟨bx,0,none⟩)]) (.loop .ready none R nt ps ac bd) W=some (x,W2.kill W.next)/\((x=.normal/\J (db v.az) W2)\/(x≠ .normal/\Q x W2)):=by
 obtain⟨W2,h1,h2⟩:=Vd (f:=.func (.yield W.next) #[] #[]) (W:=W.add (.loop .ready none R nt ps ac bd)) hs hg hb
  (λpre W'=>J pre W'/\W.next<W'.next/\W'.get W.next=some (.loop .ready none R nt ps ac bd))
  (λW'=>∃x,x≠ .normal/\Q x W'/\W'.get W.next=some (.loop .done x.jump R nt ps ac bd))
  ⟨h0,by rw[AW.aL];omega,AW.a8 _ _⟩ (λpre W' h=>hS _ _ h.1)
  (λpre W' cs h=>⟨hA _ _ _ h.1 h.2.1,by rw[AW.aL];omega,by rw[AW.bC _ _ (by omega)];exact h.2.2⟩)
  (λpre r W' tT ⟨hJ,gY,eM⟩=>by
    have hJ2:=hP _ _ (.loop .busy none R nt ps ac bd) (hA _ _ [.af (r.sec:Int),.af (r.row:Int),.af r.first,.af r.many] hJ gY);obtain⟨⟨x,R2,W3⟩,k1,k2,k3,k4⟩:=step pre r _ W'.next _ rfl tT hJ2 (by rw[AW.cG,AW.aL];omega) (by rw[be _ (by omega)];exact bQ) gY (by rw[AW.cG,AW.aL];omega);simp only at k1 k2 k3 k4;rw[AW.bE]at k3;have hy:=DB (P:=Tryz.prog) (args:=[Ea r]) eM (by rw[hp];rfl) (has r W' _ rfl) (by rw[AW.bC _ _ (by omega)];exact eM) k1 k3;have hn3:W.next<W3.next:=by rw[AW.cG,AW.aL]at k2;omega
    rcases k4 with⟨rfl,k4⟩|⟨kx,k4⟩
    ·exact⟨true,_,hy,λ_=>⟨hP _ _ _ k4,by rw[AW.cG];exact hn3,AW.bE _ _ _⟩,λh=>by cases h⟩
    ·refine⟨false,W3.put W.next (.loop .done x.jump R nt ps ac bd),?_,λh=>by(cases h),λ_=>⟨x,kx,hQ _ _ _ k4,AW.bE _ _ _⟩⟩;refine hy.trans ?_;cases x with
     |normal=>exact absurd rfl kx
     |exit i=>rfl
     |ret=>rfl)
 rcases h2 with⟨h2,h3,h4⟩|⟨x,h2,h3,h4⟩
 ·exact⟨.normal,W2,vJ h1 h4 (by simp),.inl ⟨rfl,h2⟩⟩
 ·exact⟨x,W2,Bh h1 h4,.inr ⟨h2,h3⟩⟩
def KV{v:cT}{sv:ae}{W0 W:AW}{bx nt:Nat}{R:Nat->ae}{ps:Array Tmp}{ac bd:Code}{ρ:Type}{K:X×AW->Option ρ}{G:ρ->Prop}(hs:jc W0 sv v.az)(hg:Good v.az)
 (hb:aJ (.pointer (some ⟨bx,3,none⟩)) (W.add (.loop .ready none R nt ps ac bd))=some (sv,W.add (.loop .ready none R nt ps ac bd)))(hp:ps.size=1)
 (J:List fx->AW->Prop)(Q:X->AW->Prop)(h0:J [] (W.add (.loop .ready none R nt ps ac bd)))
 (hS:∀pre W',J pre W'->Le W0 W')(hA:∀pre W' cs,J pre W'->W.next<W'.next->J pre (W'.add (.cells cs)))(hP:∀pre W' o,J pre W'->J pre (W'.put W.next o))(hQ:∀x W' o,Q x W'->Q x (W'.put W.next o))
 (d:Nat)(has:∀r W' R',R'=lR ps.toList [Ea r] R->fK Tryz.prog bl false nt ac LT R' W' mg=some (.normal,eH R' (some d) (.pointer (some ⟨W'.next,0,none⟩)),W'.add (.cells [.af (r.sec:Int),.af (r.row:Int),.af r.first,.af r.many])))
 (step:∀pre r W' b R',R'=eH (lR ps.toList [Ea r] R) (some d) (.pointer (some ⟨b,0,none⟩))->pre++[r]<+:db v.az->J pre W'->W.next<W'.next->aF W' b=some [.af (r.sec:Int),.af (r.row:Int),.af r.first,.af r.many]->W.next<b->b<W'.next->
   Ok (fK Tryz.prog bl false nt bd LT R' W' mg) λq=>W'.next<=q.2.2.next/\q.2.2.get W.next=W'.get W.next/\((q.1=.normal/\J (pre++[r]) q.2.2)\/(q.1≠ .normal/\Q q.1 q.2.2)))
 (after:∀x W2,(x=.normal/\J (db v.az) W2)\/(x≠ .normal/\Q x W2)->Ok (K (x,W2.kill W.next)) G):
 Ok (aj (jb bl (.func (.func 81) #[] #[.pointer (some ⟨bx,0,none⟩)]) (.loop .ready none R nt ps ac bd) W) K) G:=by
 obtain⟨x,W2,h1,h2⟩:=Jb hs hg hb hp J Q h0 hS hA hP hQ d has step;rw[h1,vY];exact after x W2 h2
def dg(l:List fx):Int:=iE (l.map (·.many))
def iB:Int->List fx->Prop
 |_,[]=>True
 |s,r::l=>r.first=s/\iB (s+r.many) l
def il:dg []=0:=rfl
def cX(r:fx)(l:List fx):dg (r::l)=r.many+dg l:=rfl
def jJ(a b:List fx):dg (a++b)=dg a+dg b:=by
 induction a with
 |nil=>simp[il]
 |cons r a ih=>rw[oy,cX,cX,ih];omega
def iB.append:∀{a b:List fx} {s:Int},iB s a->iB (s+dg a) b->iB s (a++b)
 |[],_,s,_,h=>by rw[il,kT]at h;exact h
 |r::a,b,s,⟨h1,h2⟩,h=>⟨h1,iB.append h2 (by rw[cX,<-wz]at h;exact h)⟩
def iB.at:∀{a b:List fx} {r:fx} {s:Int},iB s (a++r::b)->r.first=s+dg a
 |[],_,_,s,⟨h,_⟩=>by rw[h,il,kT]
 |x::a,b,r,s,⟨_,h⟩=>by rw[iB.at h,cX,wz]
def Av(l:List jr)(i:Nat)(rows:List Int):∀{k:Nat},k<=rows.length->dg (vU l i rows k)=iE (rows.take k)
 |0,_=>rfl
 |k+1,hk=>by rw[mu l i rows (by omega),jJ,Av l i rows (by omega),mw (by omega),cX,il,kT]
def yL(l:List jr)(i:Nat)(rows:List Int):∀{k:Nat},k<=rows.length->iB (dv (l.take i)) (vU l i rows k)
 |0,_=>trivial
 |k+1,hk=>by rw[mu l i rows (by omega)];exact(yL l i rows (by omega)).append ⟨by rw[Av l i rows (by omega)],aB⟩
def xX(l:List jr):∀{n:Nat},n<=l.length->dg (nN l n)=dv (l.take n)
 |0,_=>rfl
 |n+1,hn=>by rw[kD l (by omega),jJ,xX l (by omega),Av l n _ (aS _),mW (by omega),dN]
def uY(l:List jr):∀{n:Nat},n<=l.length->iB 0 (nN l n)
 |0,_=>trivial
 |n+1,hn=>by rw[kD l (by omega)];refine(uY l (by omega)).append ?_;rw[xX l (by omega),Int.zero_add];exact yL l n _ (aS _)
def vr(l:List jr):dg (db l)=dv l:=by have:=xX l (aS l.length);rwa [dN]at this
def nH(l:List jr):iB 0 (db l):=uY l (aS _)
def H4(l:List jr)(r:fx):Prop:=∃(hi:r.sec<l.length) (hk:r.row<l[r.sec].rows.length),r.many=l[r.sec].rows[r.row]
def kU{l:List jr}{r:fx}(h:r∈db l):H4 l r:=by unfold db nN at h;obtain⟨i,hi,h⟩:=List.mem_flatMap.1 h;rw[nM]at hi;rw[dm hi]at h;unfold vU at h;obtain⟨k,hk,rfl⟩:=mC.1 h;rw[nM]at hk;exact⟨hi,hk,by simp[mS,dm hk]⟩
def H4.many{l:List jr}{r:fx}(h:H4 l r)(hg:Good l):1<=r.many/\r.many<=64/\r.sec<8/\r.row<16:=by obtain⟨hi,hk,hm⟩:=h;obtain⟨_,h2,h3⟩:=hg.rows _ (gd hi);have:=h3 _ (gd hk);have:=hg.len;omega
def po{l:List fx}(h:∀r∈l,1<=r.many):(l.length:Int)<=dg l:=by
 induction l with
 |nil=>simp[il]
 |cons r l ih=>
  have h1:=h r (by simp);have h2:=ih λx hx=>h x (by simp[hx])
  rw[cX,dG];omega
def DP{a l:List fx}(h:a<+:l)(hm:∀r∈l,1<=r.many):0<=dg a/\dg a<=dg l:=by
 obtain⟨b,rfl⟩:=h;have h1:=po (l:=a) λr hr=>hm r (by simp[hr])
 have h2:=po (l:=b) λr hr=>hm r (by simp[hr])
 rw[jJ];omega
def xw{l:List jr}(hg:Good l):0<=dv l/\dv l<=8192:=by have h:=(rl hg (aS l.length));rw[dN]at h;have:=hg.len;omega
def Bu{l:List jr}(hg:Good l){pre:List fx}{r:fx}(h:pre++[r]<+:db l):H4 l r/\r.first=dg pre/\0<=dg pre/\dg (pre++[r])<=8192/\1<=r.many/\r.many<=64/\dg (pre++[r])=dg pre+r.many:=by
 have hm:∀r∈db l,1<=r.many:=λr hr=>((kU hr).many hg).1
 have hr:r∈db l:=h.subset (by simp);have h1:=DP h hm;have h2:=DP ((Ab pre [r]).trans h) hm;rw[vr]at h1;obtain⟨b,hb⟩:=h;have hf:=nH l;rw[<-hb,ji]at hf;have:=iB.at hf;have hx:=(kU hr).many hg;have:=xw hg;refine⟨kU hr,by omega,by omega,by omega,by omega,by omega,?_⟩;rw[jJ,cX,il,kT]
def Dp(l:List jr)(i:Nat)(rows:List Int):∀{k:Nat},k<=rows.length->wR i rows k=(vU l i rows k).flatMap λr=>qE r.sec r.row r.many.toNat
 |0,_=>rfl
 |k+1,hk=>by rw[xz i rows (by omega),mu l i rows (by omega),jO,<-Dp l i rows (by omega),hO,List.flatMap_nil,iD]
def yN(l:List jr):iG l=(db l).flatMap λr=>qE r.sec r.row r.many.toNat:=by
 have:∀n,n<=l.length->ur l n=(nN l n).flatMap λr=>qE r.sec r.row r.many.toNat:=by
  intro n;induction n with
  |zero=>intro _;rfl
  |succ n ih=>intro hn;rw[wP l (by omega),kD l (by omega),jO,<-ih (by omega),<-Dp l n _ (aS _)]
 exact this _ (aS _)
def oL3(x:ae)(W:AW):iH Tryz.prog 3 x W=aJ x W:=by kernel_rfl
def M2(x:ae)(W:AW):iH Tryz.prog 30 x W=aJ x W:=by kernel_rfl
def X9(x:ae)(W:AW):iH Tryz.prog 140 x W=bA 4 x W:=by kernel_rfl
def al3(W:AW):bc Tryz.prog 3 W=some (.pointer (some ⟨W.next,0,none⟩),W.add (.cells [.af 0])):=aH (by kernel_rfl) rfl
def agn(W:AW):bc Tryz.prog 30 W=some (.pointer (some ⟨W.next,0,none⟩),W.add (.cells [.af 0])):=aH (by kernel_rfl) rfl
def ZO(W:AW):bc Tryz.prog 140 W=some (.pointer (some ⟨W.next,0,none⟩),W.add (.cells [.af 0,.af 0,.af 0,.af 0])):=aH (by kernel_rfl) rfl
def Wn(W:AW):bH Tryz.prog 140 [] W=some (.agg #[.af 0,.af 0,.af 0,.af 0],W):=aH (by kernel_rfl) rfl
def ah6{b:Nat}{a c d e x y z u:ae}{W:AW}(h:aF W b=some [x,y,z,u])(h1:Eng.one a=true)(h2:Eng.one c=true)(h3:Eng.one d=true)(h4:Eng.one e=true):bU 4 (.pointer (some ⟨b,0,none⟩)) (.agg #[a,c,d,e]) W=some (ag,W.put b (.cells [a,c,d,e])):=by rw[IW,h,bq];have hc:(Value.agg #[a,c,d,e]).cells=#[a,c,d,e]:=Ox _;rw[hc,ax ⟨rfl,by simp,by simp[h1,h2,h3,h4]⟩];rfl
def Kl{b:Nat}{x:ae}{n:Int}{W:AW}(h:aF W b=some [x]):bU 1 (.pointer (some ⟨b,0,none⟩)) (.af n) W=some (ag,W.put b (.cells [.af n])):=by rw[qj,h];rfl
def C8{b:Nat}{x:ae}{W:AW}(h:aF W b=some [x]):aJ (.pointer (some ⟨b,0,none⟩)) W=some (x,W):=cU (fj h) rfl
def zj{b o:Nat}{cs:List ae}{x:ae}{W:AW}(h:aF W b=some cs)(hv:cs[o]? =some x):aJ (.pointer (some ⟨b,o,none⟩)) W=some (x,W):=cU (fj h) hv
abbrev RA(r:fx):List ae:=[.af (r.sec:Int),.af (r.row:Int),.af r.first,.af r.many]
def Qi{α:Type}{p:α->Bool}{pre l:List α}{r:α}(h:pre++[r]<+:l)(h0:∀x∈pre,p x=false)(h1:p r=true):l.find? p=some r:=by obtain⟨b,rfl⟩:=h;rw[ji,List.find?_append,List.find?_eq_none.2 (λx hx=>by simp[h0 x hx]),oy,List.find?_cons_of_pos h1];rfl
def Vp{α:Type}{p:α->Bool}{l:List α}(h0:∀x∈l,p x=false):l.find? p=none:=List.find?_eq_none.2 (λx hx=>by simp[h0 x hx])
def HD{α:Type}{p:α->Bool}{pre:List α}{r:α}(h0:∀x∈pre,p x=false)(h1:p r=false):∀x∈pre++[r],p x=false:=by
 intro x hx;rcases wx.1 hx with h|h
 ·exact h0 x h
 ·rw[List.mem_singleton.1 h];exact h1
def Zy(n:Int)(W:AW):∃W1,cC (.af n) W=some (.pointer (some ⟨W.next,0,none⟩),W1)/\W1.next=W.next+1/\Le W W1/\aF W1 W.next=some [.af n]:=
 ⟨_,G2 _ _,AW.aL _ _,(Le.refl W).add _,bQ⟩
def acS(W:AW):∃W1,bc Tryz.prog 3 W=some (.pointer (some ⟨W.next,0,none⟩),W1)/\W1.next=W.next+1/\Le W W1/\aF W1 W.next=some [.af 0]:=⟨_,al3 W,AW.aL _ _,(Le.refl W).add _,bQ⟩
def Wy(W:AW):∃W1,bc Tryz.prog 30 W=some (.pointer (some ⟨W.next,0,none⟩),W1)/\W1.next=W.next+1/\Le W W1/\aF W1 W.next=some [.af 0]:=⟨_,agn W,AW.aL _ _,(Le.refl W).add _,bQ⟩
def QH(W:AW):∃W1,bc Tryz.prog 140 W=some (.pointer (some ⟨W.next,0,none⟩),W1)/\W1.next=W.next+1/\Le W W1/\aF W1 W.next=some [.af 0,.af 0,.af 0,.af 0]:=⟨_,ZO W,AW.aL _ _,(Le.refl W).add _,bQ⟩
def kS{W:AW}{b c:Nat}(h:b≠c):aF (W.kill b) c=aF W c:=by unfold aF;rw[W.dL h]
def ld4{b:Nat}{x y z u:ae}{W:AW}(h:aF W b=some [x,y,z,u]):bA 4 (.pointer (some ⟨b,0,none⟩)) W=some (.agg #[x,y,z,u],W):=kP (fj h) rfl
def AY{b:Nat}{a c d e:Int}{x y z u:ae}{W:AW}(h:aF W b=some [x,y,z,u]):bU 4 (.pointer (some ⟨b,0,none⟩)) (.agg #[.af a,.af c,.af d,.af e]) W=some (ag,W.put b (.cells [.af a,.af c,.af d,.af e])):=ah6 h rfl rfl rfl rfl
def qv(bM:Int)(r:fx):Bool:=decide (r.first<=bM)&&decide (bM<r.first+r.many)
abbrev zs:List ae:=[.af 0,.af 0,.af 0,.af 0]
abbrev afg:fx:=⟨0,0,0,0⟩
def eW(v:cT)(bM:Int):fx×Int:=if(eR v).2=0 then(match(db v.az).find? (qv bM)with
 |some r=>(r,0)
 |none=>(afg,4))else(afg,(eR v).2)
def Ld{v:cT}{sv:ae}{W:AW}{bM:Int}(hs:eX W sv v.az)(hv:v.az.length<1000):bl (.func (.func 166) #[] #[]) [gW v sv,.af bM] W=some (.tuple #[Ea (eW v bM).1,.af (eW v bM).2],W):=by
 refine bS rfl ?_ CB;unfold AX eW;obtain⟨W1,hB,bi,hn,c4,c0,c3⟩:=fP v sv W;obtain⟨W2,b2,n2,l2,r2⟩:=Zy bM W1;obtain⟨W3,b3,n3,l3,r3⟩:=QH W2;obtain⟨W4,b4,n4,l4,r4⟩:=Wy W3;have dR:aF W4 W2.next=some [.af 0,.af 0,.af 0,.af 0]:=by rw[l4.aF (by omega)];exact r3
 have N2:=l3.trans l4;have iP:=bi.trans l2;have LZ:=bi.next;simp only[SX,hB,b2,b3,b4,c4 _ (l2.trans N2),nD (hs.mono (iP.trans N2)) hv];by_cases he:(eR v).2=0;case neg=>
  have p1:aF (W4.put W2.next (.cells (zs))) W3.next=some [.af 0]:=by rw[be _ (by omega)];exact r4
  have p2:∀x,aF ((W4.put W2.next (.cells (zs))).put W3.next x) W2.next=some (zs):=λx=>by rw[be _ (by omega)];exact br _
  simp only[SX,he,bG,Wn,AY dR,Kl p1,sA,X9,M2,ld4 (p2 _),C8 (br _),bq,am];exact⟨rfl,((iP.trans N2).put (by omega) _).put (by omega) _⟩
 obtain⟨hg,-⟩:=eD he;obtain⟨W5,q1,q2,q3,q4⟩:=KO (v:=v) (sv:=sv) W4;have hn5:=q2.next;simp only[SX,aY he,q1,ax he];refine KV (hs.mono iP).1 hg (q4 _ ((Le.refl _).add _)) rfl (λpre W'=>Le W2 W'/\aF W' W2.next=some (zs)/\aF W' W3.next=some [.af 0]/\∀r∈pre,qv bM r=false)
  (λx W'=>x=.ret/\Le W2 W'/\∃r,(db v.az).find? (qv bM)=some r/\aF W' W2.next=some (RA r)/\aF W' W3.next=some [.af 0])
  ⟨(N2.trans q2).add _,by rw[fp _ (by omega),q2.aF (by omega)];exact dR,by rw[fp _ (by omega),q2.aF (by omega)];exact r4,by simp⟩ (λ_ _ h=>h.1)
  (λpre W' cs h hl=>⟨h.1.add _,by rw[fp _ (by omega)];exact h.2.1,by rw[fp _ (by omega)];exact h.2.2.1,h.2.2.2⟩)
  (λpre W' o h=>⟨h.1.put (by omega) _,by rw[be _ (by omega)];exact h.2.1,by rw[be _ (by omega)];exact h.2.2.1,h.2.2.2⟩)
  (λx W' o ⟨h1,h2,r,h3,h4,h5⟩=>⟨h1,h2.put (by omega) _,r,h3,by rw[be _ (by omega)];exact h4,by rw[be _ (by omega)];exact h5⟩) 8 ?_ ?_ ?_
 ·intro r W' R' hR;have cu:R' 20=Ea r:=by rw[hR];rfl
  rw[wn];unfold qQ;simp only[SX,ZO,cu,AY bQ,dC];try rfl
 ·intro pre r W' b R' hR tT ⟨h1,h2,h3,h4⟩ hl hb IE iu;have f3:R' 3=.pointer (some ⟨W1.next,0,none⟩):=by rw[hR];rfl
  have f4:R' 4=.pointer (some ⟨W2.next,0,none⟩):=by rw[hR];rfl
  have f5:R' 5=.pointer (some ⟨W3.next,0,none⟩):=by rw[hR];rfl
  have f8:R' 8=.pointer (some ⟨b,0,none⟩):=by rw[hR];rfl
  clear hR;rw[wh];unfold rG;obtain⟨k1,k2,k3,k4,k5,k6,k7⟩:=Bu hg tT;have ea:=rq W' r.first r.many;have Qs:aF W' W1.next=some [.af bM]:=by rw[h1.aF (by omega)];exact r2
  simp only[SX,f3,f8,C8 Qs,zj (o:=2) hb rfl,aK];have nv:qv bM r=(decide (r.first<=bM)&&decide (bM<r.first+r.many)):=rfl;by_cases t1:r.first<=bM;case neg=>rw[bu t1,jB]at nv;simp only[SX,t1,am];exact⟨aS _,aB,.inl ⟨aB,h1,h2,h3,HD h4 nv⟩⟩
  simp only[SX,aY t1,zj (o:=2) hb rfl,zj (o:=3) hb rfl,ea];by_cases t2:bM<r.first+r.many;case neg=>rw[bu t2,Bool.and_false]at nv;simp only[SX,t2,am];exact⟨aS _,aB,.inl ⟨aB,h1,h2,h3,HD h4 nv⟩⟩
  rw[aY t1,aY t2]at nv;have p1:aF (W'.put W2.next (.cells (RA r))) W3.next=some [.af 0]:=by rw[be _ (by omega)];exact h3
  simp only[SX,aY t2,f4,f5,ld4 hb,AY h2,Kl p1,am];exact⟨aS _,by rw[AW.aE _ _ (by omega),AW.aE _ _ (by omega)],.inr ⟨by simp,aB,(h1.put (by omega) _).put (by omega) _,r,Qi tT h4 nv,by rw[be _ (by omega)];exact br _,br _⟩⟩
 ·rintro x W6 (⟨rfl,h1,h2,h3,h4⟩|⟨_,rfl,h1,r,h2,h3,h4⟩)
  ·have k2:aF (W6.kill W5.next) W2.next=some (zs):=by rw[kS (by omega)];exact h2
   have k3:aF ((W6.kill W5.next).put W2.next (.cells (zs))) W3.next=some [.af 0]:=by rw[be _ (by omega),kS (by omega)];exact h3
   have p2:∀x,aF (((W6.kill W5.next).put W2.next (.cells (zs))).put W3.next x) W2.next=some (zs):=λx=>by rw[be _ (by omega)];exact br _
   simp only[SX,Wn,AY k2,Kl k3,sA,X9,M2,ld4 (p2 _),C8 (br _),bq,Vp h4,am];exact⟨rfl,(((iP.trans h1).kill (by omega)).put (by omega) _).put (by omega) _⟩
  ·have k2:aF (W6.kill W5.next) W2.next=some (RA r):=by rw[kS (by omega)];exact h3
   have k3:aF (W6.kill W5.next) W3.next=some [.af 0]:=by rw[kS (by omega)];exact h4
   simp only[SX,sA,X9,M2,ld4 k2,C8 k3,bq,h2,am];exact⟨aB,(iP.trans h1).kill (by omega)⟩
def dF(sec:Int)(r:fx):Bool:=decide ((r.sec:Int)=sec)
def JT:List fx->Int
 |[]=>0
 |r::_=>r.first
def tl(v:cT)(sec:Int):Int×Int×Int:=if(eR v).2=0 then
 if dg ((db v.az).filter (dF sec))=0 then(0,0,4)else(JT ((db v.az).filter (dF sec)),dg ((db v.az).filter (dF sec)),0)
 else(0,0,(eR v).2)
def g9{α:Type}{p:α->Bool}{pre:List α}{r:α}(h:p r=true):(pre++[r]).filter p=pre.filter p++[r]:=by simp[List.filter_append,h]
def nc{α:Type}{p:α->Bool}{pre:List α}{r:α}(h:p r=false):(pre++[r]).filter p=pre.filter p:=by simp[List.filter_append,h]
def N7{l:List fx}{r:fx}(h:l≠[]):JT (l++[r])=JT l:=by
 cases l with
 |nil=>exact absurd rfl h
 |cons=>rfl
def Wv{v:cT}{sv:ae}{W:AW}{sec:Int}(hs:eX W sv v.az)(hv:v.az.length<1000):bl (.func (.func 164) #[] #[]) [gW v sv,.af sec] W=some (.tuple #[.af (tl v sec).1,.af (tl v sec).2.1,.af (tl v sec).2.2],W):=by
 refine bS rfl ?_ Gk;unfold Hv tl;obtain⟨W1,hB,bi,hn,c4,c0,c3⟩:=fP v sv W;obtain⟨W2,b2,n2,l2,r2⟩:=Zy sec W1;obtain⟨W3,b3,n3,l3,r3⟩:=acS W2;obtain⟨W4,b4,n4,l4,r4⟩:=acS W3;have dR:aF W4 W2.next=some [.af 0]:=by rw[l4.aF (by omega)];exact r3
 have N2:=l3.trans l4;have iP:=bi.trans l2;have LZ:=bi.next;have e2:∀(W':AW) a b,aF ((W'.put W2.next (.cells a)).put W3.next b) W2.next=some a:=λW' a b=>by rw[be _ (by omega)];exact br _
 have e3:∀(W':AW) a,aF (W'.put W2.next a) W3.next=aF W' W3.next:=λW' a=>be _ (by omega)
 simp only[SX,hB,b2,b3,b4,c4 _ (l2.trans N2),nD (hs.mono (iP.trans N2)) hv];by_cases he:(eR v).2=0;case neg=>simp only[SX,he,bG,Kl dR,Kl ((e3 _ _).trans r4),AG,oL3,C8 (e2 _ _ _),C8 (br _),bq,am];exact⟨aB,((iP.trans N2).put (by omega) _).put (by omega) _⟩
 obtain⟨hg,-⟩:=eD he;obtain⟨W5,q1,q2,q3,q4⟩:=KO (v:=v) (sv:=sv) W4;have hn5:=q2.next;simp only[SX,aY he,q1,ax he];refine KV (hs.mono iP).1 hg (q4 _ ((Le.refl _).add _)) rfl (λpre W'=>Le W2 W'/\aF W' W2.next=some [.af (JT (pre.filter (dF sec)))]/\aF W' W3.next=some [.af (dg (pre.filter (dF sec)))])
  (λx W'=>False)
  ⟨(N2.trans q2).add _,by rw[fp _ (by omega),q2.aF (by omega)];exact dR,by rw[fp _ (by omega),q2.aF (by omega)];exact r4⟩ (λ_ _ h=>h.1)
  (λpre W' cs h hl=>⟨h.1.add _,by rw[fp _ (by omega)];exact h.2.1,by rw[fp _ (by omega)];exact h.2.2⟩)
  (λpre W' o h=>⟨h.1.put (by omega) _,by rw[be _ (by omega)];exact h.2.1,by rw[be _ (by omega)];exact h.2.2⟩)
  (λx W' o h=>h) 9 ?_ ?_ ?_
 ·intro r W' R' hR;have cu:R' 20=Ea r:=by rw[hR];rfl
  rw[y0];unfold vh;simp only[SX,ZO,cu,AY bQ,dC]
 ·intro pre r W' b R' hR tT ⟨h1,h2,h3⟩ hl hb IE iu;have f3:R' 3=.pointer (some ⟨W1.next,0,none⟩):=by rw[hR];rfl
  have f4:R' 4=.pointer (some ⟨W2.next,0,none⟩):=by rw[hR];rfl
  have f5:R' 5=.pointer (some ⟨W3.next,0,none⟩):=by rw[hR];rfl
  have f8:R' 9=.pointer (some ⟨b,0,none⟩):=by rw[hR];rfl
  clear hR;rw[zz];unfold v8;obtain⟨k1,k2,k3,k4,k5,k6,k7⟩:=Bu hg tT;have Qs:aF W' W1.next=some [.af sec]:=by rw[h1.aF (by omega)];exact r2
  have hmp:∀x∈pre,1<=x.many:=λx hx=>((kU (((Ab pre [r]).trans tT).subset hx)).many hg).1
  have hms:=po (l:=pre.filter (dF sec)) (λx hx=>hmp x (lJ.1 hx).1);have ac0:dg (pre.filter (dF sec))<=dg pre:=by
   have:∀l:List fx,(∀x∈l,1<=x.many)->dg (l.filter (dF sec))<=dg l:=by
    intro l;induction l with
    |nil=>intro _;exact Int.le_refl _
    |cons x l ih=>
     intro h;have:=ih λy hy=>h y (by simp[hy])
     have:=h x (by simp);rw[List.filter_cons];split
     ·rw[cX,cX];omega
     ·rw[cX];omega
   exact this _ hmp
  have ea:∀W',aw Tryz.prog .add 3 false false (.af (dg (pre.filter (dF sec)))) (.af r.many) W'=some (.af (dg (pre.filter (dF sec))+r.many),W'):=λW'=>cY (by omega) (by omega)
  simp only[SX,f3,f8,C8 Qs,zj (o:=0) hb rfl,aK];by_cases t1:(r.sec:Int)=sec;case neg=>have nv:dF sec r=false:=bu t1;simp only[SX,t1,am];exact⟨aS _,aB,.inl ⟨aB,h1,by rw[nc nv];exact h2,by rw[nc nv];exact h3⟩⟩
  have nv:dF sec r=true:=aY t1;have acb:dg (pre.filter (dF sec)++[r])=dg (pre.filter (dF sec))+r.many:=by rw[jJ,cX,il,kT]
  simp only[SX,aY t1,f5,C8 h3];by_cases t2:dg (pre.filter (dF sec))=0
  ·have aiO:pre.filter (dF sec)=[]:=by rw[t2]at hms;exact jz.1 (by omega)
   have Yd:aF (W'.put W2.next (.cells [.af r.first])) b=some (RA r):=by rw[be _ (by omega)];exact hb
   simp only[SX,aY t2,f4,zj (o:=2) hb rfl,zj (o:=3) Yd rfl,Kl h2,C8 ((e3 _ _).trans h3),ea,Kl ((e3 _ _).trans h3),am];exact⟨aS _,by rw[AW.aE _ _ (by omega),AW.aE _ _ (by omega)],.inl ⟨aB,(h1.put (by omega) _).put (by omega) _,by rw[e2,g9 nv,aiO];rfl,by rw[br,g9 nv,acb]⟩⟩
  ·have fe:pre.filter (dF sec)≠[]:=λe=>t2 (by rw[e];rfl)
   simp only[SX,t2,zj (o:=3) hb rfl,ea,Kl h3,am];exact⟨aS _,by rw[AW.aE _ _ (by omega)],.inl ⟨aB,h1.put (by omega) _,by rw[be _ (by omega),g9 nv,N7 fe];exact h2,by rw[br,g9 nv,acb]⟩⟩
 ·rintro x W6 (⟨rfl,h1,h2,h3⟩|⟨_,h⟩);case inr=>exact h.elim
  have k2:aF (W6.kill W5.next) W2.next=some [.af (JT ((db v.az).filter (dF sec)))]:=by rw[kS (by omega)];exact h2
  have k3:aF (W6.kill W5.next) W3.next=some [.af (dg ((db v.az).filter (dF sec)))]:=by rw[kS (by omega)];exact h3
  simp only[SX,C8 k3];by_cases t2:dg ((db v.az).filter (dF sec))=0
  ·simp only[SX,aY t2,ax t2,Kl k2,Kl ((e3 _ _).trans k3),AG,oL3,C8 (e2 _ _ _),C8 (br _),bq,am];exact⟨aB,(((iP.trans h1).kill (by omega)).put (by omega) _).put (by omega) _⟩
  ·have O7:rP true (some (.af (dg ((db v.az).filter (dF sec))),(W6.kill W5.next).put W2.next (.cells [.af (JT ((db v.az).filter (dF sec)))]))) (.af (dg ((db v.az).filter (dF sec))))=true:=Sd rfl (Dy _ _);simp only[SX,t2,C8 k2,C8 k3,Kl k2,C8 ((e3 _ _).trans k3),O7,sR,Kl ((e3 _ _).trans k3),AG,oL3,C8 (e2 _ _ _),C8 (br _),bq,am];exact⟨by simp only[bG],(((iP.trans h1).kill (by omega)).put (by omega) _).put (by omega) _⟩
def agt(W:AW):bc Tryz.prog 167 W=some (.pointer (some ⟨W.next,0,none⟩),W.add (.cells [.af 0,.af 0,.af 0])):=aH (by kernel_rfl) rfl
def Mu(x:ae)(W:AW):iH Tryz.prog 167 x W=bA 3 x W:=by kernel_rfl
def LG(W:AW):bH Tryz.prog 167 [] W=some (.agg #[.af 0,.af 0,.af 0],W):=aH (by kernel_rfl) rfl
def Gp(W:AW):∃W1,bc Tryz.prog 167 W=some (.pointer (some ⟨W.next,0,none⟩),W1)/\W1.next=W.next+1/\Le W W1/\aF W1 W.next=some [.af 0,.af 0,.af 0]:=⟨_,agt W,AW.aL _ _,(Le.refl W).add _,bQ⟩
def ld3{b:Nat}{x y z:ae}{W:AW}(h:aF W b=some [x,y,z]):bA 3 (.pointer (some ⟨b,0,none⟩)) W=some (.agg #[x,y,z],W):=kP (fj h) rfl
def vA{b:Nat}{a c d:Int}{x y z:ae}{W:AW}(h:aF W b=some [x,y,z]):bU 3 (.pointer (some ⟨b,0,none⟩)) (.agg #[.af a,.af c,.af d]) W=some (ag,W.put b (.cells [.af a,.af c,.af d])):=Pd h rfl rfl rfl
def Uk{α:Type}{l:List α}{r:α}(h:r∈l):∃pre,pre++[r]<+:l:=by obtain⟨a,b,rfl⟩:=List.append_of_mem h;exact⟨a,⟨b,by simp⟩⟩
def zG{l:List jr}(hg:Good l){r:fx}(h:r∈db l):H4 l r/\0<=r.first/\r.first+r.many<=8192/\1<=r.many/\r.many<=64/\r.sec<8/\r.row<16:=by obtain⟨pre,hp⟩:=Uk h;obtain⟨k1,k2,k3,k4,k5,k6,k7⟩:=Bu hg hp;have:=k1.many hg;exact⟨k1,by omega,by omega,k5,k6,by omega,by omega⟩
def uk{v:cT}{bM:Int}(h:(eW v bM).2=0):(eR v).2=0/\(eW v bM).1∈db v.az/\(db v.az).find? (qv bM)=some (eW v bM).1/\(eW v bM).1.first<=bM/\bM<(eW v bM).1.first+(eW v bM).1.many:=by
 unfold eW at h|-;by_cases he:(eR v).2=0
 ·rw[ax he]at h|-;cases hf:(db v.az).find? (qv bM)with
  |none=>rw[hf]at h;exact absurd h (by decide)
  |some r=>have hi:=List.find?_some hf;unfold qv at hi;simp only[bB,lP]at hi;exact⟨he,Fh hf,rfl,hi.1,hi.2⟩
 ·rw[ay he]at h;exact absurd h he
def bF(v:cT)(bM:Int):Il×Int:=if(eW v bM).2=0 then(((eW v bM).1.sec,(eW v bM).1.row,(bM-(eW v bM).1.first).toNat),0)else((0,0,0),(eW v bM).2)
abbrev TR(p:Il):ae:=.agg #[.af (p.1:Int),.af (p.2.1:Int),.af (p.2.2:Int)]
def SF{v:cT}{sv:ae}{W:AW}{bM:Int}(hs:eX W sv v.az)(hv:v.az.length<1000):bl (.func (.func 139) #[] #[]) [gW v sv,.af bM] W=some (.tuple #[TR (bF v bM).1,.af (bF v bM).2],W):=by
 refine bS rfl ?_ An;unfold yG bF;obtain⟨W1,hB,bi,hn,c4,c0,c3⟩:=fP v sv W;obtain⟨W2,b2,n2,l2,r2⟩:=Gp W1;obtain⟨W3,b3,n3,l3,r3⟩:=QH W2;have cP:∀x,aF (W3.put W2.next x) W1.next=some [.af 0,.af 0,.af 0]:=λx=>by rw[be _ (by omega),l3.aF (by omega)];exact r2
 have LZ:=bi.next;have l03:=(bi.trans l2).trans l3;simp only[SX,hB,b2,b3,c4 _ l2,Ld (hs.mono (bi.trans l2)) hv,AY r3];by_cases he:(eW v bM).2=0;case neg=>simp only[SX,he,bG,LG,vA (cP _),jv,Mu,ld3 (br _),bq,am];exact⟨rfl,(l03.put (by omega) _).put (by omega) _⟩
 obtain⟨h1,h2,h3,h4,h5⟩:=uk he;obtain⟨k1,k2,k3,k4,k5,-,-⟩:=zG (eD h1).1 h2;have hb:=br (W:=W3) (b:=W2.next) (RA (eW v bM).1);have ea:∀W',aw Tryz.prog .sub 3 false false (.af bM) (.af (eW v bM).1.first) W'=some (.af (bM-(eW v bM).1.first),W'):=λW'=>pj (by omega) (by omega)
 have et:((bM-(eW v bM).1.first).toNat:Int)=bM-(eW v bM).1.first:=Int.toNat_of_nonneg (by omega);simp only[SX,aY he,ax he,aK,zj (o:=0) hb rfl,zj (o:=1) hb rfl,zj (o:=2) hb rfl,ea,adK,vA (cP _),jv,Mu,ld3 (br _),bq,am];exact⟨by simp only[TR];rw[et],(l03.put (by omega) _).put (by omega) _⟩
def fz(v:cT)(bM:Int):Int×Int:=if(eW v bM).2=0 then(bM % v.sh,0)else(0,(eW v bM).2)
def Jz{v:cT}(h:sQ v=false):1<=v.sh/\v.sh<=16:=by unfold sQ iz at h;simp only[Bool.or_eq_false_iff,zX]at h;omega
def iW{v:cT}(h:(eR v).2=0):1<=v.sh/\v.sh<=16:=Jz (eD h).2.1
def Bx{v:cT}{sv:ae}{W:AW}{bM:Int}(hs:eX W sv v.az)(hv:v.az.length<1000):bl (.func (.func 141) #[] #[]) [gW v sv,.af bM] W=some (.tuple #[.af (fz v bM).1,.af (fz v bM).2],W):=by
 refine bS rfl ?_ Be;unfold yI fz;obtain⟨W1,hB,bi,hn,c4,c0,c3⟩:=fP v sv W;obtain⟨W3,b3,n3,l3,r3⟩:=QH W1;have LZ:=bi.next;simp only[SX,hB,b3,c4 _ (.refl _),Ld (hs.mono bi) hv,AY r3];by_cases he:(eW v bM).2=0;case neg=>simp only[SX,he,bG,am];exact⟨aB,(bi.trans l3).put (by omega) _⟩
 obtain⟨h1,h2,h3,h4,h5⟩:=uk he;obtain⟨k1,k2,k3,k4,k5,-,-⟩:=zG (eD h1).1 h2;have Kx:=iW h1;have ea:∀W',aw Tryz.prog .rem 3 false false (.af bM) (.af v.sh) W'=some (.af (bM % v.sh),W'):=λW'=>by rw[vB (by omega),zU (by omega)]
 simp only[SX,aY he,ax he,aK,c0 _ (l3.put (aS _) _),ea,am];exact⟨aB,(bi.trans l3).put (by omega) _⟩
def dY(v:cT)(sec:Int):Int×Int:=if(tl v sec).2.2=0 then(v.sh+sec,0)else(0,(tl v sec).2.2)
def pk{v:cT}{sec:Int}(h:(tl v sec).2.2=0):(eR v).2=0/\0<=sec/\sec<v.az.length/\∃r l,(db v.az).filter (dF sec)=r::l/\(tl v sec)=(r.first,dg ((db v.az).filter (dF sec)),0):=by
 unfold tl at h|-;by_cases he:(eR v).2=0
 ·rw[ax he]at h|-;by_cases h2:dg ((db v.az).filter (dF sec))=0
  ·rw[ax h2]at h;exact absurd h (by decide)
  ·rw[ay h2];cases hf:(db v.az).filter (dF sec)with
   |nil=>rw[hf]at h2;exact absurd rfl h2
   |cons r l=>
    have hr:r∈(db v.az).filter (dF sec):=by rw[hf];simp
    obtain⟨m1,m2⟩:=lJ.1 hr;obtain⟨hi,-,-⟩:=kU m1;have:(r.sec:Int)=sec:=si m2;exact⟨he,by omega,by omega,r,l,rfl,rfl⟩
 ·rw[ay he]at h;exact absurd h he
def Lp{v:cT}{sv:ae}{W:AW}{sec:Int}(hs:eX W sv v.az)(hv:v.az.length<1000):bl (.func (.func 140) #[] #[]) [gW v sv,.af sec] W=some (.tuple #[.af (dY v sec).1,.af (dY v sec).2],W):=by
 refine bS rfl ?_ CG;unfold A6 dY;obtain⟨W1,hB,bi,hn,c4,c0,c3⟩:=fP v sv W;simp only[SX,hB,c4 _ (.refl _),Wv (hs.mono bi) hv];by_cases he:(tl v sec).2.2=0;case neg=>simp only[SX,he,bG,am];exact⟨aB,bi⟩
 obtain⟨h1,h2,h3,-⟩:=pk he;have Kx:=iW h1;have ea:∀W',aw Tryz.prog .add 3 false false (.af v.sh) (.af sec) W'=some (.af (v.sh+sec),W'):=λW'=>cY (by omega) (by omega)
 simp only[SX,aY he,ax he,aK,c0 _ (.refl _),ea,am];exact⟨aB,bi⟩
def YF(a b:Int)(W:AW):aG Tryz.prog .min #[3,3] 3 #[false,false] [.af a,.af b] W=some (.af (min a b),W):=by
 have e:aG Tryz.prog .min #[3,3] 3 #[false,false] [.af a,.af b] W=(jV Tryz.prog ([Value.int .i64 a,.af b].all bI) (builtin .min #[3,3] 3 #[false,false] #[.af a,.af b])).map λv=>(v,W):=by unfold aG;rfl
 rw[e];have e2:builtin .min #[3,3] 3 #[false,false] #[.af a,.af b]=(do pure (.value (<-Builtin.min_ #[3,3] 3 #[.af a,.af b]))):=rfl;rw[e2];refine B5 ?_ rfl _ rfl;unfold Builtin.min_;simp only[List.foldlM_cons,List.foldlM_nil,eL,Builtin.min2,fq,bq];congr 2;by_cases h:b<a
 ·rw[ax h];omega
 ·rw[ay h];omega
def Bv(a:Int)(W:AW):aC Tryz.prog 64 1 [(0,.af a)] W=some (.slice (some ⟨W.next,0,none⟩) 1 1,W.add (.cells [.af a])):=aH (by kernel_rfl) rfl
def Ic:lS Tryz.prog #[64,64] 1 8=true:=by kernel_rfl
def tU(sh first:Int)(n:Nat):List Int:=(List.range n).map λ(i:Nat)=>(first+(i:Int)) % sh
def Ms(sh first:Int)(n:Nat):tU sh first (n+1)=tU sh first n++[(first+(n:Int)) % sh]:=by simp[tU,mL]
def su(sh first:Int)(n:Nat):(tU sh first n).length=n:=by simp[tU]
def gO(v:cT)(sec:Int):List Int×Int:=if(tl v sec).2.2=0 then(jk (tU v.sh (tl v sec).1 (min (tl v sec).2.1 v.sh).toNat),0)else([],(tl v sec).2.2)
def Dz{v:cT}{sec:Int}(h:(tl v sec).2.2=0):0<=(tl v sec).1/\(tl v sec).1<=8192/\1<=(tl v sec).2.1/\(tl v sec).2.1<=8192:=by
 obtain⟨h1,h2,h3,r,l,h4,h5⟩:=pk h;have hg:=(eD h1).1;have hr:r∈(db v.az).filter (dF sec):=by rw[h4];simp
 obtain⟨k1,k2,k3,k4,k5,-,-⟩:=zG hg (lJ.1 hr).1;have hm:∀x∈db v.az,1<=x.many:=λx hx=>((kU hx).many hg).1
 have ac0:∀l:List fx,(∀x∈l,1<=x.many)->dg (l.filter (dF sec))<=dg l:=by
  intro l;induction l with
  |nil=>intro _;exact Int.le_refl _
  |cons x l ih=>
   intro h;have:=ih λy hy=>h y (by simp[hy])
   have:=h x (by simp);rw[List.filter_cons];split
   ·rw[cX,cX];omega
   ·rw[cX];omega
 have bi:=ac0 _ hm;rw[vr]at bi;have:=xw hg;have xq:=po (l:=(db v.az).filter (dF sec)) (λx hx=>hm x (lJ.1 hx).1);rw[h4,dG]at xq;rw[<-h4]at xq;rw[h5];exact⟨k2,by omega,by simp only;omega,by simp only;omega⟩
def SK{v:cT}{sv:ae}{W:AW}{sec:Int}(hs:eX W sv v.az)(hv:v.az.length<1000):∃u W2,bl (.func (.func 138) #[] #[]) [gW v sv,.af sec] W=some (.tuple #[u,.af (gO v sec).2],W2)/\Le W W2/\oZ W2 u (gO v sec).1:=by
 refine vG ?_ B4;unfold yR gO;obtain⟨W1,hB,bi,hn,c4,c0,c3⟩:=fP v sv W;have LZ:=bi.next;simp only[SX,hB,c4 _ (.refl _),Wv (hs.mono bi) hv];by_cases he:(tl v sec).2.2=0;case neg=>simp only[SX,he,bG,am];exact⟨_,rfl,bi,Row.nil⟩
 obtain⟨h1,h2,h3,-⟩:=pk he;obtain⟨b1,b2,b3,b4⟩:=Dz he;have Kx:=iW h1;generalize hfm:tl v sec=fm at *;obtain⟨fi,ma,er⟩:=fm;simp only at he b1 b2 b3 b4|-;subst he;simp only[SX,bk,aK,c0 _ (.refl _),YF];obtain⟨n,hn2⟩:∃n:Nat,(n:Int)=min ma v.sh:=⟨(min ma v.sh).toNat,by omega⟩;have hn3:(min ma v.sh).toNat=n:=by omega
 rw[<-hn2];refine cx n (by omega) (λi R W'=>Le W1 W'/\R 2=.pointer (some ⟨W.next,0,none⟩)/\R 6=.af fi/\R 24=.af (n:Int)/\R 25=.af (i:Int)/\∃u,R 9=u/\ns W1.next W' 1 ka u (tU v.sh fi i))
  (λr=>Le W1 r.2.2/\r.1=.exit 0/\∃u,r.2.1 9=u/\ns W1.next r.2.2 1 ka u (tU v.sh fi n)) ⟨.refl _,rfl,rfl,rfl,rfl,_,rfl,.nil _ _ _ _⟩ ?_ ?_ ?_
 ·rintro i R W' hi ⟨hl,f2,f6,f24,f25,u,f9,hL⟩;unfold m0;have e1:((i:Int)<(n:Int)):=by omega
  have e2:(i:Int)+1=((i+1:Nat):Int):=by omega
  have ea:∀W',aw Tryz.prog .add 3 false false (.af fi) (.af (i:Int)) W'=some (.af (fi+(i:Int)),W'):=λW'=>cY (by omega) (by omega)
  have er:∀W',aw Tryz.prog .rem 3 false false (.af (fi+(i:Int))) (.af v.sh) W'=some (.af ((fi+(i:Int)) % v.sh),W'):=λW'=>by rw[vB (by omega),zU (by omega)]
  have eb:∀W',aw Tryz.prog .add 3 false true (.af (i:Int)) (.af 1) W'=some (.af ((i+1:Nat):Int),W'):=λW'=>by rw[<-e2];exact cY (by omega) (by omega)
  have Nx:=hL.mono ((Le.refl W').add (.cells [.af ((fi+(i:Int)) % v.sh)]));obtain⟨v',W2,q1,q2,q3,q4⟩:=ns.push (P:=Tryz.prog) (a:=(fi+(i:Int)) % v.sh) (b:=W'.next) (c:=1) Ic ss uZ Nx bp (by rw[su];omega) (by rw[su];omega) (by rw[AW.aL];have:=hl.next;omega);simp only[SX,f2,f6,f9,f24,f25,e1,ea,aK,c0 _ hl,er,Bv,q1,eb,am];refine .inl ⟨aB,q4 _ (hl.add _) (aS _),f2,f6,f24,rfl,_,rfl,?_⟩;rw[Ms];exact q2
 ·rintro R W' ⟨hl,f2,f6,f24,f25,u,f9,hL⟩;unfold m0;have e1:¬((n:Int)<(n:Int)):=by omega
  simp only[SX,f24,f25,e1,am];exact⟨by simp,hl,aB,u,f9,hL⟩
 ·rintro⟨x,R,W'⟩ ⟨hl,hx,u,f9,hL⟩;simp only at hl hx f9 hL;subst hx;have fe:tU v.sh fi n≠[]:=λe=>by have:=su v.sh fi n;rw[e]at this;simp at this;omega
  obtain⟨W2,s1,s2,s3,s4⟩:=hL.sort fe (by rw[su];omega);simp only[SX,f9,TJ s1,am];exact⟨_,rfl,bi.trans (s4 _ hl (aS _)),by rw[ot];exact s2.ints⟩
def ZU.get{W:AW}{v:ae}{l:List Il}(h:ZU W v l){i:Nat}(hi:i<l.length):∃b o,(∀W' k,iY 3 v (.int k (i:Int)) W'=some (.pointer (some ⟨b,o,none⟩),W'))/\
 ∀W',Le W W'->aJ (.pointer (some ⟨b,o,none⟩)) W'=some (.af (l[i].1:Int),W')/\aJ (.pointer (some ⟨b,o+1,none⟩)) W'=some (.af (l[i].2.1:Int),W')/\bA 3 (.pointer (some ⟨b,o,none⟩)) W'=some (TR l[i],W'):=by
 obtain⟨a,c,rfl,h⟩:=h;rcases h with rfl|⟨b,o,cs,rfl,hb,hc,oC⟩
 ·simp at hi
 ·refine⟨b,o+i*3,λW' k=>t7 hi,λW' bi=>?_⟩;have oN:=(bi.aI hb).trans hc;obtain⟨h1,h2,h3⟩:=oC i hi;refine⟨cU oN h1,cU oN h2,?_⟩;have:=V0 h1 h2 h3;rw[Ay,oN,bq,this];rfl
def DF(b:Bool):aZ ag b=false:=aH (by unfold aZ ag;rfl) rfl
def Gl{α:Type}(p:α->Bool)(l:List α):Nat:=if(l.filter p).length=0 then 0 else l.findIdx p
def Ou{α:Type}{p:α->Bool}{l:List α}{a:α}:Gl p (l++[a])=if p a=true/\(l.filter p).length=0 then l.length else Gl p l:=by
 unfold Gl;cases ha:p a with
 |false=>rw[nc ha];simp only[fJ,false_and,bG];by_cases h:(l.filter p).length=0
         ·rw[ax h,ax h]
         ·rw[ay h,ay h];have:l.findIdx p<l.length:=by rw[List.findIdx_lt_length];obtain⟨x,hx⟩:=List.exists_mem_of_length_pos (Nat.pos_of_ne_zero h);exact⟨x,(lJ.1 hx).1,(lJ.1 hx).2⟩
          rw[zQ,ax this]
 |true=>
  rw[g9 ha];by_cases h:(l.filter p).length=0
  ·simp only[h,mp,bk,cm,dG,qo];have hn:l.findIdx p=l.length:=by
    rw[List.findIdx_eq_length];intro x hx;cases hp:p x with
    |false=>rfl
    |true=>have:x∈l.filter p:=lJ.2 ⟨hx,hp⟩;rw[jz.1 h]at this;cases this
   rw[bZ,zQ,bZ];simp[List.findIdx_cons,ha]
  ·simp only[h,and_false,bG];have:l.findIdx p<l.length:=by rw[List.findIdx_lt_length];obtain⟨x,hx⟩:=List.exists_mem_of_length_pos (Nat.pos_of_ne_zero h);exact⟨x,(lJ.1 hx).1,(lJ.1 hx).2⟩
   rw[ay (by rw[cm];simp),zQ,ax this]
def dT(sec:Int)(q:Il):Bool:=decide ((q.1:Int)=sec)
def qc(v:cT)(sec:Int):Int×Int×Int:=if(eR v).2=0 then
 if((iG v.az).filter (dT sec)).length=0 then(0,0,4)else((Gl (dT sec) (iG v.az):Nat),(((iG v.az).filter (dT sec)).length:Nat),0)
 else(0,0,(eR v).2)
def MQ{v:cT}{sv:ae}{W:AW}{sec:Int}(hs:jc W sv v.az)(hv:v.az.length<1000)(hr:∀s∈v.az,s.rows.length<1000):bl (.func (.func 167) #[] #[]) [gW v sv,.af sec,.af (-1)] W=some (.tuple #[.af (qc v sec).1,.af (qc v sec).2.1,.af (qc v sec).2.2],W):=by
 refine bS rfl ?_ C4;unfold Cd qc;obtain⟨W1,hB,bi,hn,c4,c0,c3⟩:=fP v sv W;simp only[SX,hB,c4 _ (.refl _),te (hs.mono bi) hv hr];by_cases he:(eR v).2=0;case neg=>simp only[SX,he,bG,am];exact⟨aB,bi⟩
 obtain⟨hg,-⟩:=eD he;obtain⟨r,W2,q1,q2,q3⟩:=sx (hs.mono bi) hg;have mq:=pY hg;have htm:=xw hg;simp only[SX,aY he,ax he,q1];have j8:∀(k:Nat) (W':AW),k<1000000->aw Tryz.prog .add 3 false true (.af (k:Int)) (.af 1) W'=some (.af ((k+1:Nat):Int),W'):=λk W' hk=>cY (by omega) (by omega)
 generalize hl:iG v.az=l at *;have Cs:∀i,((l.take i).filter (dT sec)).length<=l.length:=λi=>fL (List.length_filter_le _ _) (by rw[fT];omega)
 refine cx l.length (by omega) (λi R W'=>W'=W2/\R 1=.af sec/\R 2=.af (-1)/\R 11=.af ((Gl (dT sec) (l.take i):Nat):Int)/\R 12=.af (((l.take i).filter (dT sec)).length:Int)/\R 13=r/\R 14=.af (i:Int))
  (λq=>q.2.2=W2/\q.1=.exit 0/\q.2.1 11=.af ((Gl (dT sec) l:Nat):Int)/\q.2.1 12=.af ((l.filter (dT sec)).length:Int)) ⟨rfl,rfl,rfl,rfl,rfl,rfl,rfl⟩ ?_ ?_ ?_
 ·rintro i R W' hi ⟨rfl,f1,f2,wJ,OW,f13,f14⟩;unfold ou;have e1:((i:Int)<(l.length:Int)):=by omega
  obtain⟨b,o,p1,p2⟩:=q3.get hi;obtain⟨p3,p4,p5⟩:=p2 W' (.refl _);have ht:l.take (i+1)=l.take i++[l[i]]:=by rw[zI,dm hi];rfl
  have hti:(l.take i).length=i:=by rw[fT];omega
  have Cy:=Ou (p:=dT sec) (l:=l.take i) (a:=l[i]);rw[hti,<-ht]at Cy;simp only[SX,f1,f2,f13,f14,q3.len Tz,e1,p1,ce,p3];by_cases t1:(l[i].1:Int)=sec;case neg=>have hp:dT sec l[i]=false:=bu t1;rw[hp]at Cy;simp only[fJ,false_and,bG]at Cy;simp only[SX,t1,DF,j8 i _ (by omega),am];exact .inl ⟨aB,aB,f1,f2,by rw[Cy];exact wJ,by rw[ht,nc hp];exact OW,f13,rfl⟩
  have hp:dT sec l[i]=true:=aY t1;rw[hp]at Cy;simp only[true_and]at Cy;have hc:=Cs i;simp only[SX,aY t1,OW];by_cases t2:((l.take i).filter (dT sec)).length=0
  ·have t3:(((l.take i).filter (dT sec)).length:Int)=0:=by omega
   rw[ax t2]at Cy;simp only[SX,aY t3,j8 i _ (by omega),j8 ((l.take i).filter (dT sec)).length _ (by omega),am];refine .inl ⟨aB,aB,f1,f2,by rw[Cy];rfl,?_,f13,rfl⟩;rw[ht,g9 hp,cm];rfl
  ·have t3:¬(((l.take i).filter (dT sec)).length:Int)=0:=by omega
   rw[ay t2]at Cy;simp only[SX,t3,j8 i _ (by omega),j8 ((l.take i).filter (dT sec)).length _ (by omega),am];refine .inl ⟨aB,aB,f1,f2,by rw[Cy];exact wJ,?_,f13,rfl⟩;rw[ht,g9 hp,cm];rfl
 ·rintro R W' ⟨rfl,f1,f2,wJ,OW,f13,f14⟩;unfold ou;have e1:¬((l.length:Int)<(l.length:Int)):=by omega
  rw[dN]at wJ OW;simp only[SX,f13,f14,q3.len Tz,e1,am];exact⟨by simp,aB,aB,wJ,OW⟩
 ·rintro⟨x,R,W'⟩ ⟨hW,hx,wJ,OW⟩;simp only at hW hx wJ OW;subst hW;subst hx;simp only[SX,OW];by_cases t2:(l.filter (dT sec)).length=0
  ·have t3:((l.filter (dT sec)).length:Int)=0:=by omega
   simp only[SX,aY t3,ax t2,am];exact⟨aB,bi.trans q2⟩
  ·have t3:¬((l.filter (dT sec)).length:Int)=0:=by omega
   simp only[SX,t3,ay t2,wJ,am];exact⟨aB,bi.trans q2⟩
def Gz{v:cT}{sv:ae}{W:AW}{sec:Int}(hs:jc W sv v.az)(hv:v.az.length<1000)(hr:∀s∈v.az,s.rows.length<1000):bl (.func (.func 142) #[] #[]) [gW v sv,.af sec] W=some (.tuple #[.af (qc v sec).1,.af (qc v sec).2.1,.af (qc v sec).2.2],W):=by refine bS rfl ?_ Gr;unfold FV;obtain⟨W1,hB,bi,hn,c4,c0,c3⟩:=fP v sv W;simp only[SX,hB,c4 _ (.refl _),MQ (hs.mono bi) hv hr,am];exact⟨aB,bi⟩
def kh(r:fx):List Il:=qE r.sec r.row r.many.toNat
def mr(r:fx):(kh r).length=r.many.toNat:=by simp[kh,qE]
def NV(r:fx){i:Nat}(h:i<r.many.toNat):(kh r)[i]? =some (r.sec,r.row,i):=by unfold kh qE;rw[jf,zK h];rfl
def yf:∀{L:List fx} {s bM:Int},iB s L->(∀r∈L,1<=r.many)->s<=bM->bM<s+dg L->
 ∃r,L.find? (qv bM)=some r/\(L.flatMap kh)[(bM-s).toNat]? =some (r.sec,r.row,(bM-r.first).toNat)
 |[],s,bM,_,_,h1,h2=>by rw[il]at h2;omega
 |r::L,s,bM,⟨hf,hF⟩,hm,h1,h2=>by
  have hr:=hm r (by simp);rw[cX]at h2;by_cases h:bM<s+r.many
  ·refine⟨r,?_,?_⟩
   ·rw[List.find?_cons_of_pos];unfold qv;simp only[bB,lP];omega
   ·rw[hO,uo (by rw[mr];omega),NV _ (by omega),hf]
  ·obtain⟨x,x1,x2⟩:=yf (s:=s+r.many) hF (λy hy=>hm y (by simp[hy])) (by omega) (by omega:bM<s+r.many+dg L);refine⟨x,?_,?_⟩
   ·rw[List.find?_cons_of_neg,x1];unfold qv;simp only[bB,lP];omega
   ·rw[hO,ig (by rw[mr];omega),mr];rw[show(bM-s).toNat-r.many.toNat=(bM-(s+r.many)).toNat by omega];exact x2
def uN:∀{L:List fx} {s bM:Int},iB s L->(∀r∈L,1<=r.many)->(bM<s\/s+dg L<=bM)->L.find? (qv bM)=none
 |[],_,_,_,_,_=>rfl
 |r::L,s,bM,⟨hf,hF⟩,hm,h=>by
  have hr:=hm r (by simp);rw[cX]at h;have hp:=po (l:=L) (λy hy=>hm y (by simp[hy]));rw[List.find?_cons_of_neg]
  ·exact uN hF (λy hy=>hm y (by simp[hy])) (by omega)
  ·unfold qv;simp only[bB,lP];omega
def DG{sec:Int}{r:fx}(h:dF sec r=true):∀q∈kh r,dT sec q=true:=by intro q hq;unfold kh qE at hq;obtain⟨j,_,rfl⟩:=mC.1 hq;exact h
def FP{sec:Int}{r:fx}(h:dF sec r=false):∀q∈kh r,dT sec q=false:=by intro q hq;unfold kh qE at hq;obtain⟨j,_,rfl⟩:=mC.1 hq;exact h
def vg{sec:Int}:∀{L:List fx},(∀r∈L,1<=r.many)->(((L.flatMap kh).filter (dT sec)).length:Int)=dg (L.filter (dF sec))
 |[],_=>rfl
 |r::L,hm=>by
  have hr:=hm r (by simp);have ih:=vg (sec:=sec) (L:=L) (λy hy=>hm y (by simp[hy]));rw[hO,List.filter_append,cm,List.filter_cons];cases h:dF sec r with
  |true=>rw[ax rfl,cX,<-ih,List.filter_eq_self.2 (DG h),mr];omega
  |false=>rw[ay (by simp),<-ih,List.filter_eq_nil_iff.2 (λq hq=>by rw[FP h q hq];simp)];simp
def vK{sec:Int}:∀{L:List fx} {s:Int} {r0:fx} {l0:List fx},iB s L->(∀r∈L,1<=r.many)->L.filter (dF sec)=r0::l0->s+((L.flatMap kh).findIdx (dT sec):Int)=r0.first
 |[],_,_,_,_,_,h=>by cases h
 |r::L,s,r0,l0,⟨hf,hF⟩,hm,h=>by
  have hr:=hm r (by simp);rw[hO];rw[List.filter_cons]at h;cases hs:dF sec r with
  |true=>
   rw[hs,ax rfl]at h;injection h with h1 h2;subst h1;have:((kh r++L.flatMap kh).findIdx (dT sec))=0:=by
    cases hc:kh r with
    |nil=>have:=mr r;rw[hc]at this;simp at this;omega
    |cons q l=>have:=DG hs q (by rw[hc];simp);rw[oy,List.findIdx_cons,this];rfl
   rw[this];omega
  |false=>
   rw[hs,ay (by simp)]at h;have ih:=vK hF (λy hy=>hm y (by simp[hy])) h;have hn:(kh r).findIdx (dT sec)=(kh r).length:=by rw[List.findIdx_eq_length];intro x hx;exact FP hs x hx
   rw[zQ,hn,bZ,mr];omega
def Rg(v:cT)(sec:Int):qc v sec=tl v sec:=by
 unfold qc tl;by_cases he:(eR v).2=0;case neg=>rw[ay he,ay he]
 rw[ax he,ax he];obtain⟨hg,-⟩:=eD he;have hm:∀x∈db v.az,1<=x.many:=λx hx=>((kU hx).many hg).1
 have hc:=vg (sec:=sec) hm;have mq:(db v.az).flatMap kh=iG v.az:=(yN v.az).symm;rw[mq]at hc;by_cases h0:((iG v.az).filter (dT sec)).length=0
 ·rw[ax h0,nj]
 ·rw[ay h0,bZ];have hf:((Gl (dT sec) (iG v.az):Nat):Int)=JT ((db v.az).filter (dF sec)):=by
   unfold Gl;rw[ay h0];cases hl:(db v.az).filter (dF sec)with
   |nil=>rw[hl]at hc;rw[il]at hc;omega
   |cons r l=>have:=vK (nH v.az) hm hl;rw[mq]at this;show _=r.first;omega
  rw[hf,hc]
def xI(v:cT)(bM:Int):Il×Int:=if(i7 v).2=0 then(if bM<0\/(i7 v).1<=bM then((0,0,0),4)else((iG v.az).getD bM.toNat (0,0,0),0))else((0,0,0),(i7 v).2)
def MC(v:cT)(bM:Int):xI v bM=bF v bM:=by
 unfold xI bF eW i7;by_cases he:(eR v).2=0;case neg=>simp only[ay he]
 simp only[ax he,bk];obtain⟨hg,-⟩:=eD he;have hm:∀x∈db v.az,1<=x.many:=λx hx=>((kU hx).many hg).1
 have mq:(db v.az).flatMap kh=iG v.az:=(yN v.az).symm;by_cases h:bM<0\/dv v.az<=bM
 ·rw[ax h,uN (nH v.az) hm (by rw[vr];omega)];rfl
 ·rw[ay h];obtain⟨r,r1,r2⟩:=yf (nH v.az) hm (by omega:0<=bM) (by rw[vr];omega);rw[mq,Int.sub_zero]at r2;rw[r1,mS,r2];rfl
def yr{v:cT}{sv:ae}{W:AW}{bM:Int}(hs:jc W sv v.az)(hv:v.az.length<1000)(hr:∀s∈v.az,s.rows.length<1000):bl (.func (.func 107) #[] #[]) [gW v sv,.af bM] W=some (.tuple #[TR (bF v bM).1,.af (bF v bM).2],W):=by
 rw[<-MC];refine bS rfl ?_ B6;unfold yJ xI;obtain⟨W1,hB,bi,hn,c4,c0,c3⟩:=fP v sv W;obtain⟨W2,b2,n2,l2,r2⟩:=Gp W1;have LZ:=bi.next;have iP:=bi.trans l2;simp only[SX,hB,b2,c4 _ l2,HT (hs.mono iP) hv hr];by_cases he:(i7 v).2=0;case neg=>simp only[SX,he,bG,DF,LG,vA r2,jv,Mu,ld3 (br _),bq,am];exact⟨rfl,iP.put (by omega) _⟩
 have e40:¬((4:Int)=0):=by decide
 simp only[SX,aY he,ax he];by_cases t1:bM<0
 ·simp only[SX,aY t1,ax (Or.inl t1:bM<0\/(i7 v).1<=bM),e40,LG,vA r2,jv,Mu,ld3 (br _),bq,am];exact⟨rfl,iP.put (by omega) _⟩
 by_cases t2:(i7 v).1<=bM
 ·simp only[SX,bu t1,aY t2,ax (Or.inr t2:bM<0\/(i7 v).1<=bM),e40,LG,vA r2,jv,Mu,ld3 (br _),bq,am];exact⟨rfl,iP.put (by omega) _⟩
 have hvz:(eR v).2=0:=by
  unfold i7 at he;split at he
  ·assumption
  ·exact he
 have px:(i7 v).1=dv v.az:=by unfold i7;rw[ax hvz]
 obtain⟨hg,-⟩:=eD hvz;obtain⟨r,W3,q1,q2,q3⟩:=sx (hs.mono iP) hg;have mq:=pY hg;have gY:bM.toNat<(iG v.az).length:=by omega
 obtain⟨b,o,p1,p2⟩:=q3.get gY;obtain⟨-,-,p5⟩:=p2 W3 (.refl _);have Wg:=λW'=>p1 W' .i64
 rw[Int.toNat_of_nonneg (by omega)]at Wg;have cP:aF W3 W1.next=some [.af 0,.af 0,.af 0]:=by rw[q2.aF (by omega)];exact r2
 simp only[SX,bu t1,bu t2,ay (λh=>h.elim t1 t2:¬(bM<0\/(i7 v).1<=bM)),c4 _ l2,q1,Wg,p5,vA cP,jv,Mu,ld3 (br _),bq,am];exact⟨by rw[mS,dm gY];rfl,(iP.trans q2).put (by omega) _⟩
def FY{v:cT}{sv:ae}{W:AW}{bM:Int}(hs:jc W sv v.az)(hv:v.az.length<1000)(hr:∀s∈v.az,s.rows.length<1000):bl (.func (.func 108) #[] #[]) [gW v sv,.af bM] W=some (.tuple #[.af (fz v bM).1,.af (fz v bM).2],W):=by
 refine bS rfl ?_ AC;unfold ym fz;obtain⟨W1,hB,bi,hn,c4,c0,c3⟩:=fP v sv W;obtain⟨W3,b3,n3,l3,r3⟩:=Gp W1;have LZ:=bi.next;simp only[SX,hB,b3,c4 _ (.refl _),yr (hs.mono bi) hv hr,vA r3];have hpe:(bF v bM).2=(eW v bM).2:=by
  unfold bF;by_cases he:(eW v bM).2=0
  ·rw[ax he,he]
  ·rw[ay he]
 rw[hpe];by_cases he:(eW v bM).2=0;case neg=>simp only[SX,he,bG,am];exact⟨aB,(bi.trans l3).put (by omega) _⟩
 obtain⟨h1,h2,h3,h4,h5⟩:=uk he;obtain⟨k1,k2,k3,k4,k5,-,-⟩:=zG (eD h1).1 h2;have Kx:=iW h1;have ea:∀W',aw Tryz.prog .rem 3 false false (.af bM) (.af v.sh) W'=some (.af (bM % v.sh),W'):=λW'=>by rw[vB (by omega),zU (by omega)]
 simp only[SX,aY he,ax he,aK,c0 _ (l3.put (aS _) _),ea,am];exact⟨aB,(bi.trans l3).put (by omega) _⟩
def mI{v:cT}{sv:ae}{W:AW}{sec:Int}(hs:jc W sv v.az)(hv:v.az.length<1000)(hr:∀s∈v.az,s.rows.length<1000):bl (.func (.func 105) #[] #[]) [gW v sv,.af sec] W=some (.tuple #[.af (dY v sec).1,.af (dY v sec).2],W):=by
 refine bS rfl ?_ C3;unfold BT dY;obtain⟨W1,hB,bi,hn,c4,c0,c3⟩:=fP v sv W;simp only[SX,hB,c4 _ (.refl _),Gz (hs.mono bi) hv hr,Rg];by_cases he:(tl v sec).2.2=0;case neg=>simp only[SX,he,bG,am];exact⟨aB,bi⟩
 obtain⟨h1,h2,h3,-⟩:=pk he;have Kx:=iW h1;have ea:∀W',aw Tryz.prog .add 3 false false (.af v.sh) (.af sec) W'=some (.af (v.sh+sec),W'):=λW'=>cY (by omega) (by omega)
 simp only[SX,aY he,ax he,aK,c0 _ (.refl _),ea,am];exact⟨aB,bi⟩
def BU(sh fi:Int)(m:Nat)(s:Nat):Bool:=(List.range m).any λ(i:Nat)=>decide ((fi+(i:Int)) % sh=(s:Int))
def NH(sh fi:Int)(m s:Nat):BU sh fi (m+1) s=(BU sh fi m s||decide ((fi+(m:Int)) % sh=(s:Int))):=by simp[BU,mL]
def jM(sh fi:Int)(m:Nat)(k:Nat):List Int:=((List.range k).filter (BU sh fi m)).map λ(s:Nat)=>(s:Int)
def Hr(sh fi:Int)(m k:Nat):jM sh fi m (k+1)=if BU sh fi m k=true then jM sh fi m k++[(k:Int)]else jM sh fi m k:=by
 unfold jM;rw[mL];cases h:BU sh fi m k with
 |true=>rw[g9 h,ax rfl,pL];rfl
 |false=>rw[nc h,ay (by simp)]
def Kt(sh fi:Int)(m k:Nat):(jM sh fi m k).length<=k:=by unfold jM;rw[ox];have:=List.length_filter_le (BU sh fi m) (List.range k);rwa [pP]at this
def Uu{sh fi:Int}{m:Nat}(Kx:1<=sh)(hfi:0<=fi):jM sh fi m sh.toNat=jk (tU sh fi (min (m:Int) sh).toNat):=by
 have hp:(jM sh fi m sh.toNat).Pairwise λa b=>a<b:=by unfold jM;rw[List.pairwise_map];exact(List.pairwise_lt_range.filter _).imp λh=>by omega
 have hn1:(jM sh fi m sh.toNat).Nodup:=hp.imp λh=>by omega
 have hn2:(tU sh fi (min (m:Int) sh).toNat).Nodup:=by unfold tU List.Nodup;rw[List.pairwise_map];refine List.Pairwise.imp_of_mem ?_ (List.pairwise_lt_range (n:=(min (m:Int) sh).toNat));intro i j hi hj hij he;rw[nM]at hi hj;have h1:=Int.emod_emod_of_dvd (fi+(j:Int)) (Int.dvd_refl sh);have h2:=(Int.emod_eq_emod_iff_emod_sub_eq_zero).1 he.symm;rw[show fi+(j:Int)-(fi+(i:Int))=(j:Int)-i by omega,Int.emod_eq_of_lt (by omega) (by omega)]at h2;omega
 have abE:(tU sh fi (min (m:Int) sh).toNat).Perm (jM sh fi m sh.toNat):=by
  rw[List.perm_ext_iff_of_nodup hn2 hn1];intro a;unfold tU jM BU;simp only[mC,nM,lJ,sL,lP];constructor
  ·rintro⟨i,hi,rfl⟩;have h1:=Int.emod_nonneg (fi+(i:Int)) (by omega:sh≠0);have h2:=zY (fi+(i:Int)) (by omega:0<sh);exact⟨((fi+(i:Int)) % sh).toNat,⟨by omega,i,by omega,by omega⟩,by omega⟩
  ·rintro⟨s,⟨hs,i,hi,he⟩,rfl⟩;by_cases hc:(m:Int)<=sh
   ·exact⟨i,by omega,he⟩
   ·have h1:=Int.emod_nonneg (i:Int) (by omega:sh≠0);have h2:=zY (i:Int) (by omega:0<sh);refine⟨((i:Int) % sh).toNat,by omega,?_⟩;rw[Int.toNat_of_nonneg h1,Int.add_emod_emod];exact he
 refine List.Perm.eq_of_pairwise (le:=λa b=>a<=b) (λa b _ _ h1 h2=>by omega) (hp.imp λh=>by omega) ?_ (abE.symm.trans (List.mergeSort_perm _ _).symm);refine(List.pairwise_mergeSort (le:=λx y:Int=>decide (x<=y)) ?_ ?_ _).imp λh=>si h
 ·intro a b c h1 h2;have:=si h1;have:=si h2;exact pd
 ·intro a b;by_cases h:a<=b
  ·rw[aY h];rfl
  ·rw[aY (show b<=a by omega),sM]
def Hq{v:cT}{sv:ae}{W:AW}{sec:Int}(hs:jc W sv v.az)(hv:v.az.length<1000)(hr:∀s∈v.az,s.rows.length<1000):∃u W2,bl (.func (.func 106) #[] #[]) [gW v sv,.af sec] W=some (.tuple #[u,.af (gO v sec).2],W2)/\Le W W2/\oZ W2 u (gO v sec).1:=by
 refine vG ?_ Cf;unfold yw gO;obtain⟨W1,hB,bi,hn,c4,c0,c3⟩:=fP v sv W;have LZ:=bi.next;simp only[SX,hB,c4 _ (.refl _),Gz (hs.mono bi) hv hr,Rg];by_cases he:(tl v sec).2.2=0;case neg=>simp only[SX,he,bG,am];exact⟨_,rfl,bi,Row.nil⟩
 obtain⟨h1,h2,h3,-⟩:=pk he;obtain⟨b1,b2,b3,b4⟩:=Dz he;have Kx:=iW h1;generalize hfm:tl v sec=fm at *;obtain⟨fi,ma,er⟩:=fm;simp only at he b1 b2 b3 b4|-;subst he;obtain⟨m,rfl⟩:∃m:Nat,ma=(m:Int):=⟨ma.toNat,by omega⟩;simp only[SX,bk];rw[<-Uu Kx.1 b1];have j8:∀(k:Int) (W':AW),0<=k->k<1000000->aw Tryz.prog .add 3 false true (.af k) (.af 1) W'=some (.af (k+1),W'):=λk W' _ hk=>cY (by omega) (by omega)
 have efm:∀W',aw Tryz.prog .add 3 false false (.af fi) (.af (m:Int)) W'=some (.af (fi+(m:Int)),W'):=λW'=>cY (by omega) (by omega)
 refine cx v.sh.toNat (by omega) (λk R W'=>Le W1 W'/\R 2=.pointer (some ⟨W.next,0,none⟩)/\R 6=.af fi/\R 7=.af (m:Int)/\R 10=.af (k:Int)/\∃u,R 9=u/\ns W1.next W' 1 ka u (jM v.sh fi m k))
  (λr=>Le W1 r.2.2/\r.1=.exit 0/\∃u,r.2.1 9=u/\ns W1.next r.2.2 1 ka u (jM v.sh fi m v.sh.toNat)) ⟨.refl _,rfl,rfl,rfl,rfl,_,rfl,.nil _ _ _ _⟩ ?_ ?_ ?_
 ·rintro k R W' hk ⟨hl,f2,f6,f7,wl,u,f9,hL⟩;unfold nh;have e1:((k:Int)<v.sh):=by omega
  have hkl:=Kt v.sh fi m k;have e2:(k:Int)+1=((k+1:Nat):Int):=by omega
  simp only[SX,f2,f6,wl,aK,c0 _ hl,e1];refine cx m (by omega) (λj R W2=>W2=W'/\R 2=.pointer (some ⟨W.next,0,none⟩)/\R 6=.af fi/\R 7=.af (m:Int)/\R 10=.af (k:Int)/\R 9=u/\R 11=.bool (BU v.sh fi j k)/\R 12=.af (fi+(j:Int)))
   (λr=>r.1=.exit 2/\r.2.2=W'/\r.2.1 2=.pointer (some ⟨W.next,0,none⟩)/\r.2.1 6=.af fi/\r.2.1 7=.af (m:Int)/\r.2.1 10=.af (k:Int)/\r.2.1 9=u/\r.2.1 11=.bool (BU v.sh fi m k)) ⟨rfl,f2,f6,f7,wl,f9,rfl,by show Value.int .i64 fi=_;congr 1;omega⟩ ?_ ?_ ?_
  ·rintro j R W2 hj ⟨rfl,f2,f6,f7,wl,f9,wJ,OW⟩;unfold js;have e3:(fi+(j:Int)<fi+(m:Int)):=by omega
   have er:∀W',aw Tryz.prog .rem 3 false false (.af (fi+(j:Int))) (.af v.sh) W'=some (.af ((fi+(j:Int)) % v.sh),W'):=λW'=>by rw[vB (by omega),zU (by omega)]
   have e4:fi+(j:Int)+1=fi+((j+1:Nat):Int):=by omega
   have hh:=NH v.sh fi j k;simp only[SX,f2,f6,f7,wl,OW,efm,e3,aK,c0 _ hl,er];by_cases t:(fi+(j:Int)) % v.sh=(k:Int)
   ·rw[aY t,sM]at hh;simp only[SX,aY t,j8 (fi+(j:Int)) _ (by omega) (by omega),am];exact .inl ⟨aB,aB,f2,f6,f7,wl,f9,by rw[hh];rfl,by rw[<-e4];rfl⟩
   ·rw[bu t,Bool.or_false]at hh;simp only[SX,bu t,j8 (fi+(j:Int)) _ (by omega) (by omega),am];exact .inl ⟨aB,aB,f2,f6,f7,wl,f9,by rw[hh];exact wJ,by rw[<-e4];rfl⟩
  ·rintro R W2 ⟨rfl,f2,f6,f7,wl,f9,wJ,OW⟩;unfold js;have e3:¬(fi+(m:Int)<fi+(m:Int)):=by omega
   simp only[SX,f6,f7,OW,efm,e3,am];exact⟨by simp,aB,aB,f2,f6,f7,wl,f9,wJ⟩
  ·rintro⟨x,R,W2⟩ ⟨hx,hW,f2,f6,f7,wl,f9,wJ⟩;simp only at hx hW f2 f6 f7 wl f9 wJ;subst hx;subst hW;have hc:=Hr v.sh fi m k;simp only[SX,wJ];cases hb:BU v.sh fi m k
   ·rw[hb,ay (by simp)]at hc;simp only[SX,wl,j8 (k:Int) _ (by omega) (by omega),am];exact .inl ⟨aB,hl,f2,f6,f7,by rw[<-e2];rfl,u,f9,by rw[hc];exact hL⟩
   ·rw[hb,ax rfl]at hc;have Nx:=hL.mono ((Le.refl W2).add (.cells [.af (k:Int)]));obtain⟨v',W3,q1,q2,q3,q4⟩:=ns.push (P:=Tryz.prog) (a:=(k:Int)) (b:=W2.next) (c:=1) Ic ss uZ Nx bp (by omega) (by omega) (by rw[AW.aL];have:=hl.next;omega);simp only[SX,f9,wl,Bv,q1,j8 (k:Int) _ (by omega) (by omega),am];exact .inl ⟨aB,q4 _ (hl.add _) (aS _),f2,f6,f7,by rw[<-e2];rfl,_,rfl,by rw[hc];exact q2⟩
 ·rintro R W' ⟨hl,f2,f6,f7,wl,u,f9,hL⟩;unfold nh;have e1:¬((v.sh.toNat:Int)<v.sh):=by omega
  simp only[SX,f2,wl,aK,c0 _ hl,e1,am];exact⟨by simp,hl,aB,u,f9,hL⟩
 ·rintro⟨x,R,W'⟩ ⟨hl,hx,u,f9,hL⟩;simp only at hl hx f9 hL;subst hx;simp only[SX,f9,am];exact⟨_,rfl,bi.trans hl,hL.ints⟩
def g27:Tryz.prog.eqGuardType Tryz.prog.depth 41=false:=by kernel_rfl
def pI(r:Option Bool):List (Int×Int)->Option Bool
 |[]=>r
 |p::l=>match some (p.1==p.2)with
  |some true=>pI r l
  |some false=>some false
  |none=>none
def mA(b:Bool):∀l:List (Int×Int),pI (some b) l=some ((l.all λp=>p.1==p.2)&&b)
 |[]=>rfl
 |p::l=>by
  unfold pI;cases h:p.1==p.2 with
  |true=>simp only[eP,h,je];exact mA b l
  |false=>simp only[eP,h,jB]
def q27(k ow un se sc n to t1 t2 t3 t4 nw k' Y9 Xu ZN YS n' Xn JP LQ Te Tg Tn:Int):xU Tryz.prog 8 41 (.agg (eQ k ow un se sc n to t1 t2 t3 t4 nw)) (.agg (eQ k' Y9 Xu ZN YS n' Xn JP LQ Te Tg Tn))=
 pI (match ke [(t1,JP),(t2,LQ),(t3,Te),(t4,Tg)]with|some true=>ke [(nw,Tn)]|some false=>some false|none=>none) [(k,k'),(ow,Y9),(un,Xu),(se,ZN),(sc,YS),(n,n'),(to,Xn)]:=by kernel_rfl
def aeD(k ow un se sc n to t1 t2 t3 t4 nw k' Y9 Xu ZN YS n' Xn JP LQ Te Tg Tn:Int):Bool:=
 ([(k,k'),(ow,Y9),(un,Xu),(se,ZN),(sc,YS),(n,n'),(to,Xn)]:List (Int×Int)).all (λp=>p.1==p.2)&&(([(t1,JP),(t2,LQ),(t3,Te),(t4,Tg)]:List (Int×Int)).all (λp=>p.1==p.2)&&([(nw,Tn)]:List (Int×Int)).all (λp=>p.1==p.2))
def adP(k ow un se sc n to t1 t2 t3 t4 nw k' Y9 Xu ZN YS n' Xn JP LQ Te Tg Tn:Int)(c d:Bool)(W:AW):
 aw Tryz.prog .neq 41 c d (.agg #[.af k,.int .u32 ow,.af un,.af se,.af sc,.af n,.int .u32 to,.int .u32 t1,.int .u32 t2,.int .u64 t3,.int .u64 t4,.af nw]) (.agg #[.af k',.int .u32 Y9,.af Xu,.af ZN,.af YS,.af n',.int .u32 Xn,.int .u32 JP,.int .u32 LQ,.int .u64 Te,.int .u64 Tg,.af Tn]) W=
  some (.bool (!aeD k ow un se sc n to t1 t2 t3 t4 nw k' Y9 Xu ZN YS n' Xn JP LQ Te Tg Tn),W):=by
 refine gg g27 ((q27 ..).trans ?_);have h:(match ke [(t1,JP),(t2,LQ),(t3,Te),(t4,Tg)]with|some true=>ke [(nw,Tn)]|some false=>some false|none=>none)=some (([(t1,JP),(t2,LQ),(t3,Te),(t4,Tg)]:List (Int×Int)).all (λp=>p.1==p.2)&&([(nw,Tn)]:List (Int×Int)).all (λp=>p.1==p.2)):=by
  rw[jW];cases([(t1,JP),(t2,LQ),(t3,Te),(t4,Tg)]:List (Int×Int)).all (λp=>p.1==p.2)with
  |true=>rw[je];exact jW _
  |false=>rfl
 rw[h,mA];rfl
def e1:∀b0 b1 b2 b3 b4 b5 b6 b7:Bool,CO b0 b1 b2 b3 b4 b5 b6 b7 1=if(b1||(b2||(b3||(b4||(b5||(b6||b7))))))=true then 2 else 0:=by decide+kernel
def e7:∀b0 b1 b2 b3 b4 b5 b6 b7:Bool,CO b0 b1 b2 b3 b4 b5 b6 b7 7=if(b3||(b4||(b5||(b6||b7))))=true then 2 else 0:=by decide+kernel
def e27:∀b0 b1 b2 b3 b4 b5 b6 b7:Bool,CO b0 b1 b2 b3 b4 b5 b6 b7 27=if(b2||(b5||(b6||b7)))=true then 2 else 0:=by decide+kernel
def e99:∀b0 b1 b2 b3 b4 b5 b6 b7:Bool,CO b0 b1 b2 b3 b4 b5 b6 b7 99=if(b2||(b3||(b4||b7)))=true then 2 else 0:=by decide+kernel
def e67:∀b0 b1 b2 b3 b4 b5 b6 b7:Bool,CO b0 b1 b2 b3 b4 b5 b6 b7 67=if(b2||(b3||(b4||(b5||b7))))=true then 2 else 0:=by decide+kernel
def e64:∀b0 b1 b2 b3 b4 b5 b6 b7:Bool,CO b0 b1 b2 b3 b4 b5 b6 b7 64=if(b0||(b1||(b2||(b3||(b4||(b5||b7))))))=true then 2 else 0:=by decide+kernel
def e11:∀b0 b1 b2 b3 b4 b5 b6 b7:Bool,CO b0 b1 b2 b3 b4 b5 b6 b7 11=if(b2||(b4||(b5||(b6||b7))))=true then 2 else 0:=by decide+kernel
def agU:∀b0 b1 b2 b3 b4 b5 b6 b7:Bool,CO b0 b1 b2 b3 b4 b5 b6 b7 128=if(b0||(b1||(b2||(b3||(b4||(b5||b6))))))=true then 2 else 0:=by decide+kernel
def aep(W:AW):bc Tryz.prog 41 W=some (.pointer (some ⟨W.next,0,none⟩),W.add (.cells [.af 0,.int .u32 0,.af 0,.af 0,.af 0,.af 0,.int .u32 0,.int .u32 0,.int .u32 0,.int .u64 0,.int .u64 0,.af 0])):=aH (by kernel_rfl) rfl
def ade(k:Int)(W:AW):bH Tryz.prog 41 [(0,.af k)] W=some (.agg #[.af k,.int .u32 0,.af 0,.af 0,.af 0,.af 0,.int .u32 0,.int .u32 0,.int .u32 0,.int .u64 0,.int .u64 0,.af 0],W):=aH (by kernel_rfl) rfl
def acE{ρ:Type}{c:Bool}{a b:ρ}{G:ρ->Prop}(h1:c=false->G a)(h2:c=true->G b):Ok (aU (!c) (some a) (some b)) G:=by
 cases c with
 |false=>exact am.2 (h1 rfl)
 |true=>exact am.2 (h2 rfl)
def IJ(k ow un se sc n to t1 t2 t3 t4 nw:Int)(W:AW):Ok (nI bl (.agg (eQ k ow un se sc n to t1 t2 t3 t4 nw)) W) λr=>r.1=.af (py k ow un se sc n to t1 t2 t3 t4 nw)/\Le W r.2:=by
 by_cases hk:k<1\/12<k
 ·have h1:∀m:Int,1<=m/\m<=12->decide (k=m)=false:=λm h1=>fF
  unfold nI eQ;simp(maxDischargeDepth:=9) only[SX,MX,HX,Nat.reduceAdd,Nat.reduceLeDiff,Nat.reduceLT,aep,ade,dn,jP,fR,h1 1 (by decide),h1 2 (by decide),h1 3 (by decide),h1 4 (by decide),h1 5 (by decide),h1 6 (by decide),h1 7 (by decide),h1 8 (by decide),h1 9 (by decide),h1 10 (by decide),h1 11 (by decide),h1 12 (by decide)];unfold py;rw[ax hk]
 obtain rfl|rfl|rfl|rfl|rfl|rfl|rfl|rfl|rfl|rfl|rfl|rfl:k=1\/k=2\/k=3\/k=4\/k=5\/k=6\/k=7\/k=8\/k=9\/k=10\/k=11\/k=12:=by omega
 all_goals
  unfold nI eQ py F0
  simp(maxDischargeDepth:=9) only[SX,MX,HX,Nat.reduceAdd,Nat.reduceLeDiff,Nat.reduceLT,aep,ade,adP,fN,Int.reduceEq,dn,jP,fR]
  refine acE (λhb=>?_) (λhb=>?_)
  all_goals
   refine⟨cI (Value.int .i64) ?_,by simp(maxDischargeDepth:=9) only[HX]⟩
   rw[bZ]
   simp only[I5,Int.reduceToNat,List.getD_cons_succ,List.getD_cons_zero,e1,e7,e11,e27,e64,e67,e99,agU]
   unfold aeD at hb
   simp only[eP,md,lO,ls,bB,kH,rK,zX,Bool.and_eq_false_iff,beq_eq_false_iff_ne,true_and,and_true,ne_eq,sW,false_or,or_false]at hb|-
   split<;>first|rfl|(exfalso;omega)
def yk(k ow un se sc n to t1 t2 t3 t4 nw:Int)(W:AW):bl (.func (.func 79) #[] #[]) [.agg (eQ k ow un se sc n to t1 t2 t3 t4 nw)] W=some (.af (py k ow un se sc n to t1 t2 t3 t4 nw),W):=
 bS rfl (IJ k ow un se sc n to t1 t2 t3 t4 nw W) BR
def IL(k se sc t1 e:Int):Int×Int×Int:=
 if e≠0 then(0,0,e)else if k=2\/k=4\/k=5\/k=8 then(se,-1,0)else if k=6\/k=7\/k=9 then(IntKind.i64.wrap t1,-1,0)else if k=3\/k=10\/k=11 then(-1,sc,0)else(-1,-1,0)
def UM(x:Int×Int×Int):ae:=.tuple #[.af x.1,.af x.2.1,.af x.2.2]
def Ly(n:Int)(W:AW):Dv Tryz.prog 36 3 (.int .u32 n) W=some (.af (IntKind.i64.wrap n),W):=aH (by kernel_rfl) rfl
def lE(a b:Int):Int:=IntKind.i64.wrap ↑(BitVec.ofInt IntKind.i64.bits a&&&BitVec.ofInt IntKind.i64.bits b).toNat
def Og{t:ai}{c d:Bool}{a b:Int}{W:AW}:aw Tryz.prog .and t c d (.af a) (.af b) W=some (.af (lE a b),W):=Sc
def adk:lE 1 4=0/\lE 1 64=0/\lE 1 8=0/\lE 7 4=4/\lE 7 64=0/\lE 7 8=0/\lE 11 4=0/\lE 11 64=0/\lE 11 8=8/\lE 27 4=0/\lE 27 64=0/\lE 27 8=8/\lE 64 4=0/\lE 64 64=64/\lE 64 8=0/\lE 67 4=0/\lE 67 64=64/\lE 67 8=0/\lE 99 4=0/\lE 99 64=64/\lE 99 8=0/\lE 128 4=0/\lE 128 64=0/\lE 128 8=0:=by decide+kernel
def AO(k:Int):k=1\/k=2\/k=3\/k=4\/k=5\/k=6\/k=7\/k=8\/k=9\/k=10\/k=11\/k=12\/k<1\/12<k:=by omega
def K3{k ow un se sc n to t1 t2 t3 t4 nw:Int}(hk:k<1\/12<k):py k ow un se sc n to t1 t2 t3 t4 nw=2:=ax hk
def CN(k ow un se sc n to t1 t2 t3 t4 nw:Int){W:AW}(hG:GW W):bl (.func (.func 66) #[] #[]) [.agg (eQ k ow un se sc n to t1 t2 t3 t4 nw)] W=some (UM (IL k se sc t1 (py k ow un se sc n to t1 t2 t3 t4 nw)),W):=by
 refine bS rfl ?_ zy;have hP:∀o,bl (.func (.func 75) #[] #[]) [.agg (eQ k ow un se sc n to t1 t2 t3 t4 nw)] (W.add o)=some (.af (py k ow un se sc n to t1 t2 t3 t4 nw),W.add o):=λo=>vd k ow un se sc n to t1 t2 t3 t4 nw (hG.mono ((Le.refl W).add o))
 have hU:∀o,aI (W.add o) 0=some pp:=λo=>GW.cells (hG.mono ((Le.refl W).add o))
 have hp:=hG.pos;have ix:∀(i:Int) (U:AW),0<=i/\i<13->EI 13 1 (.pointer (some ⟨0,0,none⟩)) (.af i) U=some (.pointer (some ⟨0,i.toNat,none⟩),U):=λi U hi=>by have:=LD (len:=13) (z:=1) (b:=0) (o:=0) (n:=i) (k:=.i64) (W:=U) hi.1 (by omega);simpa using this
 have h0:¬(0=W.next):=by omega
 have hUW:=hG.cells;unfold eQ at hP;unfold vt eQ IL;by_cases he:py k ow un se sc n to t1 t2 t3 t4 nw=0;case neg=>have d:=bu he;simp(maxDischargeDepth:=9) only[SX,MX,HX,Nat.reduceAdd,hP,d,ax he];rfl
 obtain rfl|rfl|rfl|rfl|rfl|rfl|rfl|rfl|rfl|rfl|rfl|rfl|h:=AO k;rotate_right
 ·rw[K3 h]at he;cases he
 all_goals
  simp(maxDischargeDepth:=9) only[SX,MX,HX,Nat.reduceAdd,hP,he,ix,hU,pp,I5,i6,mY,Og,Int.reduceToNat,Int.reduceLT,Int.reduceLE,Int.reduceEq,adk,Ly]
  simp[UM]
def Eh(k ow un se sc n to t1 t2 t3 t4 nw:Int)(W:AW):bl (.func (.func 104) #[] #[]) [.agg (eQ k ow un se sc n to t1 t2 t3 t4 nw)] W=some (UM (IL k se sc t1 (py k ow un se sc n to t1 t2 t3 t4 nw)),W):=by
 refine bS rfl ?_ zq;have hP:∀o,bl (.func (.func 79) #[] #[]) [.agg (eQ k ow un se sc n to t1 t2 t3 t4 nw)] (W.add o)=some (.af (py k ow un se sc n to t1 t2 t3 t4 nw),W.add o):=λo=>yk k ow un se sc n to t1 t2 t3 t4 nw (W.add o)
 unfold eQ at hP;unfold uR eQ IL;by_cases he:py k ow un se sc n to t1 t2 t3 t4 nw=0;case neg=>have d:=bu he;simp(maxDischargeDepth:=9) only[SX,MX,HX,Nat.reduceAdd,hP,d,ax he];rfl
 obtain rfl|rfl|rfl|rfl|rfl|rfl|rfl|rfl|rfl|rfl|rfl|rfl|h:=AO k;rotate_right
 ·rw[K3 h]at he;cases he
 all_goals
  simp(maxDischargeDepth:=9) only[SX,MX,HX,Nat.reduceAdd,hP,he,Int.reduceEq,Ly,iT,iV,gD]
  simp[UM]
structure pV where
 k:Int
 ow:Int
 un:Int
 se:Int
 sc:Int
 n:Int
 to:Int
 t1:Int
 t2:Int
 t3:Int
 t4:Int
 nw:Int
abbrev yb(o:pV):ae:=.agg (eQ o.k o.ow o.un o.se o.sc o.n o.to o.t1 o.t2 o.t3 o.t4 o.nw)
def i8(o:pV):Int×Int×Int:=IL o.k o.se o.sc o.t1 (py o.k o.ow o.un o.se o.sc o.n o.to o.t1 o.t2 o.t3 o.t4 o.nw)
def Iw{k ow un se sc n to t1 t2 t3 t4 nw:Int}(h:py k ow un se sc n to t1 t2 t3 t4 nw=0):1<=k/\k<=12:=by
 unfold py at h;split at h
 ·exact absurd h (by decide)
 ·omega
def BL{o:pV}(h:(i8 o).2.2=0):1<=o.k/\o.k<=12:=by
 have he:py o.k o.ow o.un o.se o.sc o.n o.to o.t1 o.t2 o.t3 o.t4 o.nw=0:=by
  unfold i8 IL at h;split at h
  ·exact h
  ·rename_i h2;exact zM.1 h2
 exact Iw he
def Kc(o:pV){W:AW}(h:GW W):bl (.func (.func 66) #[] #[]) [yb o] W=some (.tuple #[.af (i8 o).1,.af (i8 o).2.1,.af (i8 o).2.2],W):=CN _ _ _ _ _ _ _ _ _ _ _ _ h
def NA(o:pV)(W:AW):bl (.func (.func 104) #[] #[]) [yb o] W=some (.tuple #[.af (i8 o).1,.af (i8 o).2.1,.af (i8 o).2.2],W):=Eh _ _ _ _ _ _ _ _ _ _ _ _ W
def eZ(v:cT)(k s c:Int):List Int:=
 if k=12 then(List.range (v.sh.toNat+v.az.length)).map λ(i:Nat)=>(i:Int)
 else if k=3 then(gO v c).1
 else if k=4\/k=7\/k=8 then(if(bF v s).2=0 then [(fz v s).1,(dY v ((bF v s).1.1:Int)).1]else [])
 else if k=2\/k=5\/k=6\/k=9 then(if(bF v s).2=0 then [(fz v s).1]else [])
 else if k=10\/k=11 then(if(dY v c).2=0 then [(dY v c).1]else [])
 else []
def cO(v:cT)(o:pV):List Int×Int:=if(eR v).2=0 then(if(i8 o).2.2=0 then(eZ v o.k (i8 o).1 (i8 o).2.1,0)else([],(i8 o).2.2))else([],(eR v).2)
def Gf(o:pV)(W:AW):∃W1,cC (yb o) W=some (.pointer (some ⟨W.next,0,none⟩),W1)/\W1.next=W.next+1/\Le W W1/\(∀W',Le W1 W'->bA 12 (.pointer (some ⟨W.next,0,none⟩)) W'=some (yb o,W'))/\(∀W',Le W1 W'->aJ (.pointer (some ⟨W.next,0,none⟩)) W'=some (.af o.k,W')):=by
 have hc:aI (W.add (.cells (eQ o.k o.ow o.un o.se o.sc o.n o.to o.t1 o.t2 o.t3 o.t4 o.nw).toList)) W.next=some (eQ o.k o.ow o.un o.se o.sc o.n o.to o.t1 o.t2 o.t3 o.t4 o.nw).toList:=bp;have hn:W.next<(W.add (.cells (eQ o.k o.ow o.un o.se o.sc o.n o.to o.t1 o.t2 o.t3 o.t4 o.nw).toList)).next:=by rw[AW.aL];omega
 exact⟨_,iR _,AW.aL _ _,(Le.refl W).add _,λW' k=>kP (by rw[k.aI hn];exact hc) rfl,λW' k=>cU (by rw[k.aI hn];exact hc) rfl⟩
def rj(v:cT)(s:Int):(fz v s).2=(bF v s).2:=by
 unfold fz bF;by_cases he:(eW v s).2=0
 ·rw[ax he,ax he]
 ·rw[ay he,ay he]
def BI(v:cT)(c:Int):(gO v c).2=(dY v c).2:=by
 unfold gO dY;by_cases he:(tl v c).2.2=0
 ·rw[ax he,ax he]
 ·rw[ay he,ay he]
def uD{v:cT}{c:Int}(h:¬(gO v c).2=0):(gO v c).1=[]:=by
 unfold gO at h|-;by_cases he:(tl v c).2.2=0
 ·rw[ax he]at h;exact absurd rfl h
 ·rw[ay he]
def LN:((#[22]:Array ai)[0]?).bind Tryz.prog.underlying=some (.slice 66):=by kernel_rfl
def aez(x:Int)(W:AW):oZ (W.add (.cells [.af x])) (.slice (some ⟨W.next,0,none⟩) 1 (ge+1)) [x]:=wB [x] _ W
def aei(x y:Int)(W:AW):oZ (W.add (.cells [.af x,.af y])) (.slice (some ⟨W.next,0,none⟩) 2 (ge+1)) [x,y]:=wB [x,y] _ W
def K6(x:Int)(W:AW):oZ (W.add (.cells [.af x])) (.slice (some ⟨W.next,0,none⟩) 1 1) [x]:=wB [x] _ W
def PZ(x:Int)(W:AW):aO Tryz.prog (W.add (.cells [.af x])) #[64,64] (.slice none 0 0) (.slice (some ⟨W.next,0,none⟩) 1 1)=some (.slice (some ⟨(W.add (.cells [.af x])).next,0,none⟩) 1 (ge+1),(W.add (.cells [.af x])).add (.cells [.af x])):=
 zR Ic bp rfl rfl (by omega) rfl (by omega) (by omega)
def TP(a:Option Addr)(W:AW):aO Tryz.prog W #[64,64] (.slice a 1 1) (.slice none 0 0)=some (.slice a 1 1,W):=Rj Ic (by omega) (by omega) (by omega)
def Zw(x y:Int){W:AW}{b c:Nat}(h:aI W b=some [.af y])(hb:b<W.next):aO Tryz.prog (W.add (.cells [.af x])) #[64,64] (.slice (some ⟨W.next,0,none⟩) 1 1) (.slice (some ⟨b,0,none⟩) 1 c)=some (.slice (some ⟨(W.add (.cells [.af x])).next,0,none⟩) 2 (ge+1),(W.add (.cells [.af x])).add (.cells [.af x,.af y])):=
 KU (n:=1) (m:=1) (o:=0) Ic (by rw[rQ _ hb];exact h) rfl rfl (by omega) rfl bp rfl (by omega) (by omega) (by omega)
def KF(v:cT)(s c:Int):eZ v 1 s c=[]:=by simp[eZ]
def LH(v:cT)(s c:Int):eZ v 3 s c=(gO v c).1:=by simp[eZ]
def K7(v:cT)(s c:Int):eZ v 4 s c=(if(bF v s).2=0 then [(fz v s).1,(dY v ((bF v s).1.1:Int)).1]else []):=by simp[eZ]
def LO(v:cT)(s c:Int):eZ v 7 s c=(if(bF v s).2=0 then [(fz v s).1,(dY v ((bF v s).1.1:Int)).1]else []):=by simp[eZ]
def Lb(v:cT)(s c:Int):eZ v 8 s c=(if(bF v s).2=0 then [(fz v s).1,(dY v ((bF v s).1.1:Int)).1]else []):=by simp[eZ]
def KI(v:cT)(s c:Int):eZ v 2 s c=(if(bF v s).2=0 then [(fz v s).1]else []):=by simp[eZ]
def LK(v:cT)(s c:Int):eZ v 5 s c=(if(bF v s).2=0 then [(fz v s).1]else []):=by simp[eZ]
def Lk(v:cT)(s c:Int):eZ v 6 s c=(if(bF v s).2=0 then [(fz v s).1]else []):=by simp[eZ]
def Li(v:cT)(s c:Int):eZ v 9 s c=(if(bF v s).2=0 then [(fz v s).1]else []):=by simp[eZ]
def Hf(v:cT)(s c:Int):eZ v 10 s c=(if(dY v c).2=0 then [(dY v c).1]else []):=by simp[eZ]
def H3(v:cT)(s c:Int):eZ v 11 s c=(if(dY v c).2=0 then [(dY v c).1]else []):=by simp[eZ]
def BA(n:Nat):List Int:=(List.range n).map λ(i:Nat)=>(i:Int)
def Dm(n:Nat):BA (n+1)=BA n++[(n:Int)]:=by simp[BA,mL]
def uP(n:Nat):(BA n).length=n:=by simp[BA]
def HA(v:cT)(s c:Int):eZ v 12 s c=BA (v.sh.toNat+v.az.length):=by simp[eZ,BA]
def vS{v:cT}{o:pV}{sv:ae}{W:AW}(hs:eX W sv v.az)(hv:v.az.length<1000)(hG:GW W):
 ∃u W2,bl (.func (.func 101) #[] #[]) [gW v sv,yb o] W=some (.tuple #[u,.af (cO v o).2],W2)/\Le W W2/\oZ W2 u (cO v o).1:=by
 refine vG ?_ BW;unfold yy cO;obtain⟨W1,hB,bi,hn,c4,c0,c3⟩:=fP v sv W;obtain⟨W2,b2,n2,l2,SS,k0⟩:=Gf o W1;have iP:=bi.trans l2;have LZ:=bi.next;have lX:=hs.mono iP;simp only[SX,hB,b2,c4 _ l2,nD lX hv];by_cases he:(eR v).2=0;case neg=>simp only[SX,he,bG,am];exact⟨_,rfl,iP,Row.nil⟩
 simp only[SX,aY he,ax he,SS _ (.refl _),Kc o (hG.mono iP)];by_cases ht:(i8 o).2.2=0;case neg=>simp only[SX,ht,bG,am];exact⟨_,rfl,iP,Row.nil⟩
 have hk:=BL ht;simp only[SX,aY ht,ax ht,aK,k0 _ (.refl _)];clear ht SS k0 b2;generalize(i8 o).1=s,(i8 o).2.1=c,o.k=kk at *;have Ih:kk=1\/kk=3\/kk=12\/(kk=2\/kk=5\/kk=6\/kk=9)\/(kk=4\/kk=7\/kk=8)\/(kk=10\/kk=11):=by omega
 rcases Ih with rfl|rfl|rfl|Ih|Ih|Ih
 ·rw[KF];simp only[SX,Int.reduceEq,am];exact⟨_,rfl,iP,Row.nil⟩
 ·rw[LH];obtain⟨u,W4,q1,q2,q3⟩:=SK (sec:=c) lX hv;simp only[SX,Int.reduceEq,c4 _ l2,q1];by_cases hc:(gO v c).2=0
  ·simp only[SX,aY hc,am];exact⟨_,rfl,iP.trans q2,q3⟩
  ·rw[uD hc];simp only[SX,hc,am];exact⟨_,rfl,iP.trans q2,Row.nil⟩
 ·rw[HA];have Kx:=iW he;have ea:∀W',aw Tryz.prog .add 3 false false (.af v.sh) (.af (v.az.length:Int)) W'=some (.af ((v.sh.toNat+v.az.length:Nat):Int),W'):=λW'=>by rw[cY (by omega) (by omega)];congr 3;omega
  simp only[SX,c0 _ l2,c3 _ l2,lX.1.len LN,ea];generalize hm:v.sh.toNat+v.az.length=m at *;refine cx m (by omega) (λi R W'=>Le W2 W'/\R 63=.af (m:Int)/\R 64=.af (i:Int)/\∃u,R 11=u/\ns W2.next W' 1 ka u (BA i))
   (λr=>Le W2 r.2.2/\r.1=.exit 6/\∃u,r.2.1 11=u/\ns W2.next r.2.2 1 ka u (BA m)) ⟨.refl _,rfl,rfl,_,rfl,.nil _ _ _ _⟩ ?_ ?_ ?_
  ·rintro i R W' hi ⟨hl,f63,f64,u,wJ,hL⟩;unfold mQ;have e1:((i:Int)<(m:Int)):=by omega
   have eb:∀W',aw Tryz.prog .add 3 false true (.af (i:Int)) (.af 1) W'=some (.af ((i+1:Nat):Int),W'):=λW'=>cY (by omega) (by omega)
   have Nx:=hL.mono ((Le.refl W').add (.cells [.af (i:Int)]));obtain⟨v',W3,q1,q2,q3,q4⟩:=ns.push (P:=Tryz.prog) (a:=(i:Int)) (b:=W'.next) (c:=1) Ic ss uZ Nx bp (by rw[uP];omega) (by rw[uP];omega) (by rw[AW.aL];have:=hl.next;omega);simp only[SX,f63,f64,wJ,e1,Bv,q1,eb,am];exact .inl ⟨aB,q4 _ (hl.add _) (aS _),f63,rfl,_,rfl,by rw[Dm];exact q2⟩
  ·rintro R W' ⟨hl,f63,f64,u,wJ,hL⟩;unfold mQ;have e1:¬((m:Int)<(m:Int)):=by omega
   simp only[SX,f63,f64,e1,am];exact⟨by simp,hl,aB,u,wJ,hL⟩
  ·rintro⟨x,R,W'⟩ ⟨hl,hx,u,wJ,hL⟩;simp only at hl hx wJ hL;subst hx;simp only[SX,wJ,am];exact⟨_,rfl,iP.trans hl,hL.ints⟩
 ·rcases Ih with rfl|rfl|rfl|rfl<;>(
   first|rw[KI]|rw[LK]|rw[Lk]|rw[Li]
   simp only[SX,Int.reduceEq,c4 _ l2,Bx lX hv,rj]
   by_cases hp:(bF v s).2=0
   ·simp only[SX,aY hp,ax hp,Bv,TP,am];exact⟨_,rfl,iP.add _,K6 _ _⟩
   ·simp only[SX,hp,bG,am];exact⟨_,rfl,iP,Row.nil⟩)
 ·obtain⟨W3,b3,n3,l3,r3⟩:=Gp W2;have MA:=l3.put (aS _) (.cells [.af ((bF v s).1.1:Int),.af ((bF v s).1.2.1:Int),.af ((bF v s).1.2.2:Int)]);have rX:=br (W:=W3) (b:=W2.next) [.af ((bF v s).1.1:Int),.af ((bF v s).1.2.1:Int),.af ((bF v s).1.2.2:Int)];have hk4:eZ v kk s c=(if(bF v s).2=0 then [(fz v s).1,(dY v ((bF v s).1.1:Int)).1]else []):=by
   rcases Ih with rfl|rfl|rfl
   ·exact K7 _ _ _
   ·exact LO _ _ _
   ·exact Lb _ _ _
  rw[hk4];rcases Ih with rfl|rfl|rfl<;>(
   simp only[SX,Int.reduceEq,c4 _ l2,SF lX hv,b3,vA r3]
   generalize W3.put W2.next (.cells [.af ((bF v s).1.1:Int),.af ((bF v s).1.2.1:Int),.af ((bF v s).1.2.2:Int)])=X at *
   by_cases hp:(bF v s).2=0
   ·simp only[SX,aY hp,ax hp,c4 _ (l2.trans MA),aK,zj (o:=0) rX rfl,Lp (lX.mono MA) hv,Bv,PZ];have lY:=(MA.add (.cells [.af (dY v ((bF v s).1.1:Int)).1])).add (.cells [.af (dY v ((bF v s).1.1:Int)).1]);have hY:aI ((X.add (.cells [.af (dY v ((bF v s).1.1:Int)).1])).add (.cells [.af (dY v ((bF v s).1.1:Int)).1])) (X.add (.cells [.af (dY v ((bF v s).1.1:Int)).1])).next=some [.af (dY v ((bF v s).1.1:Int)).1]:=bp;have hY2:(X.add (.cells [.af (dY v ((bF v s).1.1:Int)).1])).next<((X.add (.cells [.af (dY v ((bF v s).1.1:Int)).1])).add (.cells [.af (dY v ((bF v s).1.1:Int)).1])).next:=Nat.lt_of_lt_of_eq (Nat.lt_succ_self _) (AW.aL _ _).symm;generalize(X.add (.cells [.af (dY v ((bF v s).1.1:Int)).1])).add (.cells [.af (dY v ((bF v s).1.1:Int)).1])=Y at *;simp only[SX,c4 _ (l2.trans lY),Bx (lX.mono lY) hv,rj,aY hp,Bv,Zw _ _ hY hY2,am];exact⟨_,rfl,((iP.trans lY).add _).add _,aei _ _ _⟩
   ·simp only[SX,hp,bG,c4 _ (l2.trans MA),Bx (lX.mono MA) hv,rj,am];exact⟨_,rfl,iP.trans MA,Row.nil⟩)
 ·rcases Ih with rfl|rfl<;>(
   first|rw[Hf]|rw[H3]
   simp only[SX,Int.reduceEq,c4 _ l2,Lp lX hv]
   by_cases hp:(dY v c).2=0
   ·simp only[SX,aY hp,ax hp,Bv,PZ,am];exact⟨_,rfl,(iP.add _).add _,aez _ _⟩
   ·simp only[SX,hp,bG,am];exact⟨_,rfl,iP,Row.nil⟩)
def Yj(a b:Int)(W:AW):aC Tryz.prog 64 2 [(0,.af a),(1,.af b)] W=some (.slice (some ⟨W.next,0,none⟩) 2 2,W.add (.cells [.af a,.af b])):=aH (by kernel_rfl) rfl
def Um(x y:Int)(W:AW):oZ (W.add (.cells [.af x,.af y])) (.slice (some ⟨W.next,0,none⟩) 2 2) [x,y]:=wB [x,y] _ W
def M9{o:pV}(h:(i8 o).2.2=0):((o.k=3\/o.k=10\/o.k=11)/\(i8 o).1= -1)\/((o.k=1\/o.k=12)/\(i8 o).1= -1/\(i8 o).2.1= -1)\/((o.k=2\/o.k=4\/o.k=5\/o.k=8\/o.k=6\/o.k=7\/o.k=9)/\(i8 o).2.1= -1):=by
 have hr:=BL h;unfold i8 IL at h|-;split at h
 ·rename_i h2;exact absurd h h2
 rename_i h2;rw[ay h2];split
 ·exact .inr (.inr ⟨by omega,rfl⟩)
 split
 ·exact .inr (.inr ⟨by omega,rfl⟩)
 split
 ·exact .inl ⟨by omega,rfl⟩
 ·exact .inr (.inl ⟨by omega,rfl,rfl⟩)
def Gd{v:cT}{o:pV}{sv:ae}{W:AW}(hs:jc W sv v.az)(hv:v.az.length<1000)(hr:∀s∈v.az,s.rows.length<1000):
 ∃u W2,bl (.func (.func 80) #[] #[]) [gW v sv,yb o] W=some (.tuple #[u,.af (cO v o).2],W2)/\Le W W2/\oZ W2 u (cO v o).1:=by
 refine vG ?_ Cc;unfold yq cO;obtain⟨W1,hB,bi,hn,c4,c0,c3⟩:=fP v sv W;obtain⟨W2,b2,n2,l2,SS,k0⟩:=Gf o W1;have iP:=bi.trans l2;have LZ:=bi.next;have lX:=hs.mono iP;simp only[SX,hB,b2,c4 _ l2,te lX hv hr];by_cases he:(eR v).2=0;case neg=>simp only[SX,he,bG,am];exact⟨_,rfl,iP,Row.nil⟩
 simp only[SX,aY he,ax he,SS _ (.refl _),NA o];by_cases ht:(i8 o).2.2=0;case neg=>simp only[SX,ht,bG,am];exact⟨_,rfl,iP,Row.nil⟩
 have hk:=M9 ht;simp only[SX,aY ht,ax ht,aK,k0 _ (.refl _)];clear ht SS b2;generalize(i8 o).1=s,(i8 o).2.1=c,o.k=kk at *;have k0':∀W',Le W2 W'->aJ (.pointer (some ⟨W1.next,0,none⟩)) W'=some (.af kk,W'):=k0;clear k0;rcases hk with⟨Ih,rfl⟩|⟨Ih,rfl,rfl⟩|⟨Ih,rfl⟩
 ·
  have ge1:¬((0:Int)<= -1):=by decide
  rcases Ih with rfl|Ih
  ·rw[LH];obtain⟨u,W4,q1,q2,q3⟩:=Hq (sec:=c) lX hv hr;by_cases UF:0<=c
   ·simp only[SX,Int.reduceEq,k0' _ (.refl _),aY UF,c4 _ l2,mI lX hv hr,<-BI];by_cases hc:(gO v c).2=0
    ·simp only[SX,q1,hc,am];exact⟨_,rfl,iP.trans q2,q3⟩
    ·rw[uD hc];simp only[SX,hc,am];exact⟨_,rfl,iP,Row.nil⟩
   ·simp only[SX,Int.reduceEq,k0' _ (.refl _),bu UF,c4 _ l2,mI lX hv hr,<-BI];by_cases hc:(gO v c).2=0
    ·simp only[SX,q1,hc,am];exact⟨_,rfl,iP.trans q2,q3⟩
    ·rw[uD hc];simp only[SX,hc,am];exact⟨_,rfl,iP,Row.nil⟩
  ·rcases Ih with rfl|rfl<;>(
    first|rw[Hf]|rw[H3]
    by_cases UF:0<=c
    ·simp only[SX,Int.reduceEq,k0' _ (.refl _),aY UF,c4 _ l2,mI lX hv hr];by_cases hp:(dY v c).2=0
     ·simp only[SX,aY hp,ax hp,Bv,am];exact⟨_,rfl,iP.add _,K6 _ _⟩
     ·simp only[SX,hp,bG,am];exact⟨_,rfl,iP,Row.nil⟩
    ·simp only[SX,Int.reduceEq,k0' _ (.refl _),bu UF,c4 _ l2,mI lX hv hr];by_cases hp:(dY v c).2=0
     ·simp only[SX,aY hp,ax hp,Bv,am];exact⟨_,rfl,iP.add _,K6 _ _⟩
     ·simp only[SX,hp,bG,am];exact⟨_,rfl,iP,Row.nil⟩)
 ·rcases Ih with rfl|rfl
  ·rw[KF];simp only[SX,Int.reduceEq,am];exact⟨_,rfl,iP,Row.nil⟩
  ·rw[HA];have Kx:=iW he;have ea:∀W',aw Tryz.prog .add 3 false false (.af v.sh) (.af (v.az.length:Int)) W'=some (.af ((v.sh.toNat+v.az.length:Nat):Int),W'):=λW'=>by rw[cY (by omega) (by omega)];congr 3;omega
   simp only[SX];refine cx (v.sh.toNat+v.az.length) (by omega) (λi R W'=>Le W2 W'/\R 2=.pointer (some ⟨W.next,0,none⟩)/\R 11=.af (i:Int)/\∃u,R 10=u/\ns W2.next W' 1 ka u (BA i))
    (λr=>Le W2 r.2.2/\r.1=.exit 0/\∃u,r.2.1 10=u/\ns W2.next r.2.2 1 ka u (BA (v.sh.toNat+v.az.length))) ⟨.refl _,rfl,rfl,_,rfl,.nil _ _ _ _⟩ ?_ ?_ ?_
   ·rintro i R W' hi ⟨hl,f2,wJ,u,wl,hL⟩;unfold mN;have e1:((i:Int)<((v.sh.toNat+v.az.length:Nat):Int)):=by omega
    have eb:∀W',aw Tryz.prog .add 3 false true (.af (i:Int)) (.af 1) W'=some (.af ((i+1:Nat):Int),W'):=λW'=>cY (by omega) (by omega)
    have Nx:=hL.mono ((Le.refl W').add (.cells [.af (i:Int)]));obtain⟨v',W3,q1,q2,q3,q4⟩:=ns.push (P:=Tryz.prog) (a:=(i:Int)) (b:=W'.next) (c:=1) Ic ss uZ Nx bp (by rw[uP];omega) (by rw[uP];omega) (by rw[AW.aL];have:=hl.next;omega);simp only[SX,f2,wJ,wl,aK,c0 _ (l2.trans hl),c3 _ (l2.trans hl),(lX.mono hl).len LN,ea,e1,Bv,q1,eb,am];exact .inl ⟨aB,q4 _ (hl.add _) (aS _),f2,rfl,_,rfl,by rw[Dm];exact q2⟩
   ·rintro R W' ⟨hl,f2,wJ,u,wl,hL⟩;unfold mN;have e1:¬(((v.sh.toNat+v.az.length:Nat):Int)<((v.sh.toNat+v.az.length:Nat):Int)):=by omega
    simp only[SX,f2,wJ,aK,c0 _ (l2.trans hl),c3 _ (l2.trans hl),(lX.mono hl).len LN,ea,e1,am];exact⟨by simp,hl,aB,u,wl,hL⟩
   ·rintro⟨x,R,W'⟩ ⟨hl,hx,u,wl,hL⟩;simp only at hl hx wl hL;subst hx;simp only[SX,wl,am];exact⟨_,rfl,iP.trans hl,hL.ints⟩
 ·
  have ge1:¬((0:Int)<= -1):=by decide
  obtain⟨W3,b3,n3,l3,r3⟩:=Gp W2;have MA:=l3.put (aS _) (.cells [.af ((bF v s).1.1:Int),.af ((bF v s).1.2.1:Int),.af ((bF v s).1.2.2:Int)]);have rX:=br (W:=W3) (b:=W2.next) [.af ((bF v s).1.1:Int),.af ((bF v s).1.2.1:Int),.af ((bF v s).1.2.2:Int)];rcases Ih with rfl|rfl|rfl|rfl|rfl|rfl|rfl<;>(
   first|rw[KI]|rw[K7]|rw[LK]|rw[Lb]|rw[Lk]|rw[LO]|rw[Li]
   simp only[SX,Int.reduceEq,aK,k0' _ (.refl _),ge1,c4 _ l2,yr lX hv hr,b3,vA r3]
   generalize W3.put W2.next (.cells [.af ((bF v s).1.1:Int),.af ((bF v s).1.2.1:Int),.af ((bF v s).1.2.2:Int)])=X at *
   by_cases hp:(bF v s).2=0
   ·simp only[SX,Int.reduceEq,aY hp,ax hp,k0' _ MA,c4 _ (l2.trans MA),FY (lX.mono MA) hv hr,zj (o:=0) rX rfl,mI (lX.mono MA) hv hr,Bv,Yj,am];exact⟨_,rfl,(iP.trans MA).add _,by first|exact K6 _ _|exact Um _ _ _⟩
   ·simp only[SX,hp,bG,am];exact⟨_,rfl,iP.trans MA,Row.nil⟩)
def Gi:((#[64]:Array ai)[0]?).bind Tryz.prog.underlying=some (.slice 3):=by kernel_rfl
def Oa(v:cT)(he:(eR v).2=0)(k s c:Int):(eZ v k s c).length<=24:=by
 have Kx:=iW he;have hg:=(eD he).1.len;unfold eZ;split
 ·rw[ox,pP];omega
 split
 ·unfold gO;split
  ·rw[sz,su];omega
  ·simp
 split
 ·split<;>simp
 split
 ·split<;>simp
 split
 ·split<;>simp
 ·simp
def pR(v:cT)(o:pV):(cO v o).1.length<=24:=by
 unfold cO;split
 ·rename_i he;split
  ·exact Oa v he _ _ _
  ·simp
 ·simp
def g46:Tryz.prog.eqGuardType Tryz.prog.depth 135=false:=by kernel_rfl
def q46(a b a' b':Int):xU Tryz.prog 8 135 (.agg #[.af a,.af b]) (.agg #[.af a',.af b'])=ke [(a,a'),(b,b')]:=by kernel_rfl
def DO(a b a' b':Int)(c d:Bool)(W:AW):aw Tryz.prog .neq 135 c d (.agg #[.af a,.af b]) (.agg #[.af a',.af b']) W=some (.bool (!(a==a'&&b==b')),W):=by refine gg g46 ((q46 ..).trans ?_);rw[jW];simp
abbrev Fy:=Int×Int
abbrev CS(p:Fy):ae:=.agg #[.af p.1,.af p.2]
def HF(p:Fy):List ae:=[.af p.1,.af p.2]
def VZ(cs:List ae)(p:Nat)(a:Fy):Prop:=cs[p]? =some (.af a.1)/\cs[p+1]? =some (.af a.2)
def vC(p:Fy):(HF p).length=2:=rfl
def Ck(p:Fy):(HF p).all Eng.one=true:=rfl
def TG(a:Fy)(pre post:List ae):VZ (pre++(HF a++post)) pre.length a:=by refine⟨?_,?_⟩<;>(rw[ig (by omega)];simp[HF])
abbrev TS(W:AW)(v:ae)(l:List Fy):Prop:=Row W 2 VZ v l
def WU:lS Tryz.prog #[130,130] 2 16=true:=by kernel_rfl
def Wo:((#[130]:Array ai)[0]?).bind Tryz.prog.underlying=some (.slice 135):=by kernel_rfl
def ID(a b:Int)(W:AW):bH Tryz.prog 135 [(0,.af a),(1,.af b)] W=some (CS (a,b),W):=aH (by kernel_rfl) rfl
def LF(a:Int)(W:AW):bH Tryz.prog 135 [(0,.af a)] W=some (CS (a,0),W):=aH (by kernel_rfl) rfl
def Wm(W:AW):bH Tryz.prog 135 [] W=some (CS (0,0),W):=aH (by kernel_rfl) rfl
def Ze(a b:Int)(W:AW):aC Tryz.prog 130 1 [(0,.agg #[.af a,.af b])] W=some (.slice (some ⟨W.next,0,none⟩) 1 1,W.add (.cells [.af a,.af b])):=aH (by kernel_rfl) rfl
def RP(W:AW):bc Tryz.prog 135 W=some (.pointer (some ⟨W.next,0,none⟩),W.add (.cells [.af 0,.af 0])):=aH (by kernel_rfl) rfl
def WZ(x:ae)(W:AW):iH Tryz.prog 135 x W=bA 2 x W:=by kernel_rfl
def ad0(W:AW):∃W1,bc Tryz.prog 135 W=some (.pointer (some ⟨W.next,0,none⟩),W1)/\W1.next=W.next+1/\Le W W1/\aF W1 W.next=some [.af 0,.af 0]:=⟨_,RP W,AW.aL _ _,(Le.refl W).add _,bQ⟩
def ld2{b:Nat}{x y:ae}{W:AW}(h:aF W b=some [x,y]):bA 2 (.pointer (some ⟨b,0,none⟩)) W=some (.agg #[x,y],W):=kP (fj h) rfl
def Ad{b:Nat}{a c:Int}{x y:ae}{W:AW}(h:aF W b=some [x,y]):bU 2 (.pointer (some ⟨b,0,none⟩)) (.agg #[.af a,.af c]) W=some (ag,W.put b (.cells [.af a,.af c])):=by rw[sY,h,bq,ax ⟨rfl,by simp,by simp[pF]⟩];rfl
def TS.get{W:AW}{v:ae}{l:List Fy}(h:TS W v l){i:Nat}(hi:i<l.length):∃b o,(∀W' k,iY 2 v (.int k (i:Int)) W'=some (.pointer (some ⟨b,o,none⟩),W'))/\∀W',Le W W'->bA 2 (.pointer (some ⟨b,o,none⟩)) W'=some (CS l[i],W'):=by
 obtain⟨a,c,rfl,h⟩:=h;rcases h with rfl|⟨b,o,cs,rfl,hb,hc,oC⟩
 ·simp at hi
 ·refine⟨b,o+i*2,λW' k=>t7 hi,λW' bi=>?_⟩;have oN:=(bi.aI hb).trans hc;obtain⟨h1,h2⟩:=oC i hi;rw[Ay,oN,bq];have:(cs.drop (o+i*2)).take 2=[.af l[i].1,.af l[i].2]:=by
   apply tY;intro j;rw[ks];match j with
   |0=>simpa using h1
   |1=>simpa using h2
   |j+2=>simp;omega
  rw[this];rfl
def eO(l:List Int)(i:Nat):Fy:=if i<l.length then(1,l.getD i 0)else if i=l.length then(2,0)else(3,l.getD (2*l.length-i) 0)
def mG(l:List Int)(k:Nat):List Fy:=(l.take k).map λx=>(1,x)
def oF(l:List Int)(k:Nat):List Fy:=(List.range k).map λj=>(3,l.getD (l.length-1-j) 0)
def Jf(l:List Int):List Fy:=mG l l.length++[(2,0)]++oF l l.length
def H8(l:List Int){k:Nat}(hk:k<l.length):mG l (k+1)=mG l k++[(1,l[k])]:=by unfold mG;rw[zI,dm hk,pL];rfl
def Gm(l:List Int)(k:Nat):oF l (k+1)=oF l k++[(3,l.getD (l.length-1-k) 0)]:=by unfold oF;rw[mL,pL];rfl
def jd(l:List Int)(k:Nat)(h:k<=l.length):(mG l k).length=k:=by unfold mG;rw[ox,fT];omega
def A7(l:List Int)(k:Nat):(oF l k).length=k:=by simp[oF]
def BZ(l:List Int):(Jf l).length=2*l.length+1:=by unfold Jf;rw[cm,cm,jd l _ (aS _),A7];simp;omega
def RY(l:List Int){i:Nat}(hi:i<2*l.length+1):(Jf l)[i]? =some (eO l i):=by
 unfold Jf eO;have ht:=jd l _ (aS l.length);by_cases h1:i<l.length
 ·rw[ax h1,ji,uo (by omega)];unfold mG;rw[dN,jf,dm h1,mS,dm h1];rfl
 ·rw[ay h1];by_cases h2:i=l.length
  ·rw[ax h2,ji,ig (by omega),ht,h2,Nat.sub_self];rfl
  ·rw[ay h2,ig (by rw[cm,ht];simp;omega),cm,ht];unfold oF;rw[jf,zK (by simp;omega)];simp only[cD,dG,qo];congr 3;omega
def lF(v:cT)(o:pV):Int×Int:=if(cO v o).2=0 then(2*((cO v o).1.length:Int)+1,0)else(0,(cO v o).2)
def iN(v:cT)(o:pV)(i:Int):Fy×Int:=if(cO v o).2=0 then(if 0<=i/\i<2*((cO v o).1.length:Int)+1 then(eO (cO v o).1 i.toNat,0)else((0,0),7))else((0,0),(cO v o).2)
def uU(v:cT)(o:pV):List Fy:=if(cO v o).2=0 then Jf (cO v o).1 else []
def D3{v:cT}{o:pV}{sv:ae}{W:AW}(hs:eX W sv v.az)(hv:v.az.length<1000)(hG:GW W):bl (.func (.func 77) #[] #[]) [gW v sv,yb o] W=some (.tuple #[.af (lF v o).1,.af (lF v o).2],W):=by
 refine bS rfl ?_ Aj;unfold yM lF;obtain⟨W1,hB,bi,hn,c4,c0,c3⟩:=fP v sv W;obtain⟨W2,b2,n2,l2,SS,k0⟩:=Gf o W1;have iP:=bi.trans l2;obtain⟨u,W3,q1,q2,q3⟩:=vS (o:=o) (hs.mono iP) hv (hG.mono iP);have fb:=pR v o;simp only[SX,hB,b2,c4 _ l2,SS _ (.refl _),q1];by_cases he:(cO v o).2=0;case neg=>simp only[SX,he,bG,am];exact⟨aB,iP.trans q2⟩
 have ea:∀W',aw Tryz.prog .mul 3 true false (.af 2) (.af ((cO v o).1.length:Int)) W'=some (.af (2*((cO v o).1.length:Int)),W'):=λW'=>GY (by omega) (by omega)
 have eb:∀W',aw Tryz.prog .add 3 false true (.af (2*((cO v o).1.length:Int))) (.af 1) W'=some (.af (2*((cO v o).1.length:Int)+1),W'):=λW'=>cY (by omega) (by omega)
 simp only[SX,aY he,ax he,q3.len Gi,ea,eb,am];exact⟨aB,iP.trans q2⟩
def OJ{v:cT}{o:pV}{sv:ae}{W:AW}(hs:jc W sv v.az)(hv:v.az.length<1000)(hr:∀s∈v.az,s.rows.length<1000):
 ∃u W2,bl (.func (.func 60) #[] #[]) [gW v sv,yb o] W=some (.tuple #[u,.af (cO v o).2],W2)/\Le W W2/\TS W2 u (uU v o):=by
 refine vG ?_ EK;unfold DA uU;obtain⟨W1,hB,bi,hn,c4,c0,c3⟩:=fP v sv W;obtain⟨W2,b2,n2,l2,SS,k0⟩:=Gf o W1;have iP:=bi.trans l2;obtain⟨u,W3,q1,q2,q3⟩:=Gd (o:=o) (hs.mono iP) hv hr;have fb:=pR v o;simp only[SX,hB,b2,c4 _ l2,SS _ (.refl _),q1];by_cases he:(cO v o).2=0;case neg=>simp only[SX,he,bG,am];exact⟨_,rfl,iP.trans q2,Row.nil⟩
 simp only[SX,he,bk];generalize(cO v o).1=l at *;have j8:∀(k:Nat) (W':AW),k<1000000->aw Tryz.prog .add 3 false true (.af (k:Int)) (.af 1) W'=some (.af ((k+1:Nat):Int),W'):=λk W' hk=>cY (by omega) (by omega)
 have aih:∀(k:Int) (W':AW),0<=k->k<1000000->aw Tryz.prog .sub 3 false true (.af k) (.af 1) W'=some (.af (k-1),W'):=λk W' h0 hk=>pj (by omega) (by omega)
 refine cx l.length (by omega) (λi R W'=>Le W3 W'/\R 6=u/\R 9=.af (i:Int)/\∃x,R 8=x/\ns W3.next W' 2 HF x (mG l i))
  (λr=>Le W3 r.2.2/\r.1=.exit 0/\r.2.1 6=u/\∃x,r.2.1 8=x/\ns W3.next r.2.2 2 HF x (mG l l.length)) ⟨.refl _,rfl,rfl,_,rfl,.nil _ _ _ _⟩ ?_ ?_ ?_
 ·rintro i R W' hi ⟨hl,f6,f9,x,f8,hL⟩;unfold qk;have e1:((i:Int)<(l.length:Int)):=by omega
  obtain⟨p,p1,p2⟩:=q3.get hi;have Nx:=hL.mono ((Le.refl W').add (.cells [.af 1,.af l[i]]));obtain⟨v',W4,s1,s2,s3,s4⟩:=ns.push (P:=Tryz.prog) (a:=((1,l[i]):Fy)) (b:=W'.next) (c:=1) WU vC Ck Nx bp (by rw[jd l _ (by omega)];omega) (by rw[jd l _ (by omega)];omega) (by rw[AW.aL];have:=hl.next;omega);simp only[SX,f6,f8,f9,q3.len Gi,e1,p1,p2 _ hl,ID,Ze,s1,j8 i _ (by omega),am];exact .inl ⟨aB,s4 _ (hl.add _) (aS _),f6,rfl,_,rfl,by rw[H8 l hi];exact s2⟩
 ·rintro R W' ⟨hl,f6,f9,x,f8,hL⟩;unfold qk;have e1:¬((l.length:Int)<(l.length:Int)):=by omega
  simp only[SX,f6,f9,q3.len Gi,e1,am];exact⟨by simp,hl,aB,f6,x,f8,hL⟩
 ·rintro⟨x,R,W'⟩ ⟨hl,hx,f6,y,f8,hL⟩;simp only at hl hx f6 f8 hL;subst hx;have Nx:=hL.mono ((Le.refl W').add (.cells [.af 2,.af 0]));obtain⟨v',W4,s1,s2,s3,s4⟩:=ns.push (P:=Tryz.prog) (a:=((2,0):Fy)) (b:=W'.next) (c:=1) WU vC Ck Nx bp (by rw[jd l _ (by omega)];omega) (by rw[jd l _ (by omega)];omega) (by rw[AW.aL];have:=hl.next;omega);have hl4:=s4 _ (hl.add _) (aS _);have agd:∀W',aw Tryz.prog .sub 3 false true (.af (l.length:Int)) (.af 1) W'=some (.af ((l.length:Int)-1),W'):=λW'=>pj (by omega) (by omega)
  simp only[SX,f6,f8,LF,Ze,s1,q3.len Gi,agd];refine cx l.length (by omega) (λi R W'=>Le W3 W'/\R 6=u/\R 10=.af ((l.length:Int)-1-i)/\∃x,R 8=x/\ns W3.next W' 2 HF x (mG l l.length++[(2,0)]++oF l i))
   (λr=>Le W3 r.2.2/\r.1=.exit 2/\∃x,r.2.1 8=x/\ns W3.next r.2.2 2 HF x (Jf l)) ⟨hl4,f6,by show Value.int .i64 _=_;congr 1;omega,_,rfl,by rw[show oF l 0=[]from rfl,iD];exact s2⟩ ?_ ?_ ?_
  ·rintro i R W' hi ⟨hl,f6,wl,x,f8,hL⟩;unfold qm;have e1:((0:Int)<=(l.length:Int)-1-i):=by omega
   have Zg:l.length-1-i<l.length:=by omega
   obtain⟨p,p1,p2⟩:=q3.get Zg;have Wg:=λW'=>p1 W' .i64
   rw[show((l.length-1-i:Nat):Int)=(l.length:Int)-1-i by omega]at Wg;have Nx:=hL.mono ((Le.refl W').add (.cells [.af 3,.af l[l.length-1-i]]));have hll:(mG l l.length++[(2,0)]++oF l i).length<=60:=by rw[cm,cm,jd l _ (aS _),A7];simp;omega
   obtain⟨v',W4,s1,s2,s3,s4⟩:=ns.push (P:=Tryz.prog) (a:=((3,l[l.length-1-i]):Fy)) (b:=W'.next) (c:=1) WU vC Ck Nx bp (by omega) (by omega) (by rw[AW.aL];have:=hl.next;omega);simp only[SX,f6,f8,wl,e1,Wg,p2 _ hl,ID,Ze,s1,aih ((l.length:Int)-1-i) _ (by omega) (by omega),am];refine .inl ⟨aB,s4 _ (hl.add _) (aS _),f6,by show Value.int .i64 _=_;congr 1;omega,_,rfl,?_⟩;rw[Gm,<-ji,mS,dm Zg];exact s2
  ·rintro R W' ⟨hl,f6,wl,x,f8,hL⟩;unfold qm;have e1:¬((0:Int)<=(l.length:Int)-1-l.length):=by omega
   simp only[SX,wl,e1,am];exact⟨by simp,hl,aB,x,f8,hL⟩
  ·rintro⟨x,R,W'⟩ ⟨hl,hx,y,f8,hL⟩;simp only at hl hx f8 hL;subst hx;simp only[SX,f8,am];exact⟨_,rfl,(iP.trans q2).trans hl,hL.row vC TG⟩
def PP{l:List Int}{u f:ae}{bx:Nat}{W0 W:AW}(hu:oZ W0 u l)(fb:l.length<=24)(hb:∀W',Le W0 W'->aJ (.pointer (some ⟨bx,0,none⟩)) W'=some (u,W'))(I:Nat->AW->Prop)(Q:AW->Prop)
 (hI:I 0 W)(hS:∀i W',I i W'->Le W0 W')(hA:∀i W' cs,I i W'->I i (W'.add (.cells cs)))
 (step:∀i W',i<2*l.length+1->I i W'->∃b W2,bl f [.af (i:Int),CS (eO l i)] W'=some (.bool b,W2)/\(b=true->I (i+1) W2)/\(b=false->Q W2)):
 ∃W2,bl (.func (.func 163) #[] #[.pointer (some ⟨bx,0,none⟩)]) [f] W=some (.tuple #[],W2)/\(I (2*l.length+1) W2\/Q W2):=by
 have kw:Ok (oq bl f (.pointer (some ⟨bx,0,none⟩)) W) λr=>r.1=.tuple #[]/\(I (2*l.length+1) r.2\/Q r.2):=by
  unfold oq;have ea:∀W',aw Tryz.prog .mul 3 true false (.af 2) (.af (l.length:Int)) W'=some (.af (2*(l.length:Int)),W'):=λW'=>GY (by omega) (by omega)
  have eb:∀W',aw Tryz.prog .add 3 false true (.af (2*(l.length:Int))) (.af 1) W'=some (.af (2*(l.length:Int)+1),W'):=λW'=>cY (by omega) (by omega)
  have j8:∀(k:Nat) (W':AW),k<1000000->aw Tryz.prog .add 3 false true (.af (k:Int)) (.af 1) W'=some (.af ((k+1:Nat):Int),W'):=λk W' hk=>cY (by omega) (by omega)
  simp only[SX,hb _ (hS _ _ hI),hu.len Gi,ea,eb];refine cx (2*l.length+1) (by omega) (λi R W'=>R 0=f/\R 1=.pointer (some ⟨bx,0,none⟩)/\R 3=.af (l.length:Int)/\R 10=.af (2*(l.length:Int)+1)/\R 11=.af (i:Int)/\I i W')
   (λr=>(r.1=.exit 0/\I (2*l.length+1) r.2.2)\/(r.1=.ret/\Q r.2.2)) ⟨rfl,rfl,rfl,rfl,rfl,hI⟩ ?_ ?_ ?_
  ·rintro i R W' hi ⟨h0,h1,h3,wI,ve,oI⟩;unfold kE;have e1:((i:Int)<2*(l.length:Int)+1):=by omega
   have XM:=hA _ _ [.af (eO l i).1,.af (eO l i).2] oI;have qN:=hS _ _ XM;obtain⟨c,W3,s1,s2,s3⟩:=step i _ hi XM;have IM:∀a b:Int,bA 2 (.pointer (some ⟨W'.next,0,none⟩)) (W'.add (.cells [.af a,.af b]))=some (.agg #[.af a,.af b],W'.add (.cells [.af a,.af b])):=λa b=>ld2 bQ
   by_cases t1:i<l.length
   ·have JP:(i:Int)<(l.length:Int):=by omega
    have px:eO l i=(1,l[i]):=by unfold eO;rw[ax t1,mS,dm t1];rfl
    obtain⟨p,p1,p2⟩:=hu.get t1;rw[px]at s1 qN XM;have hl3:Le W0 (W'.add (.cells [.af 2,.af 0])):=(hS _ _ oI).add _;simp only[SX,h0,h1,h3,wI,ve,e1,LF,RP,Ad bQ,dC,aY JP,hb _ hl3,p1,p2 _ hl3,ID,IM,s1];cases c
    ·simp only[SX,am];exact .inr ⟨by simp,.inr ⟨aB,s3 rfl⟩⟩
    ·simp only[SX,j8 i _ (by omega),am];exact .inl ⟨aB,h0,h1,h3,wI,rfl,s2 rfl⟩
   have JP:¬((i:Int)<(l.length:Int)):=by omega
   by_cases t2:i=l.length
   ·have LQ:¬((l.length:Int)<(i:Int)):=by omega
    have px:eO l i=(2,0):=by unfold eO;rw[ay t1,ax t2]
    rw[px]at s1 qN XM;simp only[SX,h0,h1,h3,wI,ve,e1,LF,RP,Ad bQ,dC,bu JP,bu LQ,IM,s1];cases c
    ·simp only[SX,am];exact .inr ⟨by simp,.inr ⟨aB,s3 rfl⟩⟩
    ·simp only[SX,j8 i _ (by omega),am];exact .inl ⟨aB,h0,h1,h3,wI,rfl,s2 rfl⟩
   ·have LQ:((l.length:Int)<(i:Int)):=by omega
    have Zg:2*l.length-i<l.length:=by omega
    have px:eO l i=(3,l[2*l.length-i]):=by unfold eO;rw[ay t1,ay t2,mS,dm Zg];rfl
    obtain⟨p,p1,p2⟩:=hu.get Zg;have Wg:=λW'=>p1 W' .i64
    rw[show((2*l.length-i:Nat):Int)=2*(l.length:Int)-i by omega]at Wg;rw[px]at s1 qN XM;have hl3:Le W0 (W'.add (.cells [.af 2,.af 0])):=(hS _ _ oI).add _;have es:∀W',aw Tryz.prog .sub 3 false false (.af (2*(l.length:Int))) (.af (i:Int)) W'=some (.af (2*(l.length:Int)-i),W'):=λW'=>pj (by omega) (by omega)
    simp only[SX,h0,h1,h3,wI,ve,e1,LF,RP,Ad bQ,dC,bu JP,aY LQ,hb _ hl3,ea,es,Wg,p2 _ hl3,ID,IM,s1];cases c
    ·simp only[SX,am];exact .inr ⟨by simp,.inr ⟨aB,s3 rfl⟩⟩
    ·simp only[SX,j8 i _ (by omega),am];exact .inl ⟨aB,h0,h1,h3,wI,rfl,s2 rfl⟩
  ·rintro R W' ⟨h0,h1,h3,wI,ve,oI⟩;unfold kE;have e1:¬(((2*l.length+1:Nat):Int)<2*(l.length:Int)+1):=by omega
   simp only[SX,wI,ve,e1,am];exact⟨by simp,.inl ⟨aB,oI⟩⟩
  ·rintro⟨x,R,W'⟩ hq;rcases hq with⟨rfl,oI⟩|⟨rfl,hq⟩
   ·simp only[SX,am];exact⟨aB,.inl oI⟩
   ·simp only[SX,am];exact⟨aB,.inr hq⟩
 obtain⟨⟨r,W'⟩,h1,h2,h3⟩:=kw;simp only at h2 h3;subst h2;exact⟨W',by rw[xG h1,uB rfl],h3⟩
def P9{l:List Int}{u:ae}{W:AW}(hu:oZ W u l):∃W1,bl (.func (.func 137) #[] #[]) [u] W=some (.func (.func 163) #[] #[.pointer (some ⟨W.next,0,none⟩)],W1)/\Le W W1/\W1.next=W.next+1/\(∀W',Le W1 W'->aJ (.pointer (some ⟨W.next,0,none⟩)) W'=some (u,W')):=by
 obtain⟨a,c,hc,h⟩:=hu;have hB:cC u W=some (.pointer (some ⟨W.next,0,none⟩),W.add (.cells [u])):=by rw[hc];exact Bg _ _ _
 have lT:aI (W.add (.cells [u])) W.next=some [u]:=bp;have hn:W.next<(W.add (.cells [u])).next:=by rw[AW.aL];omega
 refine⟨_,?_,(Le.refl W).add _,AW.aL _ _,λW' k=>cU (by rw[k.aI hn];exact lT) rfl⟩;have:rt bl u W=some (.func (.func 163) #[] #[.pointer (some ⟨W.next,0,none⟩)],W.add (.cells [u])):=by unfold rt;simp only[SX,hB]
 rw[As this,uB rfl]
def RD{l:List Int}{u:ae}{W0 W:AW}{bx nt:Nat}{R:Nat->ae}{ps:Array Tmp}{ac bd:Code}{ρ:Type}{K:X×AW->Option ρ}{G:ρ->Prop}(hu:oZ W0 u l)(fb:l.length<=24)(hb:∀W',Le W0 W'->aJ (.pointer (some ⟨bx,0,none⟩)) W'=some (u,W'))(hp:ps.size=2)
 (J:Nat->AW->Prop)(Q:X->AW->Prop)(h0:J 0 (W.add (.loop .ready none R nt ps ac bd)))
 (hS:∀i W',J i W'->Le W0 W')(hA:∀i W' cs,J i W'->W.next<W'.next->J i (W'.add (.cells cs)))(hP:∀i W' o,J i W'->J i (W'.put W.next o))(hQ:∀x W' o,Q x W'->Q x (W'.put W.next o))
 (d0 d:Nat)(has:∀(i:Nat) (p:Fy) W' R',R'=lR ps.toList [.af (i:Int),CS p] R->fK Tryz.prog bl false nt ac LT R' W' mg=some (.normal,eH (eH R' (some d0) (.af (i:Int))) (some d) (.pointer (some ⟨W'.next,0,none⟩)),W'.add (.cells [.af p.1,.af p.2])))
 (step:∀(i:Nat) W' b R',R'=eH (eH (lR ps.toList [.af (i:Int),CS (eO l i)] R) (some d0) (.af (i:Int))) (some d) (.pointer (some ⟨b,0,none⟩))->i<2*l.length+1->J i W'->W.next<W'.next->aF W' b=some [.af (eO l i).1,.af (eO l i).2]->W.next<b->b<W'.next->
   Ok (fK Tryz.prog bl false nt bd LT R' W' mg) λq=>W'.next<=q.2.2.next/\q.2.2.get W.next=W'.get W.next/\((q.1=.normal/\J (i+1) q.2.2)\/(q.1≠ .normal/\Q q.1 q.2.2)))
 (after:∀x W2,(x=.normal/\J (2*l.length+1) W2)\/(x≠ .normal/\Q x W2)->Ok (K (x,W2.kill W.next)) G):
 Ok (aj (jb bl (.func (.func 163) #[] #[.pointer (some ⟨bx,0,none⟩)]) (.loop .ready none R nt ps ac bd) W) K) G:=by
 have kw:∃x W2,jb bl (.func (.func 163) #[] #[.pointer (some ⟨bx,0,none⟩)]) (.loop .ready none R nt ps ac bd) W=some (x,W2.kill W.next)/\((x=.normal/\J (2*l.length+1) W2)\/(x≠ .normal/\Q x W2)):=by
  obtain⟨W2,h1,h2⟩:=PP (f:=.func (.yield W.next) #[] #[]) (W:=W.add (.loop .ready none R nt ps ac bd)) hu fb hb
   (λi W'=>J i W'/\W.next<W'.next/\W'.get W.next=some (.loop .ready none R nt ps ac bd))
   (λW'=>∃x,x≠ .normal/\Q x W'/\W'.get W.next=some (.loop .done x.jump R nt ps ac bd))
   ⟨h0,by rw[AW.aL];omega,AW.a8 _ _⟩ (λi W' h=>hS _ _ h.1)
   (λi W' cs h=>⟨hA _ _ _ h.1 h.2.1,by rw[AW.aL];omega,by rw[AW.bC _ _ (by omega)];exact h.2.2⟩)
   (λi W' hi ⟨hJ,gY,eM⟩=>by
     have hJ2:=hP _ _ (.loop .busy none R nt ps ac bd) (hA _ _ [.af (eO l i).1,.af (eO l i).2] hJ gY);obtain⟨⟨x,R2,W3⟩,k1,k2,k3,k4⟩:=step i _ W'.next _ rfl hi hJ2 (by rw[AW.cG,AW.aL];omega) (by rw[be _ (by omega)];exact bQ) gY (by rw[AW.cG,AW.aL];omega);simp only at k1 k2 k3 k4;rw[AW.bE]at k3;have hy:=DB (P:=Tryz.prog) (args:=[.af (i:Int),CS (eO l i)]) eM (by rw[hp];rfl) (has i (eO l i) W' _ rfl) (by rw[AW.bC _ _ (by omega)];exact eM) k1 k3;have hn3:W.next<W3.next:=by rw[AW.cG,AW.aL]at k2;omega
     rcases k4 with⟨rfl,k4⟩|⟨kx,k4⟩
     ·exact⟨true,_,hy,λ_=>⟨hP _ _ _ k4,by rw[AW.cG];exact hn3,AW.bE _ _ _⟩,λh=>by cases h⟩
     ·refine⟨false,W3.put W.next (.loop .done x.jump R nt ps ac bd),?_,λh=>by(cases h),λ_=>⟨x,kx,hQ _ _ _ k4,AW.bE _ _ _⟩⟩;refine hy.trans ?_;cases x with
      |normal=>exact absurd rfl kx
      |exit i=>rfl
      |ret=>rfl)
  rcases h2 with⟨h2,h3,h4⟩|⟨x,h2,h3,h4⟩
  ·exact⟨.normal,W2,vJ h1 h4 (by simp),.inl ⟨rfl,h2⟩⟩
  ·exact⟨x,W2,Bh h1 h4,.inr ⟨h2,h3⟩⟩
 obtain⟨x,W2,h1,h2⟩:=kw;rw[h1,vY];exact after x W2 h2
def GX{v:cT}{o:pV}{sv:ae}{W:AW}{i0:Int}(hs:eX W sv v.az)(hv:v.az.length<1000)(hG:GW W):bl (.func (.func 100) #[] #[]) [gW v sv,yb o,.af i0] W=some (.tuple #[CS (iN v o i0).1,.af (iN v o i0).2],W):=by
 refine bS rfl ?_ CZ;unfold Bs iN;obtain⟨W1,hB,bi,hn,c4,c0,c3⟩:=fP v sv W;obtain⟨W2,b2,n2,l2,SS,k0⟩:=Gf o W1;obtain⟨O6,b2',n2',l2',r2'⟩:=Zy i0 W2;obtain⟨W3,b3,n3,l3,r3⟩:=ad0 O6;obtain⟨W4,b4,n4,l4,r4⟩:=Wy W3;have LZ:=bi.next;have N2:=(l2'.trans l3).trans l4;have aeE:=(bi.trans l2).trans l2';have l04:=(bi.trans l2).trans N2;have ahu:=l3.trans l4;obtain⟨u,W5,q1,q2,q3⟩:=vS (o:=o) (hs.mono l04) hv (hG.mono l04);have ae7:=ahu.trans q2;have eN:aF W5 O6.next=some [.af 0,.af 0]:=by rw[q2.aF (by omega),l4.aF (by omega)];exact r3
 have gR:aF W5 W3.next=some [.af 0]:=by rw[q2.aF (by omega)];exact r4
 have ri5:aF W5 W2.next=some [.af i0]:=by rw[ae7.aF (by omega)];exact r2'
 have n5:=q2.next;have e3:∀(W':AW) a,aF (W'.put O6.next a) W3.next=aF W' W3.next:=λW' a=>be _ (by omega)
 have e2:∀(W':AW) a b,aF ((W'.put O6.next (.cells a)).put W3.next b) O6.next=some a:=λW' a b=>by rw[be _ (by omega)];exact br _
 simp only[SX,hB,b2,b2',b3,b4,c4 _ (l2.trans N2),SS _ N2,q1];have fb:=pR v o;by_cases he:(cO v o).2=0;case neg=>simp only[SX,he,bG,Wm,Ad eN,Kl ((e3 _ _).trans gR),sA,WZ,M2,ld2 (e2 _ _ _),C8 (br _),bq,am];exact⟨aB,((l04.trans q2).put (by omega) _).put (by omega) _⟩
 generalize(cO v o).1=l at *;obtain⟨W6,s1,s2,s3,s4⟩:=P9 q3;simp only[SX,aY he,ax he,s1];have eC:aF W6 O6.next=some [.af 0,.af 0]:=by rw[s2.aF (by omega)];exact eN
 have kN:aF W6 W3.next=some [.af 0]:=by rw[s2.aF (by omega)];exact gR
 have ri6:aF W6 W2.next=some [.af i0]:=by rw[s2.aF (by omega)];exact ri5
 have aeW:=ae7.trans s2;refine RD (q3.mono s2) fb s4 rfl (λk W'=>Le W6 W'/\∀j:Nat,j<k->(j:Int)≠i0)
  (λx W'=>x=.ret/\Le O6 W'/\∃k:Nat,k<2*l.length+1/\(k:Int)=i0/\aF W' O6.next=some [.af (eO l k).1,.af (eO l k).2]/\aF W' W3.next=some [.af 0])
  ⟨(Le.refl W6).add _,λj hj=>by omega⟩ (λ_ _ h=>h.1) (λi W' cs h hl=>⟨h.1.add _,h.2⟩) (λi W' o h=>⟨h.1.put (aS _) _,h.2⟩)
  (λx W' o ⟨h1,h2,k,h3,h4,h5,h6⟩=>⟨h1,h2.put (by omega) _,k,h3,h4,by rw[be _ (by omega)];exact h5,by rw[be _ (by omega)];exact h6⟩) 10 11 ?_ ?_ ?_
 ·intro i p W' R' hR;have cZ:R' 24=.af (i:Int):=by rw[hR];rfl
  have cW:R' 25=CS p:=by rw[hR];rfl
  rw[vX];unfold sm;simp only[SX,RP,cZ,cW,Ad bQ,dC];try rfl
 ·intro i W' b R' hR hi ⟨h1,h2⟩ hl hb IE iu;have f5:R' 5=.pointer (some ⟨W2.next,0,none⟩):=by rw[hR];rfl
  have f6:R' 6=.pointer (some ⟨O6.next,0,none⟩):=by rw[hR];rfl
  have f7:R' 7=.pointer (some ⟨W3.next,0,none⟩):=by rw[hR];rfl
  have wl:R' 10=.af (i:Int):=by rw[hR];rfl
  have wJ:R' 11=.pointer (some ⟨b,0,none⟩):=by rw[hR];rfl
  clear hR;rw[vO];unfold qV;have ri:aF W' W2.next=some [.af i0]:=by rw[h1.aF (by omega)];exact ri6
  have rr:aF W' O6.next=some [.af 0,.af 0]:=by rw[h1.aF (by omega)];exact eC
  have re:aF W' W3.next=some [.af 0]:=by rw[h1.aF (by omega)];exact kN
  simp only[SX,f5,wl,C8 ri];by_cases t:(i:Int)=i0
  ·simp only[SX,aY t,f6,f7,wJ,ld2 hb,Ad rr,Kl ((e3 _ _).trans re),am];refine⟨aS _,by rw[AW.aE _ _ (by omega),AW.aE _ _ (by omega)],.inr ⟨by simp,aB,((aeW.trans h1).put (by omega) _).put (by omega) _,i,hi,t,e2 _ _ _,br _⟩⟩
  ·simp only[SX,bu t,am];refine⟨aS _,aB,.inl ⟨aB,h1,λj hj=>?_⟩⟩;by_cases hji:j<i
   ·exact h2 j hji
   ·obtain rfl:j=i:=by omega
    exact t
 ·rintro x W7 (⟨rfl,h1,h2⟩|⟨_,rfl,h1,k,h2,h3,h4,h5⟩)
  ·have hn1:¬(0<=i0/\i0<2*(l.length:Int)+1):=λh=>h2 i0.toNat (by omega) (by omega)
   have n7:=h1.next;have k2:aF (W7.kill W6.next) O6.next=some [.af 0,.af 0]:=by rw[kS (by omega),h1.aF (by omega)];exact eC
   have k3:aF (W7.kill W6.next) W3.next=some [.af 0]:=by rw[kS (by omega),h1.aF (by omega)];exact kN
   simp only[SX,ay hn1,Wm,Ad k2,Kl ((e3 _ _).trans k3),sA,WZ,M2,ld2 (e2 _ _ _),C8 (br _),bq,am];exact⟨aB,((((aeE.trans aeW).trans h1).kill (by omega)).put (by omega) _).put (by omega) _⟩
  ·have hp1:0<=i0/\i0<2*(l.length:Int)+1:=by omega
   have hk:i0.toNat=k:=by omega
   have k2:aF (W7.kill W6.next) O6.next=some [.af (eO l k).1,.af (eO l k).2]:=by rw[kS (by omega)];exact h4
   have k3:aF (W7.kill W6.next) W3.next=some [.af 0]:=by rw[kS (by omega)];exact h5
   simp only[SX,ax hp1,hk,sA,WZ,M2,ld2 k2,C8 k3,bq,am];exact⟨aB,(aeE.trans h1).kill (by omega)⟩
end Go.Proofs.YtekljimefjclgaaGreatDoor
