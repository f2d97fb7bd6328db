/- A part: contracts and laws. -/
import Derived.Test.YtekljimefjclgaaGreatDoorPartB
set_option linter.unusedVariables false
set_option linter.unusedSimpArgs false
set_option linter.unusedSectionVars false
set_option linter.defProp false
noncomputable section
open Go renaming TypeId->ah,Value->ae,undef->ai
set_option maxRecDepth 100000
namespace Go.Proofs.YtekljimefjclgaaGreatDoor
open Go Go.Eng
instance opens:aj:=UP (λid ops=>T.get (path (Bs id ops)) tab) [0]
def K0(i:Nat):Code:=FA Tryz.prog i
def HG(c:UInt8):Bool:=decide (97<=c.toNat)&&decide (c.toNat<=122)||decide (48<=c.toNat)&&decide (c.toNat<=57)||c.toNat==45
def vY(l:List UInt8):Bool:=match l with
 |[]=>false
 |c::_=>decide (97<=c.toNat)&&decide (c.toNat<=122)&&decide (l.length<=16)&&l.all HG
def Cz:List ae->Option ae
 |[]=>some (.bool true)
 |_=>none
def Nn:List Nat:=[2,7,75,165,174,227]
def specs:Eng.Callee:=H3 [(7,xS 7 iO Cz),(75,Rk 75),(165,yG 165)]
def bD:Eng.Callee:=om Tryz.prog Nn specs
abbrev GW(W:AW):Prop:=xF iO W
def GW.cells{W:AW}(h:GW W):aH W 0=some mZ:=yM (h (0,mZ) (by simp[iO])).1
def GW.pos{W:AW}(h:GW W):0<W.next:=(h (0,mZ) (by simp[iO])).2
def Dx{W:AW}(h:GW W):bD (.func (.func 7) #[] #[]) [] W=some (.bool true,W):=by have h0:xS 7 iO Cz (.func (.func 7) #[] #[]) [] W=some (.bool true,W):=Nd h rfl rfl rfl;have h1:specs (.func (.func 7) #[] #[]) [] W=some (.bool true,W):=h0;have h2:=BL (P:=Tryz.prog) (bad:=Nn) (spec:=specs) (i:=7) (by decide) h1;rw[w6 (.refl _)]at h2;exact h2
def OH{W W':AW}{args:List ae}(h:jC W args W'):bD (.func (.func 165) #[] #[]) args W=some (.tuple #[],W'):=by have h0:yG 165 (.func (.func 165) #[] #[]) args W=some (.tuple #[],W'):=Mt h;have h1:specs (.func (.func 165) #[] #[]) args W=some (.tuple #[],W'):=h0;have h2:=BL (P:=Tryz.prog) (bad:=Nn) (spec:=specs) (i:=165) (by decide) h1;rw[uD rfl]at h2;exact h2
def wK(k ow un se sc n to t1 t2 t3 t4 nw:Int):Int:=if k<1\/12<k then 2 else HW ow un se sc n to t1 t2 t3 t4 nw (Kv.getD k.toNat 0)
def tO(k ow un se sc n to t1 t2 t3 t4 nw:Int){W:AW}(h:GW W):bD (.func (.func 75) #[] #[]) [.agg (gG k ow un se sc n to t1 t2 t3 t4 nw)] W=some (.af (wK k ow un se sc n to t1 t2 t3 t4 nw),W):=by
 have h1:specs (.func (.func 75) #[] #[]) [.agg (gG k ow un se sc n to t1 t2 t3 t4 nw)] W=some (.af (wK k ow un se sc n to t1 t2 t3 t4 nw),W):=by
  show Rk 75 (.func (.func 75) #[] #[]) [.agg (gG k ow un se sc n to t1 t2 t3 t4 nw)] W=_;unfold Rk gG;simp only[mu,Array.isEmpty_empty,qA,Bq];unfold wK;by_cases hk:k<1\/12<k
  ·have hd:(decide (k<1)||decide (12<k))=true:=by simpa using hk
   rw[ax hk];simp only[hd]
  ·have hd:(decide (k<1)||decide (12<k))=false:=by simp;omega
   rw[ay hk];simp only[hd,(h (0,mZ) (by simp[iO])).1];have Ei:k.toNat<13:=by omega
   have:mZ[k.toNat]? =some (.af (Kv.getD k.toNat 0)):=by unfold mZ;rw[kN];have h13:Kv.length=13:=rfl;rw[cx (by omega),jj,cx (by omega)];rfl
   simp only[this]
 have h2:=BL (P:=Tryz.prog) (bad:=Nn) (spec:=specs) (i:=75) (by decide) h1;rw[Uy (.refl _)]at h2;exact h2
def eH(W:AW)(a b:Int)(h1: -9223372036854775808<=a+b:=by omega)(h2:a+b<9223372036854775808:=by omega):az Tryz.prog .add 3 false true (.af a) (.af b) W=some (.af (a+b),W):=dg h1 h2
def sw(W:AW)(a b:Int)(h1: -9223372036854775808<=a+b:=by omega)(h2:a+b<9223372036854775808:=by omega):az Tryz.prog .add 3 false false (.af a) (.af b) W=some (.af (a+b),W):=dg h1 h2
def yv(W:AW)(a b:Int)(h1: -9223372036854775808<=a-b:=by omega)(h2:a-b<9223372036854775808:=by omega):az Tryz.prog .sub 3 false true (.af a) (.af b) W=some (.af (a-b),W):=pz h1 h2
def aar(W:AW)(a b:Int)(h1: -9223372036854775808<=a-b:=by omega)(h2:a-b<9223372036854775808:=by omega):az Tryz.prog .sub 3 false false (.af a) (.af b) W=some (.af (a-b),W):=pz h1 h2
def iQ(call:Eng.Callee)(R:Nat->ae)(W:AW):Option LT:=ak (az Tryz.prog .lss 3 false false (R 55) (R 54) W) λkA=>bp kA.1 (ak (j0 1 (R 53) (R 55) kA.2) λkm=>ak (aY km.1 km.2) λkv=>ak (az Tryz.prog .add 3 false false (R 4) kv.1 kv.2) λk9=>ak (az Tryz.prog .add 3 false true (R 55) (.af 1) k9.2) λlO=>some (X.normal,(bN R [(56,kA.1),(57,km.1),(58,kv.1),(9,kv.1),(59,(R 4)),(60,kv.1),(61,k9.1),(4,k9.1),(62,lO.1),(55,lO.1)]),lO.2)) (some (X.exit 3,(dw R (some 56) kA.1),kA.2))
def kS(call:Eng.Callee)(R:Nat->ae)(W:AW):Option LT:=ak (az Tryz.prog .lss 3 false false (R 37) (R 36) W) λej=>bp ej.1 (ak (j0 3 (R 35) (R 37) ej.2) λdZ=>ak (b9 3 dZ.1 dZ.2) λgi=>ak (bh Tryz.prog 66 gi.2) λgf=>ak (cS 3 gf.1 gi.1 gf.2) λgL=>ak (b9 3 gf.1 gL.2) λfz=>ak (bq 3 (R 1) fz.2) λie=>ak (aY ie.1 ie.2) λgq=>ak (dX Tryz.prog 22 gq.1 none (some (R 37)) none gq.2) λig=>ak (call (cV 47) [fz.1,ig.1] ig.2) λeU=>ak (az Tryz.prog .neq 30 false true eU.1 (.af 0) eU.2) λeE=>bp eE.1 (some (X.ret,(bN R [(38,ej.1),(39,(R 37)),(40,dZ.1),(41,gi.1),(6,gf.1),(5,(R 37)),(42,fz.1),(43,ie.1),(44,gq.1),(45,(R 37)),(46,ig.1),(47,eU.1),(7,eU.1),(48,eU.1),(49,eE.1),(50,(R 37)),(51,eU.1),(2,(R 37)),(3,eU.1)]),eE.2)) (ak (bq 1 gf.1 eE.2) λfk=>ak (aY fk.1 fk.2) λgh=>ak (aD Tryz.prog .len #[64] 3 #[false] [gh.1] gh.2) λii=>ak (dP (iQ call) (bN R [(38,ej.1),(39,(R 37)),(40,dZ.1),(41,gi.1),(6,gf.1),(5,(R 37)),(42,fz.1),(43,ie.1),(44,gq.1),(45,(R 37)),(46,ig.1),(47,eU.1),(7,eU.1),(48,eU.1),(49,eE.1),(52,fk.1),(53,gh.1),(54,ii.1),(55,(.af 0))]) ii.2) λj5=>eQ 3 j5.1 (ak (az Tryz.prog .add 3 false true (j5.2.1 37) (.af 1) j5.2.2) λkH=>some (X.normal,(bN j5.2.1 [(63,kH.1),(37,kH.1)]),kH.2)) (none))) (some (X.exit 1,(dw R (some 38) ej.1),ej.2))
def vL(call:Eng.Callee)(x0:ae)(W:AW):Option (ae×AW):=ak (cN x0 W) λr1=>ak (bq 0 r1.1 r1.2) λr2=>ak (aY r2.1 r2.2) λr3=>ak (call (cV 45) [r3.1,(.af 1),(.af 16)] r3.2) λr4=>ak (a8 (bi r4.1 false) (bq 1 r1.1 r4.2) (some (ai,r4.2))) λr5=>ak (a8 (bi r4.1 false) (aY r5.1 r5.2) (some (ai,r5.2))) λr6=>ak (a8 (bi r4.1 false) (call (cV 46) [r6.1,(.af 1),(.af 1000000000)] r6.2) (some (ai,r6.2))) λr7=>ak (bU r4.1 (.bool true) r7.1 r7.2) λr8=>ak (a8 (bi r8.1 false) (bq 2 r1.1 r8.2) (some (ai,r8.2))) λr9=>ak (a8 (bi r8.1 false) (aY r9.1 r9.2) (some (ai,r9.2))) λcd=>ak (a8 (bi r8.1 false) (call (cV 46) [cd.1,(.af 1),(.af 1000000000)] cd.2) (some (ai,cd.2))) λbF=>ak (bU r8.1 (.bool true) bF.1 bF.2) λdr=>bp dr.1 (aG Tryz.prog [((.af (-1)),none),((.af 7),none)] dr.2) (ak (bq 3 r1.1 dr.2) λcq=>ak (aY cq.1 cq.2) λdi=>ak (aD Tryz.prog .len #[22] 3 #[false] [di.1] di.2) λbQ=>ak (az Tryz.prog .eql 3 false true bQ.1 (.af 0) bQ.2) λcK=>bp cK.1 (aG Tryz.prog [((.af (-1)),none),((.af 6),none)] cK.2) (ak (bq 3 r1.1 cK.2) λcT=>ak (aY cT.1 cT.2) λdC=>ak (aD Tryz.prog .len #[22] 3 #[false] [dC.1] dC.2) λcL=>ak (az Tryz.prog .gtr 3 false true cL.1 (.af 8) cL.2) λdq=>bp dq.1 (aG Tryz.prog [((.af (-1)),none),((.af 3),none)] dq.2) (ak (bq 3 r1.1 dq.2) λd9=>ak (aY d9.1 d9.2) λeK=>ak (aD Tryz.prog .len #[22] 3 #[false] [eK.1] eK.2) λeP=>ak (dP (kS call) (bN (eD 0 [x0] aj.blank) [(1,r1.1),(2,(.af 0)),(3,(.af 0)),(11,r2.1),(12,r3.1),(13,r4.1),(14,r4.1),(15,r5.1),(16,r6.1),(17,r7.1),(18,r8.1),(19,r8.1),(20,r9.1),(21,cd.1),(22,bF.1),(23,dr.1),(10,dr.1),(25,cq.1),(26,di.1),(27,bQ.1),(28,cK.1),(24,cK.1),(30,cT.1),(31,dC.1),(32,cL.1),(33,dq.1),(29,dq.1),(4,(.af 0)),(34,d9.1),(35,eK.1),(36,eP.1),(37,(.af 0))]) eP.2) λiS=>eQ 1 iS.1 (ak (az Tryz.prog .gtr 3 false true (iS.2.1 4) (.af 4096) iS.2.2) λns=>bp ns.1 (aG Tryz.prog [((.af (-1)),none),((.af 3),none)] ns.2) (aG Tryz.prog [((.af 0),none),((.af 0),none)] ns.2)) (jG iS.1 (aG Tryz.prog [((iS.2.1 2),none),((iS.2.1 3),none)] iS.2.2)))))
def yC{x0:ae}{W:AW}{r:ae×AW}(h:vL bD x0 W=some r):bD (.func (.func 33) #[] #[]) [x0] W=some (gc W r):=b8 (nt:=66) (n:=1) (by kernel_rfl) (by kernel_rfl) rfl (aL (by kernel_rfl) h)
def jk(call:Eng.Callee)(x0 x1 x2:ae)(W:AW):Option (ae×AW):=ak (az Tryz.prog .lss 3 false false x0 x1 W) λr1=>ak (a8 (bi r1.1 false) (i8 x0 r1.2) (some (ai,r1.2))) λr2=>ak (a8 (bi r1.1 false) (i8 x2 r2.2) (some (ai,r2.2))) λr3=>ak (a8 (bi r1.1 false) (az Tryz.prog .gtr 3 false false r2.1 r3.1 r3.2) (some (ai,r3.2))) λr4=>ak (bU r1.1 (.bool true) r4.1 r4.2) λr5=>aG Tryz.prog [(r5.1,none)] r5.2
def qR{x0 x1 x2:ae}{W:AW}{r:ae×AW}(h:jk bD x0 x1 x2 W=some r):bD (.func (.func 45) #[] #[]) [x0,x1,x2] W=some (gc W r):=b8 (nt:=15) (n:=3) (by kernel_rfl) (by kernel_rfl) rfl (aL (by kernel_rfl) h)
def gP(call:Eng.Callee)(x0 x1 x2:ae)(W:AW):Option (ae×AW):=ak (az Tryz.prog .lss 2 false false x0 x1 W) λr1=>ak (a8 (bi r1.1 false) (i8 x0 r1.2) (some (ai,r1.2))) λr2=>ak (a8 (bi r1.1 false) (i8 x2 r2.2) (some (ai,r2.2))) λr3=>ak (a8 (bi r1.1 false) (az Tryz.prog .gtr 2 false false r2.1 r3.1 r3.2) (some (ai,r3.2))) λr4=>ak (bU r1.1 (.bool true) r4.1 r4.2) λr5=>aG Tryz.prog [(r5.1,none)] r5.2
def oR{x0 x1 x2:ae}{W:AW}{r:ae×AW}(h:gP bD x0 x1 x2 W=some r):bD (.func (.func 46) #[] #[]) [x0,x1,x2] W=some (gc W r):=b8 (nt:=15) (n:=3) (by kernel_rfl) (by kernel_rfl) rfl (aL (by kernel_rfl) h)
def vN(call:Eng.Callee)(x0 x1:ae)(W:AW):Option (ae×AW):=ak (cN x0 W) λr1=>ak (bq 0 r1.1 r1.2) λr2=>ak (aY r2.1 r2.2) λr3=>ak (call (cV 70) [r3.1] r3.2) λr4=>ak (IE Tryz.prog .not r4.1 r4.2) λr5=>bp r5.1 (aG Tryz.prog [((.af 6),none)] r5.2) (ak (sP (.func 72) #[] #[r1.1] r5.2) λr6=>ak (call (cV 71) [x1,r6.1] r6.2) λr7=>bp r7.1 (aG Tryz.prog [((.af 8),none)] r7.2) (ak (bq 1 r1.1 r7.2) λr8=>ak (aY r8.1 r8.2) λr9=>ak (aD Tryz.prog .len #[64] 3 #[false] [r9.1] r9.2) λcd=>ak (az Tryz.prog .eql 3 false true cd.1 (.af 0) cd.2) λbF=>bp bF.1 (aG Tryz.prog [((.af 6),none)] bF.2) (ak (bq 1 r1.1 bF.2) λdr=>ak (aY dr.1 dr.2) λcq=>ak (aD Tryz.prog .len #[64] 3 #[false] [cq.1] cq.2) λdi=>ak (az Tryz.prog .gtr 3 false true di.1 (.af 16) di.2) λbQ=>bp bQ.1 (aG Tryz.prog [((.af 3),none)] bQ.2) (ak (bq 1 r1.1 bQ.2) λcK=>ak (aY cK.1 cK.2) λcT=>ak (call (cV 73) [cT.1,(cV 74)] cT.2) λdC=>bp dC.1 (aG Tryz.prog [((.af 7),none)] dC.2) (ak (bq 2 r1.1 dC.2) λcL=>ak (aY cL.1 cL.2) λdq=>ak (call (cV 45) [dq.1,(.af 0),(.af 64)] dq.2) λd9=>bp d9.1 (aG Tryz.prog [((.af 7),none)] d9.2) (aG Tryz.prog [((.af 0),none)] d9.2))))))
def yi{x0 x1:ae}{W:AW}{r:ae×AW}(h:vN bD x0 x1 W=some r):bD (.func (.func 47) #[] #[]) [x0,x1] W=some (gc W r):=b8 (nt:=32) (n:=2) (by kernel_rfl) (by kernel_rfl) rfl (aL (by kernel_rfl) h)
def rO(call:Eng.Callee)(x0:ae)(W:AW):Option (ae×AW):=ak (cN x0 W) λr1=>ak (sP (.func 81) #[] #[r1.1] r1.2) λr2=>aG Tryz.prog [(r2.1,none)] r2.2
def zE{x0:ae}{W:AW}{r:ae×AW}(h:rO bD x0 W=some r):bD (.func (.func 62) #[] #[]) [x0] W=some (gc W r):=b8 (nt:=4) (n:=1) (by kernel_rfl) (by kernel_rfl) rfl (aL (by kernel_rfl) h)
def sH(call:Eng.Callee)(x0:ae)(W:AW):Option (ae×AW):=ak (cN x0 W) λr1=>ak (b9 12 r1.1 r1.2) λr2=>ak (call (cV 75) [r2.1] r2.2) λr3=>ak (az Tryz.prog .neq 30 false true r3.1 (.af 0) r3.2) λr4=>bp r4.1 (aG Tryz.prog [((.af 0),none),((.af 0),none),(r3.1,none)] r4.2) (ak (bq 0 r1.1 r4.2) λr5=>ak (aY r5.1 r5.2) λr6=>ak (Ik 13 1 (Yf 0) r6.1 r6.2) λr7=>ak (aY r7.1 r7.2) λr8=>ak (az Tryz.prog .and 3 false true r8.1 (.af 4) r8.2) λr9=>ak (az Tryz.prog .neq 3 false true r9.1 (.af 0) r9.2) λcd=>bp cd.1 (ak (bq 3 r1.1 cd.2) λbF=>ak (aY bF.1 bF.2) λdr=>aG Tryz.prog [(dr.1,none),((.af (-1)),none),((.af 0),none)] dr.2) (ak (az Tryz.prog .and 3 false true r8.1 (.af 64) cd.2) λcq=>ak (az Tryz.prog .neq 3 false true cq.1 (.af 0) cq.2) λdi=>bp di.1 (ak (bq 7 r1.1 di.2) λbQ=>ak (bq 0 bQ.1 bQ.2) λcK=>ak (aY cK.1 cK.2) λcT=>ak (wg Tryz.prog 36 3 cT.1 cT.2) λdC=>aG Tryz.prog [(dC.1,none),((.af (-1)),none),((.af 0),none)] dC.2) (ak (az Tryz.prog .and 3 false true r8.1 (.af 8) di.2) λcL=>ak (az Tryz.prog .neq 3 false true cL.1 (.af 0) cL.2) λdq=>bp dq.1 (ak (bq 4 r1.1 dq.2) λd9=>ak (aY d9.1 d9.2) λeK=>aG Tryz.prog [((.af (-1)),none),(eK.1,none),((.af 0),none)] eK.2) (aG Tryz.prog [((.af (-1)),none),((.af (-1)),none),((.af 0),none)] dq.2))))
def wj{x0:ae}{W:AW}{r:ae×AW}(h:sH bD x0 W=some r):bD (.func (.func 66) #[] #[]) [x0] W=some (gc W r):=b8 (nt:=38) (n:=1) (by kernel_rfl) (by kernel_rfl) rfl (aL (by kernel_rfl) h)
def xR(call:Eng.Callee)(x0:ae)(W:AW):Option (ae×AW):=ak (az Tryz.prog .eql 9 false true x0 (xU []) W) λr1=>ak (a8 (bi r1.1 false) (i8 x0 r1.2) (some (ai,r1.2))) λr2=>ak (a8 (bi r1.1 false) (aD Tryz.prog .len #[9] 3 #[false] [r2.1] r2.2) (some (ai,r2.2))) λr3=>ak (a8 (bi r1.1 false) (az Tryz.prog .gtr 3 false true r3.1 (.af 16) r3.2) (some (ai,r3.2))) λr4=>ak (bU r1.1 (.bool true) r4.1 r4.2) λr5=>ak (a8 (bi r5.1 false) (i8 x0 r5.2) (some (ai,r5.2))) λr6=>ak (a8 (bi r5.1 false) (fR Tryz.prog 9 r6.1 (.af 0) r6.2) (some (ai,r6.2))) λr7=>ak (a8 (bi r5.1 false) (az Tryz.prog .lss 5 false true r7.1 (.int .u8 97) r7.2) (some (ai,r7.2))) λr8=>ak (bU r5.1 (.bool true) r8.1 r8.2) λr9=>ak (a8 (bi r9.1 false) (i8 x0 r9.2) (some (ai,r9.2))) λcd=>ak (a8 (bi r9.1 false) (fR Tryz.prog 9 cd.1 (.af 0) cd.2) (some (ai,cd.2))) λbF=>ak (a8 (bi r9.1 false) (az Tryz.prog .gtr 5 false true bF.1 (.int .u8 122) bF.2) (some (ai,bF.2))) λdr=>ak (bU r9.1 (.bool true) dr.1 dr.2) λcq=>bp cq.1 (aG Tryz.prog [((.bool false),none)] cq.2) (ak (call (cV 97) [x0,(xU [97,98,99,100,101,102,103,104,105,106,107,108,109,110,111,112,113,114,115,116,117,118,119,120,121,122,48,49,50,51,52,53,54,55,56,57,45])] cq.2) λdi=>ak (az Tryz.prog .eql 9 false true di.1 (xU []) di.2) λbQ=>aG Tryz.prog [(bQ.1,none)] bQ.2)
def z7{x0:ae}{W:AW}{r:ae×AW}(h:xR bD x0 W=some r):bD (.func (.func 70) #[] #[]) [x0] W=some (gc W r):=b8 (nt:=23) (n:=1) (by kernel_rfl) (by kernel_rfl) rfl (aL (by kernel_rfl) h)
def cJ(call:Eng.Callee)(x0 x1:ae)(W:AW):Option (ae×AW):=ak (call (cV 98) [x0,x1] W) λr1=>ak (az Tryz.prog .geq 3 false true r1.1 (.af 0) r1.2) λr2=>aG Tryz.prog [(r2.1,none)] r2.2
def eg{x0 x1:ae}{W:AW}{r:ae×AW}(h:cJ bD x0 x1 W=some r):bD (.func (.func 71) #[] #[]) [x0,x1] W=some (gc W r):=b8 (nt:=9) (n:=2) (by kernel_rfl) (by kernel_rfl) rfl (aL (by kernel_rfl) h)
def qX(call:Eng.Callee)(x0 x1:ae)(W:AW):Option (ae×AW):=ak (cN x0 W) λr1=>ak (bq 0 r1.1 r1.2) λr2=>ak (aY r2.1 r2.2) λr3=>ak (bq 0 x1 r3.2) λr4=>ak (aY r4.1 r4.2) λr5=>ak (az Tryz.prog .eql 9 false false r3.1 r5.1 r5.2) λr6=>aG Tryz.prog [(r6.1,none)] r6.2
def ve{x0 x1:ae}{W:AW}{r:ae×AW}(h:qX bD x0 x1 W=some r):bD (.func (.func 72) #[] #[x1]) [x0] W=some (gc W r):=b8 (nt:=9) (n:=2) (by kernel_rfl) (by kernel_rfl) rfl (aL (by kernel_rfl) h)
def gt(call:Eng.Callee)(x0 x1:ae)(W:AW):Option (ae×AW):=ak (call (cV 99) [x0,x1] W) λr1=>ak (az Tryz.prog .geq 3 false true r1.1 (.af 0) r1.2) λr2=>aG Tryz.prog [(r2.1,none)] r2.2
def jM{x0 x1:ae}{W:AW}{r:ae×AW}(h:gt bD x0 x1 W=some r):bD (.func (.func 73) #[] #[]) [x0,x1] W=some (gc W r):=b8 (nt:=9) (n:=2) (by kernel_rfl) (by kernel_rfl) rfl (aL (by kernel_rfl) h)
def rk(call:Eng.Callee)(x0:ae)(W:AW):Option (ae×AW):=ak (call (cV 45) [x0,(.af 1),(.af 64)] W) λr1=>aG Tryz.prog [(r1.1,none)] r1.2
def vn{x0:ae}{W:AW}{r:ae×AW}(h:rk bD x0 W=some r):bD (.func (.func 74) #[] #[]) [x0] W=some (gc W r):=b8 (nt:=5) (n:=1) (by kernel_rfl) (by kernel_rfl) rfl (aL (by kernel_rfl) h)
def vw(call:Eng.Callee)(x0 x1:ae)(W:AW):Option (ae×AW):=ak (cN x0 W) λr1=>ak (cN x1 r1.2) λr2=>ak (b9 4 r1.1 r2.2) λr3=>ak (b9 12 r2.1 r3.2) λr4=>ak (call (cV 101) [r3.1,r4.1] r4.2) λr5=>ak (au r5.1 0 r5.2) λr6=>ak (au r5.1 1 r6.2) λr7=>ak (az Tryz.prog .neq 30 false true r7.1 (.af 0) r7.2) λr8=>bp r8.1 (aG Tryz.prog [((.af 0),none),(r7.1,none)] r8.2) (ak (aD Tryz.prog .len #[64] 3 #[false] [r6.1] r8.2) λr9=>ak (az Tryz.prog .mul 3 true false (.af 2) r9.1 r9.2) λcd=>ak (az Tryz.prog .add 3 false true cd.1 (.af 1) cd.2) λbF=>aG Tryz.prog [(bF.1,none),((.af 0),none)] bF.2)
def yD{x0 x1:ae}{W:AW}{r:ae×AW}(h:vw bD x0 x1 W=some r):bD (.func (.func 77) #[] #[]) [x0,x1] W=some (gc W r):=b8 (nt:=21) (n:=2) (by kernel_rfl) (by kernel_rfl) rfl (aL (by kernel_rfl) h)
def gS(call:Eng.Callee)(R:Nat->ae)(W:AW):Option LT:=ak (az Tryz.prog .lss 3 false false (R 19) (R 18) W) λdr=>bp dr.1 (ak (j0 1 (R 17) (R 19) dr.2) λcq=>ak (aY cq.1 cq.2) λdi=>ak (cn Tryz.prog 140 [(0,(R 4)),(1,(R 19)),(2,(R 3)),(3,di.1)] di.2) λbQ=>ak (call (R 0) [bQ.1] bQ.2) λcK=>ak (IE Tryz.prog .not cK.1 cK.2) λcT=>bp cT.1 (some (X.ret,(bN R [(20,dr.1),(21,(R 19)),(22,cq.1),(23,di.1),(6,(R 19)),(7,di.1),(24,(R 0)),(25,(R 4)),(26,(R 19)),(27,(R 3)),(28,di.1),(29,bQ.1),(30,cK.1),(31,cT.1)]),cT.2)) (ak (az Tryz.prog .add 3 false false (R 3) di.1 cT.2) λdC=>ak (az Tryz.prog .add 3 false true (R 19) (.af 1) dC.2) λcL=>some (X.normal,(bN R [(20,dr.1),(21,(R 19)),(22,cq.1),(23,di.1),(6,(R 19)),(7,di.1),(24,(R 0)),(25,(R 4)),(26,(R 19)),(27,(R 3)),(28,di.1),(29,bQ.1),(30,cK.1),(31,cT.1),(32,(R 3)),(33,di.1),(34,dC.1),(3,dC.1),(35,cL.1),(19,cL.1)]),cL.2))) (some (X.exit 2,(dw R (some 20) dr.1),dr.2))
def jH(call:Eng.Callee)(R:Nat->ae)(W:AW):Option LT:=ak (az Tryz.prog .lss 3 false false (R 11) (R 10) W) λr4=>bp r4.1 (ak (j0 3 (R 9) (R 11) r4.2) λr5=>ak (b9 3 r5.1 r5.2) λr6=>ak (bh Tryz.prog 66 r6.2) λr7=>ak (cS 3 r7.1 r6.1 r7.2) λr8=>ak (bq 1 r7.1 r8.2) λr9=>ak (aY r9.1 r9.2) λcd=>ak (aD Tryz.prog .len #[64] 3 #[false] [cd.1] cd.2) λbF=>ak (dP (gS call) (bN R [(12,r4.1),(13,(R 11)),(14,r5.1),(15,r6.1),(5,r7.1),(4,(R 11)),(16,r9.1),(17,cd.1),(18,bF.1),(19,(.af 0))]) bF.2) λdq=>eQ 2 dq.1 (ak (az Tryz.prog .add 3 false true (dq.2.1 11) (.af 1) dq.2.2) λd9=>some (X.normal,(bN dq.2.1 [(36,d9.1),(11,d9.1)]),d9.2)) (jG dq.1 (some (X.ret,dq.2.1,dq.2.2)))) (some (X.exit 0,(dw R (some 12) r4.1),r4.2))
def nL(call:Eng.Callee)(x0 x1:ae)(W:AW):Option (ae×AW):=ak (bq 3 x1 W) λr1=>ak (aY r1.1 r1.2) λr2=>ak (aD Tryz.prog .len #[22] 3 #[false] [r2.1] r2.2) λr3=>ak (dP (jH call) (bN (eD 0 [x0,x1] aj.blank) [(3,(.af 0)),(8,r1.1),(9,r2.1),(10,r3.1),(11,(.af 0))]) r3.2) λeK=>eQ 0 eK.1 (aG Tryz.prog [] eK.2.2) (jG eK.1 (aG Tryz.prog [] eK.2.2))
def wy{x0 x1:ae}{W:AW}{r:ae×AW}(h:nL bD x0 x1 W=some r):bD (.func (.func 81) #[] #[x1]) [x0] W=some (gc W r):=b8 (nt:=37) (n:=2) (by kernel_rfl) (by kernel_rfl) rfl (aL (by kernel_rfl) h)
def tb(call:Eng.Callee)(x0 x1:ae)(W:AW):Option (ae×AW):=ak (az Tryz.prog .eql 9 false true x0 (xU []) W) λr1=>ak (a8 (bi r1.1 false) (i8 x1 r1.2) (some (ai,r1.2))) λr2=>ak (a8 (bi r1.1 false) (az Tryz.prog .eql 9 false true r2.1 (xU []) r2.2) (some (ai,r2.2))) λr3=>ak (bU r1.1 (.bool true) r3.1 r3.2) λr4=>bp r4.1 (aG Tryz.prog [(x0,none)] r4.2) (ak (aD Tryz.prog .len #[9] 3 #[false] [x1] r4.2) λr5=>ak (az Tryz.prog .eql 3 false true r5.1 (.af 1) r5.2) λr6=>ak (a8 (bi r6.1 true) (i8 x1 r6.2) (some (ai,r6.2))) λr7=>ak (a8 (bi r6.1 true) (fR Tryz.prog 9 r7.1 (.af 0) r7.2) (some (ai,r7.2))) λr8=>ak (a8 (bi r6.1 true) (az Tryz.prog .lss 5 false true r8.1 (.int .u8 128) r8.2) (some (ai,r8.2))) λr9=>ak (bU r6.1 r9.1 (.bool false) r9.2) λcd=>bp cd.1 (ak (fR Tryz.prog 9 x1 (.af 0) cd.2) λbF=>ak (fR Tryz.prog 9 x1 (.af 0) bF.2) λdr=>ak (call (cV 131) [x0,bF.1] dr.2) λcq=>ak (call (cV 130) [cq.1,dr.1] cq.2) λdi=>aG Tryz.prog [(di.1,none)] di.2) (ak (call (cV 132) [x1] cd.2) λbQ=>ak (au bQ.1 0 bQ.2) λcK=>ak (au bQ.1 1 cK.2) λcT=>ak (bh Tryz.prog 212 cT.2) λdC=>ak (cS 256 dC.1 cK.1 dC.2) λcL=>bp cT.1 (ak (call (cV 134) [x0,dC.1] cL.2) λdq=>ak (call (cV 133) [dq.1,dC.1] dq.2) λd9=>aG Tryz.prog [(d9.1,none)] d9.2) (ak (call (cV 136) [x0,x1] cL.2) λeK=>ak (call (cV 135) [eK.1,x1] eK.2) λeP=>aG Tryz.prog [(eP.1,none)] eP.2)))
def wG{x0 x1:ae}{W:AW}{r:ae×AW}(h:tb bD x0 x1 W=some r):bD (.func (.func 97) #[] #[]) [x0,x1] W=some (gc W r):=b8 (nt:=43) (n:=2) (by kernel_rfl) (by kernel_rfl) rfl (aL (by kernel_rfl) h)
def bM(call:Eng.Callee)(R:Nat->ae)(W:AW):Option LT:=ak (az Tryz.prog .lss 3 false false (R 8) (R 7) W) λr2=>bp r2.1 (ak (j0 3 (R 0) (R 8) r2.2) λr3=>ak (b9 3 r3.1 r3.2) λr4=>ak (call (R 1) [r4.1] r4.2) λr5=>bp r5.1 (some (X.ret,(bN R [(9,r2.1),(10,(R 8)),(5,(R 8)),(11,(R 1)),(12,(R 0)),(13,(R 8)),(14,r3.1),(15,r4.1),(16,r5.1),(17,(R 8)),(4,(R 8))]),r5.2)) (ak (az Tryz.prog .add 3 false true (R 8) (.af 1) r5.2) λr6=>some (X.normal,(bN R [(9,r2.1),(10,(R 8)),(5,(R 8)),(11,(R 1)),(12,(R 0)),(13,(R 8)),(14,r3.1),(15,r4.1),(16,r5.1),(18,r6.1),(8,r6.1)]),r6.2))) (some (X.exit 0,(dw R (some 9) r2.1),r2.2))
def cY(call:Eng.Callee)(x0 x1:ae)(W:AW):Option (ae×AW):=ak (aD Tryz.prog .len #[22] 3 #[false] [x0] W) λr1=>ak (dP (bM call) (bN (eD 0 [x0,x1] aj.blank) [(4,(.af 0)),(6,x0),(7,r1.1),(8,(.af 0))]) r1.2) λr7=>eQ 0 r7.1 (aG Tryz.prog [((.af (-1)),none)] r7.2.2) (jG r7.1 (aG Tryz.prog [((r7.2.1 4),none)] r7.2.2))
def eV{x0 x1:ae}{W:AW}{r:ae×AW}(h:cY bD x0 x1 W=some r):bD (.func (.func 98) #[] #[]) [x0,x1] W=some (gc W r):=b8 (nt:=19) (n:=2) (by kernel_rfl) (by kernel_rfl) rfl (aL (by kernel_rfl) h)
def ee(call:Eng.Callee)(R:Nat->ae)(W:AW):Option LT:=ak (az Tryz.prog .lss 3 false false (R 8) (R 7) W) λr2=>bp r2.1 (ak (j0 1 (R 0) (R 8) r2.2) λr3=>ak (aY r3.1 r3.2) λr4=>ak (call (R 1) [r4.1] r4.2) λr5=>bp r5.1 (some (X.ret,(bN R [(9,r2.1),(10,(R 8)),(5,(R 8)),(11,(R 1)),(12,(R 0)),(13,(R 8)),(14,r3.1),(15,r4.1),(16,r5.1),(17,(R 8)),(4,(R 8))]),r5.2)) (ak (az Tryz.prog .add 3 false true (R 8) (.af 1) r5.2) λr6=>some (X.normal,(bN R [(9,r2.1),(10,(R 8)),(5,(R 8)),(11,(R 1)),(12,(R 0)),(13,(R 8)),(14,r3.1),(15,r4.1),(16,r5.1),(18,r6.1),(8,r6.1)]),r6.2))) (some (X.exit 0,(dw R (some 9) r2.1),r2.2))
def iP(call:Eng.Callee)(x0 x1:ae)(W:AW):Option (ae×AW):=ak (aD Tryz.prog .len #[64] 3 #[false] [x0] W) λr1=>ak (dP (ee call) (bN (eD 0 [x0,x1] aj.blank) [(4,(.af 0)),(6,x0),(7,r1.1),(8,(.af 0))]) r1.2) λr7=>eQ 0 r7.1 (aG Tryz.prog [((.af (-1)),none)] r7.2.2) (jG r7.1 (aG Tryz.prog [((r7.2.1 4),none)] r7.2.2))
def lQ{x0 x1:ae}{W:AW}{r:ae×AW}(h:iP bD x0 x1 W=some r):bD (.func (.func 99) #[] #[]) [x0,x1] W=some (gc W r):=b8 (nt:=19) (n:=2) (by kernel_rfl) (by kernel_rfl) rfl (aL (by kernel_rfl) h)
def pK(call:Eng.Callee)(R:Nat->ae)(W:AW):Option LT:=ak (bh Tryz.prog 135 W) λcK=>ak (cS 2 cK.1 (R 25) cK.2) λcT=>some (X.normal,(bN R [(10,(R 24)),(11,cK.1)]),cT.2)
def tV(call:Eng.Callee)(R:Nat->ae)(W:AW):eZ Tryz.prog call false 31 (CP [1,1,1,0,1,0,0] (K0 100)) LT R W j7=pK call R W:=by kernel_rfl
def oY(call:Eng.Callee)(R:Nat->ae)(W:AW):Option LT:=ak (aY (R 5) W) λdC=>ak (az Tryz.prog .eql 3 false false (R 10) dC.1 dC.2) λcL=>bp cL.1 (ak (b9 2 (R 11) cL.2) λdq=>ak (cS 2 (R 6) dq.1 dq.2) λd9=>ak (cS 1 (R 7) (.af 0) d9.2) λeK=>some (X.ret,(bN R [(26,(R 10)),(27,dC.1),(28,cL.1),(29,dq.1)]),eK.2)) (some (X.normal,(bN R [(26,(R 10)),(27,dC.1),(28,cL.1)]),cL.2))
def sY(call:Eng.Callee)(R:Nat->ae)(W:AW):eZ Tryz.prog call false 31 (CP [1,1,1,0,1,0,1] (K0 100)) LT R W j7=oY call R W:=by kernel_rfl
def xw(call:Eng.Callee)(x0 x1 x2:ae)(W:AW):Option (ae×AW):=ak (cN x0 W) λr1=>ak (cN x1 r1.2) λr2=>ak (cN x2 r2.2) λr3=>ak (bh Tryz.prog 135 r3.2) λr4=>ak (bh Tryz.prog 30 r4.2) λr5=>ak (b9 4 r1.1 r5.2) λr6=>ak (b9 12 r2.1 r6.2) λr7=>ak (call (cV 101) [r6.1,r7.1] r7.2) λr8=>ak (au r8.1 0 r8.2) λr9=>ak (au r8.1 1 r9.2) λcd=>ak (az Tryz.prog .neq 30 false true cd.1 (.af 0) cd.2) λbF=>bp bF.1 (ak (cn Tryz.prog 135 [] bF.2) λdr=>ak (cS 2 r4.1 dr.1 dr.2) λcq=>ak (cS 1 r5.1 cd.1 cq.2) λdi=>aG Tryz.prog [(r4.1,some 135),(r5.1,some 30)] di.2) (ak (call (cV 137) [r9.1] bF.2) λbQ=>ak (gQ call bQ.1 (.loop .ready none (bN (eD 0 [x0,x1,x2] aj.blank) [(3,r1.1),(4,r2.1),(5,r3.1),(6,r4.1),(7,r5.1),(13,r6.1),(14,r7.1),(15,r8.1),(12,r8.1),(16,r9.1),(17,cd.1),(8,r9.1),(9,cd.1),(18,cd.1),(19,bF.1),(22,r9.1),(23,bQ.1)]) 31 #[24,25] (CP [1,1,1,0,1,0,0] (K0 100)) (CP [1,1,1,0,1,0,1] (K0 100))) bQ.2) λeP=>oG eP.1 (ak (cn Tryz.prog 135 [] eP.2) λej=>ak (cS 2 r4.1 ej.1 ej.2) λdZ=>ak (cS 1 r5.1 (.af 7) dZ.2) λgi=>aG Tryz.prog [(r4.1,some 135),(r5.1,some 30)] gi.2) (jG eP.1 (aG Tryz.prog [(r4.1,some 135),(r5.1,some 30)] eP.2)))
def z8{x0 x1 x2:ae}{W:AW}{r:ae×AW}(h:xw bD x0 x1 x2 W=some r):bD (.func (.func 100) #[] #[]) [x0,x1,x2] W=some (gc W r):=b8 (nt:=31) (n:=3) (by kernel_rfl) (by kernel_rfl) rfl (aL (by kernel_rfl) h)
def lj(call:Eng.Callee)(R:Nat->ae)(W:AW):Option LT:=ak (az Tryz.prog .lss 3 false false (R 64) (R 63) W) λeP=>bp eP.1 (ak (aC Tryz.prog 64 1 [(0,(R 64))] eP.2) λej=>ak (aN Tryz.prog ej.2 #[64,64] (R 11) ej.1) λdZ=>ak (az Tryz.prog .add 3 false true (R 64) (.af 1) dZ.2) λgi=>some (X.normal,(bN R [(65,eP.1),(66,(R 64)),(12,(R 64)),(67,(R 11)),(68,(R 64)),(69,ej.1),(70,dZ.1),(11,dZ.1),(71,gi.1),(64,gi.1)]),gi.2)) (some (X.exit 6,(dw R (some 65) eP.1),eP.2))
def vO(call:Eng.Callee)(x0 x1:ae)(W:AW):Option (ae×AW):=ak (cN x0 W) λr1=>ak (cN x1 r1.2) λr2=>ak (b9 4 r1.1 r2.2) λr3=>ak (call (cV 33) [r3.1] r3.2) λr4=>ak (au r4.1 0 r4.2) λr5=>ak (au r4.1 1 r5.2) λr6=>ak (az Tryz.prog .neq 30 false true r6.1 (.af 0) r6.2) λr7=>bp r7.1 (aG Tryz.prog [((.slice none 0 0),none),(r6.1,none)] r7.2) (ak (b9 12 r2.1 r7.2) λr8=>ak (call (cV 66) [r8.1] r8.2) λr9=>ak (au r9.1 0 r9.2) λcd=>ak (au r9.1 1 cd.2) λbF=>ak (au r9.1 2 bF.2) λdr=>ak (az Tryz.prog .neq 30 false true dr.1 (.af 0) dr.2) λcq=>bp cq.1 (aG Tryz.prog [((.slice none 0 0),none),(dr.1,none)] cq.2) (ak (bq 0 r2.1 cq.2) λdi=>ak (aY di.1 di.2) λbQ=>ak (az Tryz.prog .eql 3 false true bQ.1 (.af 12) bQ.2) λcK=>bp cK.1 (ak (bq 0 r1.1 cK.2) λcT=>ak (aY cT.1 cT.2) λdC=>ak (bq 3 r1.1 dC.2) λcL=>ak (aY cL.1 cL.2) λdq=>ak (aD Tryz.prog .len #[22] 3 #[false] [dq.1] dq.2) λd9=>ak (az Tryz.prog .add 3 false false dC.1 d9.1 d9.2) λeK=>ak (dP (lj call) (bN (eD 0 [x0,x1] aj.blank) [(2,r1.1),(3,r2.1),(4,(.slice none 0 0)),(5,(.af 0)),(24,r3.1),(25,r4.1),(23,r4.1),(26,r5.1),(27,r6.1),(6,r5.1),(7,r6.1),(28,r6.1),(29,r7.1),(32,r8.1),(33,r9.1),(31,r9.1),(34,cd.1),(35,bF.1),(36,dr.1),(8,cd.1),(9,bF.1),(10,dr.1),(37,dr.1),(38,cq.1),(11,(.slice none 0 0)),(40,di.1),(41,bQ.1),(43,cK.1),(42,cK.1),(58,cT.1),(59,dC.1),(60,cL.1),(61,dq.1),(62,d9.1),(63,eK.1),(64,(.af 0))]) eK.2) λgf=>eQ 6 gf.1 (aG Tryz.prog [((gf.2.1 11),none),((.af 0),none)] gf.2.2) (none)) (ak (az Tryz.prog .eql 3 false true bQ.1 (.af 3) cK.2) λgL=>bp gL.1 (ak (b9 4 r1.1 gL.2) λfz=>ak (call (cV 138) [fz.1,bF.1] fz.2) λie=>ak (au ie.1 0 ie.2) λgq=>ak (au ie.1 1 gq.2) λig=>ak (az Tryz.prog .eql 30 false true ig.1 (.af 0) ig.2) λeU=>bp eU.1 (aG Tryz.prog [(gq.1,none),((.af 0),none)] eU.2) (aG Tryz.prog [((.slice none 0 0),none),((.af 0),none)] eU.2)) (ak (az Tryz.prog .eql 3 false true bQ.1 (.af 4) gL.2) λeE=>bp eE.1 (bp eE.1 (ak (b9 4 r1.1 eE.2) λfk=>ak (call (cV 139) [fk.1,cd.1] fk.2) λgh=>ak (au gh.1 0 gh.2) λii=>ak (au gh.1 1 ii.2) λkA=>ak (bh Tryz.prog 167 kA.2) λkm=>ak (cS 3 km.1 ii.1 km.2) λkv=>ak (az Tryz.prog .eql 30 false true kA.1 (.af 0) kv.2) λk9=>bp k9.1 (ak (b9 4 r1.1 k9.2) λlO=>ak (bq 0 km.1 lO.2) λj5=>ak (aY j5.1 j5.2) λkH=>ak (call (cV 140) [lO.1,kH.1] kH.2) λiS=>ak (au iS.1 0 iS.2) λns=>ak (au iS.1 1 ns.2) λqs=>ak (aC Tryz.prog 64 1 [(0,ns.1)] qs.2) λqD=>ak (aN Tryz.prog qD.2 #[64,64] (.slice none 0 0) qD.1) λrD=>ak (b9 4 r1.1 rD.2) λrB=>ak (call (cV 141) [rB.1,cd.1] rB.2) λtd=>ak (au td.1 0 td.2) λzM=>ak (au td.1 1 zM.2) λAM=>ak (az Tryz.prog .eql 30 false true AM.1 (.af 0) AM.2) λzJ=>bp zJ.1 (ak (aC Tryz.prog 64 1 [(0,zM.1)] zJ.2) λAB=>ak (aN Tryz.prog AB.2 #[64,64] AB.1 rD.1) λyy=>aG Tryz.prog [(yy.1,none),((.af 0),none)] yy.2) (aG Tryz.prog [(rD.1,none),((.af 0),none)] zJ.2)) (ak (b9 4 r1.1 k9.2) λEK=>ak (call (cV 141) [EK.1,cd.1] EK.2) λAi=>ak (au Ai.1 0 Ai.2) λCv=>ak (au Ai.1 1 Cv.2) λCK=>ak (az Tryz.prog .eql 30 false true CK.1 (.af 0) CK.2) λCM=>bp CM.1 (ak (aC Tryz.prog 64 1 [(0,Cv.1)] CM.2) λG1=>ak (aN Tryz.prog G1.2 #[64,64] G1.1 (.slice none 0 0)) λHr=>aG Tryz.prog [(Hr.1,none),((.af 0),none)] Hr.2) (aG Tryz.prog [((.slice none 0 0),none),((.af 0),none)] CM.2))) (ak (az Tryz.prog .eql 3 false true bQ.1 (.af 2) eE.2) λAz=>bp Az.1 (bp Az.1 (ak (b9 4 r1.1 Az.2) λCO=>ak (call (cV 141) [CO.1,cd.1] CO.2) λFj=>ak (au Fj.1 0 Fj.2) λDw=>ak (au Fj.1 1 Dw.2) λza=>ak (az Tryz.prog .eql 30 false true za.1 (.af 0) za.2) λCN=>bp CN.1 (ak (aC Tryz.prog 64 1 [(0,Dw.1)] CN.2) λCR=>ak (aN Tryz.prog CR.2 #[64,64] CR.1 (.slice none 0 0)) λtD=>aG Tryz.prog [(tD.1,none),((.af 0),none)] tD.2) (aG Tryz.prog [((.slice none 0 0),none),((.af 0),none)] CN.2)) (ak (az Tryz.prog .eql 3 false true bQ.1 (.af 10) Az.2) λzx=>bp zx.1 (bp zx.1 (ak (b9 4 r1.1 zx.2) λFi=>ak (call (cV 140) [Fi.1,bF.1] Fi.2) λue=>ak (au ue.1 0 ue.2) λFt=>ak (au ue.1 1 Ft.2) λDy=>ak (az Tryz.prog .eql 30 false true Dy.1 (.af 0) Dy.2) λEm=>bp Em.1 (ak (aC Tryz.prog 64 1 [(0,Ft.1)] Em.2) λFk=>ak (aN Tryz.prog Fk.2 #[64,64] (.slice none 0 0) Fk.1) λHa=>aG Tryz.prog [(Ha.1,none),((.af 0),none)] Ha.2) (aG Tryz.prog [((.slice none 0 0),none),((.af 0),none)] Em.2)) (aG Tryz.prog [((.slice none 0 0),none),((.af 0),none)] zx.2)) (ak (az Tryz.prog .eql 3 false true bQ.1 (.af 11) zx.2) λFg=>bp Fg.1 (ak (b9 4 r1.1 Fg.2) λI2=>ak (call (cV 140) [I2.1,bF.1] I2.2) λIq=>ak (au Iq.1 0 Iq.2) λKW=>ak (au Iq.1 1 KW.2) λxf=>ak (az Tryz.prog .eql 30 false true xf.1 (.af 0) xf.2) λH4=>bp H4.1 (ak (aC Tryz.prog 64 1 [(0,KW.1)] H4.2) λKY=>ak (aN Tryz.prog KY.2 #[64,64] (.slice none 0 0) KY.1) λKc=>aG Tryz.prog [(Kc.1,none),((.af 0),none)] Kc.2) (aG Tryz.prog [((.slice none 0 0),none),((.af 0),none)] H4.2)) (aG Tryz.prog [((.slice none 0 0),none),((.af 0),none)] Fg.2)))) (ak (az Tryz.prog .eql 3 false true bQ.1 (.af 5) Az.2) λFF=>bp FF.1 (bp FF.1 (ak (b9 4 r1.1 FF.2) λKS=>ak (call (cV 141) [KS.1,cd.1] KS.2) λJt=>ak (au Jt.1 0 Jt.2) λze=>ak (au Jt.1 1 ze.2) λLr=>ak (az Tryz.prog .eql 30 false true Lr.1 (.af 0) Lr.2) λKt=>bp Kt.1 (ak (aC Tryz.prog 64 1 [(0,ze.1)] Kt.2) λEQ=>ak (aN Tryz.prog EQ.2 #[64,64] EQ.1 (.slice none 0 0)) λJG=>aG Tryz.prog [(JG.1,none),((.af 0),none)] JG.2) (aG Tryz.prog [((.slice none 0 0),none),((.af 0),none)] Kt.2)) (ak (az Tryz.prog .eql 3 false true bQ.1 (.af 10) FF.2) λGp=>bp Gp.1 (bp Gp.1 (ak (b9 4 r1.1 Gp.2) λKV=>ak (call (cV 140) [KV.1,bF.1] KV.2) λIJ=>ak (au IJ.1 0 IJ.2) λMQ=>ak (au IJ.1 1 MQ.2) λuM=>ak (az Tryz.prog .eql 30 false true uM.1 (.af 0) uM.2) λuB=>bp uB.1 (ak (aC Tryz.prog 64 1 [(0,MQ.1)] uB.2) λwA=>ak (aN Tryz.prog wA.2 #[64,64] (.slice none 0 0) wA.1) λzt=>aG Tryz.prog [(zt.1,none),((.af 0),none)] zt.2) (aG Tryz.prog [((.slice none 0 0),none),((.af 0),none)] uB.2)) (aG Tryz.prog [((.slice none 0 0),none),((.af 0),none)] Gp.2)) (ak (az Tryz.prog .eql 3 false true bQ.1 (.af 11) Gp.2) λnR=>bp nR.1 (ak (b9 4 r1.1 nR.2) λwx=>ak (call (cV 140) [wx.1,bF.1] wx.2) λuG=>ak (au uG.1 0 uG.2) λkz=>ak (au uG.1 1 kz.2) λyL=>ak (az Tryz.prog .eql 30 false true yL.1 (.af 0) yL.2) λs7=>bp s7.1 (ak (aC Tryz.prog 64 1 [(0,kz.1)] s7.2) λwC=>ak (aN Tryz.prog wC.2 #[64,64] (.slice none 0 0) wC.1) λwm=>aG Tryz.prog [(wm.1,none),((.af 0),none)] wm.2) (aG Tryz.prog [((.slice none 0 0),none),((.af 0),none)] s7.2)) (aG Tryz.prog [((.slice none 0 0),none),((.af 0),none)] nR.2)))) (ak (az Tryz.prog .eql 3 false true bQ.1 (.af 6) FF.2) λsu=>bp su.1 (bp su.1 (ak (b9 4 r1.1 su.2) λyc=>ak (call (cV 141) [yc.1,cd.1] yc.2) λrP=>ak (au rP.1 0 rP.2) λwI=>ak (au rP.1 1 wI.2) λCq=>ak (az Tryz.prog .eql 30 false true Cq.1 (.af 0) Cq.2) λzV=>bp zV.1 (ak (aC Tryz.prog 64 1 [(0,wI.1)] zV.2) λBH=>ak (aN Tryz.prog BH.2 #[64,64] BH.1 (.slice none 0 0)) λBi=>aG Tryz.prog [(Bi.1,none),((.af 0),none)] Bi.2) (aG Tryz.prog [((.slice none 0 0),none),((.af 0),none)] zV.2)) (ak (az Tryz.prog .eql 3 false true bQ.1 (.af 10) su.2) λyR=>bp yR.1 (bp yR.1 (ak (b9 4 r1.1 yR.2) λBN=>ak (call (cV 140) [BN.1,bF.1] BN.2) λEs=>ak (au Es.1 0 Es.2) λHl=>ak (au Es.1 1 Hl.2) λpT=>ak (az Tryz.prog .eql 30 false true pT.1 (.af 0) pT.2) λrZ=>bp rZ.1 (ak (aC Tryz.prog 64 1 [(0,Hl.1)] rZ.2) λE2=>ak (aN Tryz.prog E2.2 #[64,64] (.slice none 0 0) E2.1) λDM=>aG Tryz.prog [(DM.1,none),((.af 0),none)] DM.2) (aG Tryz.prog [((.slice none 0 0),none),((.af 0),none)] rZ.2)) (aG Tryz.prog [((.slice none 0 0),none),((.af 0),none)] yR.2)) (ak (az Tryz.prog .eql 3 false true bQ.1 (.af 11) yR.2) λCu=>bp Cu.1 (ak (b9 4 r1.1 Cu.2) λHe=>ak (call (cV 140) [He.1,bF.1] He.2) λuw=>ak (au uw.1 0 uw.2) λEa=>ak (au uw.1 1 Ea.2) λHs=>ak (az Tryz.prog .eql 30 false true Hs.1 (.af 0) Hs.2) λlS=>bp lS.1 (ak (aC Tryz.prog 64 1 [(0,Ea.1)] lS.2) λDC=>ak (aN Tryz.prog DC.2 #[64,64] (.slice none 0 0) DC.1) λEf=>aG Tryz.prog [(Ef.1,none),((.af 0),none)] Ef.2) (aG Tryz.prog [((.slice none 0 0),none),((.af 0),none)] lS.2)) (aG Tryz.prog [((.slice none 0 0),none),((.af 0),none)] Cu.2)))) (ak (az Tryz.prog .eql 3 false true bQ.1 (.af 9) su.2) λBf=>bp Bf.1 (ak (b9 4 r1.1 Bf.2) λEy=>ak (call (cV 141) [Ey.1,cd.1] Ey.2) λCw=>ak (au Cw.1 0 Cw.2) λEV=>ak (au Cw.1 1 EV.2) λEA=>ak (az Tryz.prog .eql 30 false true EA.1 (.af 0) EA.2) λBT=>bp BT.1 (ak (aC Tryz.prog 64 1 [(0,EV.1)] BT.2) λEI=>ak (aN Tryz.prog EI.2 #[64,64] EI.1 (.slice none 0 0)) λwF=>aG Tryz.prog [(wF.1,none),((.af 0),none)] wF.2) (aG Tryz.prog [((.slice none 0 0),none),((.af 0),none)] BT.2)) (ak (az Tryz.prog .eql 3 false true bQ.1 (.af 10) Bf.2) λxY=>bp xY.1 (bp xY.1 (ak (b9 4 r1.1 xY.2) λDN=>ak (call (cV 140) [DN.1,bF.1] DN.2) λB6=>ak (au B6.1 0 B6.2) λDn=>ak (au B6.1 1 Dn.2) λFG=>ak (az Tryz.prog .eql 30 false true FG.1 (.af 0) FG.2) λCb=>bp Cb.1 (ak (aC Tryz.prog 64 1 [(0,Dn.1)] Cb.2) λIW=>ak (aN Tryz.prog IW.2 #[64,64] (.slice none 0 0) IW.1) λJ7=>aG Tryz.prog [(J7.1,none),((.af 0),none)] J7.2) (aG Tryz.prog [((.slice none 0 0),none),((.af 0),none)] Cb.2)) (aG Tryz.prog [((.slice none 0 0),none),((.af 0),none)] xY.2)) (ak (az Tryz.prog .eql 3 false true bQ.1 (.af 11) xY.2) λG2=>bp G2.1 (ak (b9 4 r1.1 G2.2) λJK=>ak (call (cV 140) [JK.1,bF.1] JK.2) λN3=>ak (au N3.1 0 N3.2) λKk=>ak (au N3.1 1 Kk.2) λyT=>ak (az Tryz.prog .eql 30 false true yT.1 (.af 0) yT.2) λG7=>bp G7.1 (ak (aC Tryz.prog 64 1 [(0,Kk.1)] G7.2) λDF=>ak (aN Tryz.prog DF.2 #[64,64] (.slice none 0 0) DF.1) λML=>aG Tryz.prog [(ML.1,none),((.af 0),none)] ML.2) (aG Tryz.prog [((.slice none 0 0),none),((.af 0),none)] G7.2)) (aG Tryz.prog [((.slice none 0 0),none),((.af 0),none)] G2.2)))))))) (ak (az Tryz.prog .eql 3 false true bQ.1 (.af 8) eE.2) λNr=>bp Nr.1 (bp Nr.1 (ak (b9 4 r1.1 Nr.2) λYF=>ak (call (cV 139) [YF.1,cd.1] YF.2) λSO=>ak (au SO.1 0 SO.2) λYD=>ak (au SO.1 1 YD.2) λZd=>ak (bh Tryz.prog 167 Zd.2) λVF=>ak (cS 3 VF.1 YD.1 VF.2) λadW=>ak (az Tryz.prog .eql 30 false true Zd.1 (.af 0) adW.2) λVi=>bp Vi.1 (ak (b9 4 r1.1 Vi.2) λWs=>ak (bq 0 VF.1 Ws.2) λWz=>ak (aY Wz.1 Wz.2) λZa=>ak (call (cV 140) [Ws.1,Za.1] Za.2) λSA=>ak (au SA.1 0 SA.2) λXO=>ak (au SA.1 1 XO.2) λaev=>ak (aC Tryz.prog 64 1 [(0,XO.1)] aev.2) λWL=>ak (aN Tryz.prog WL.2 #[64,64] (.slice none 0 0) WL.1) λVC=>ak (b9 4 r1.1 VC.2) λaaA=>ak (call (cV 141) [aaA.1,cd.1] aaA.2) λUj=>ak (au Uj.1 0 Uj.2) λaaM=>ak (au Uj.1 1 aaM.2) λWj=>ak (az Tryz.prog .eql 30 false true Wj.1 (.af 0) Wj.2) λT4=>bp T4.1 (ak (aC Tryz.prog 64 1 [(0,aaM.1)] T4.2) λZZ=>ak (aN Tryz.prog ZZ.2 #[64,64] ZZ.1 VC.1) λZw=>aG Tryz.prog [(Zw.1,none),((.af 0),none)] Zw.2) (aG Tryz.prog [(VC.1,none),((.af 0),none)] T4.2)) (ak (b9 4 r1.1 Vi.2) λW9=>ak (call (cV 141) [W9.1,cd.1] W9.2) λUq=>ak (au Uq.1 0 Uq.2) λaaQ=>ak (au Uq.1 1 aaQ.2) λWX=>ak (az Tryz.prog .eql 30 false true WX.1 (.af 0) WX.2) λTR=>bp TR.1 (ak (aC Tryz.prog 64 1 [(0,aaQ.1)] TR.2) λYZ=>ak (aN Tryz.prog YZ.2 #[64,64] YZ.1 (.slice none 0 0)) λY0=>aG Tryz.prog [(Y0.1,none),((.af 0),none)] Y0.2) (aG Tryz.prog [((.slice none 0 0),none),((.af 0),none)] TR.2))) (ak (az Tryz.prog .eql 3 false true bQ.1 (.af 2) Nr.2) λOh=>bp Oh.1 (bp Oh.1 (ak (b9 4 r1.1 Oh.2) λWx=>ak (call (cV 141) [Wx.1,cd.1] Wx.2) λT0=>ak (au T0.1 0 T0.2) λaag=>ak (au T0.1 1 aag.2) λabi=>ak (az Tryz.prog .eql 30 false true abi.1 (.af 0) abi.2) λUJ=>bp UJ.1 (ak (aC Tryz.prog 64 1 [(0,aag.1)] UJ.2) λXY=>ak (aN Tryz.prog XY.2 #[64,64] XY.1 (.slice none 0 0)) λYC=>aG Tryz.prog [(YC.1,none),((.af 0),none)] YC.2) (aG Tryz.prog [((.slice none 0 0),none),((.af 0),none)] UJ.2)) (ak (az Tryz.prog .eql 3 false true bQ.1 (.af 10) Oh.2) λMe=>bp Me.1 (bp Me.1 (ak (b9 4 r1.1 Me.2) λXz=>ak (call (cV 140) [Xz.1,bF.1] Xz.2) λTX=>ak (au TX.1 0 TX.2) λabm=>ak (au TX.1 1 abm.2) λXd=>ak (az Tryz.prog .eql 30 false true Xd.1 (.af 0) Xd.2) λVm=>bp Vm.1 (ak (aC Tryz.prog 64 1 [(0,abm.1)] Vm.2) λXZ=>ak (aN Tryz.prog XZ.2 #[64,64] (.slice none 0 0) XZ.1) λaao=>aG Tryz.prog [(aao.1,none),((.af 0),none)] aao.2) (aG Tryz.prog [((.slice none 0 0),none),((.af 0),none)] Vm.2)) (aG Tryz.prog [((.slice none 0 0),none),((.af 0),none)] Me.2)) (ak (az Tryz.prog .eql 3 false true bQ.1 (.af 11) Me.2) λSZ=>bp SZ.1 (ak (b9 4 r1.1 SZ.2) λYa=>ak (call (cV 140) [Ya.1,bF.1] Ya.2) λTm=>ak (au Tm.1 0 Tm.2) λWp=>ak (au Tm.1 1 Wp.2) λXm=>ak (az Tryz.prog .eql 30 false true Xm.1 (.af 0) Xm.2) λTQ=>bp TQ.1 (ak (aC Tryz.prog 64 1 [(0,Wp.1)] TQ.2) λYg=>ak (aN Tryz.prog Yg.2 #[64,64] (.slice none 0 0) Yg.1) λXR=>aG Tryz.prog [(XR.1,none),((.af 0),none)] XR.2) (aG Tryz.prog [((.slice none 0 0),none),((.af 0),none)] TQ.2)) (aG Tryz.prog [((.slice none 0 0),none),((.af 0),none)] SZ.2)))) (ak (az Tryz.prog .eql 3 false true bQ.1 (.af 5) Oh.2) λNg=>bp Ng.1 (bp Ng.1 (ak (b9 4 r1.1 Ng.2) λXF=>ak (call (cV 141) [XF.1,cd.1] XF.2) λTp=>ak (au Tp.1 0 Tp.2) λaaj=>ak (au Tp.1 1 aaj.2) λabj=>ak (az Tryz.prog .eql 30 false true abj.1 (.af 0) abj.2) λSV=>bp SV.1 (ak (aC Tryz.prog 64 1 [(0,aaj.1)] SV.2) λX7=>ak (aN Tryz.prog X7.2 #[64,64] X7.1 (.slice none 0 0)) λXf=>aG Tryz.prog [(Xf.1,none),((.af 0),none)] Xf.2) (aG Tryz.prog [((.slice none 0 0),none),((.af 0),none)] SV.2)) (ak (az Tryz.prog .eql 3 false true bQ.1 (.af 10) Ng.2) λNq=>bp Nq.1 (bp Nq.1 (ak (b9 4 r1.1 Nq.2) λaaL=>ak (call (cV 140) [aaL.1,bF.1] aaL.2) λUM=>ak (au UM.1 0 UM.2) λX3=>ak (au UM.1 1 X3.2) λZ8=>ak (az Tryz.prog .eql 30 false true Z8.1 (.af 0) Z8.2) λSz=>bp Sz.1 (ak (aC Tryz.prog 64 1 [(0,X3.1)] Sz.2) λaaG=>ak (aN Tryz.prog aaG.2 #[64,64] (.slice none 0 0) aaG.1) λYN=>aG Tryz.prog [(YN.1,none),((.af 0),none)] YN.2) (aG Tryz.prog [((.slice none 0 0),none),((.af 0),none)] Sz.2)) (aG Tryz.prog [((.slice none 0 0),none),((.af 0),none)] Nq.2)) (ak (az Tryz.prog .eql 3 false true bQ.1 (.af 11) Nq.2) λVu=>bp Vu.1 (ak (b9 4 r1.1 Vu.2) λaa1=>ak (call (cV 140) [aa1.1,bF.1] aa1.2) λUe=>ak (au Ue.1 0 Ue.2) λWE=>ak (au Ue.1 1 WE.2) λabr=>ak (az Tryz.prog .eql 30 false true abr.1 (.af 0) abr.2) λSt=>bp St.1 (ak (aC Tryz.prog 64 1 [(0,WE.1)] St.2) λabq=>ak (aN Tryz.prog abq.2 #[64,64] (.slice none 0 0) abq.1) λY9=>aG Tryz.prog [(Y9.1,none),((.af 0),none)] Y9.2) (aG Tryz.prog [((.slice none 0 0),none),((.af 0),none)] St.2)) (aG Tryz.prog [((.slice none 0 0),none),((.af 0),none)] Vu.2)))) (ak (az Tryz.prog .eql 3 false true bQ.1 (.af 6) Ng.2) λNS=>bp NS.1 (bp NS.1 (ak (b9 4 r1.1 NS.2) λYP=>ak (call (cV 141) [YP.1,cd.1] YP.2) λSS=>ak (au SS.1 0 SS.2) λXL=>ak (au SS.1 1 XL.2) λWo=>ak (az Tryz.prog .eql 30 false true Wo.1 (.af 0) Wo.2) λTf=>bp Tf.1 (ak (aC Tryz.prog 64 1 [(0,XL.1)] Tf.2) λZS=>ak (aN Tryz.prog ZS.2 #[64,64] ZS.1 (.slice none 0 0)) λZG=>aG Tryz.prog [(ZG.1,none),((.af 0),none)] ZG.2) (aG Tryz.prog [((.slice none 0 0),none),((.af 0),none)] Tf.2)) (ak (az Tryz.prog .eql 3 false true bQ.1 (.af 10) NS.2) λLZ=>bp LZ.1 (bp LZ.1 (ak (b9 4 r1.1 LZ.2) λYL=>ak (call (cV 140) [YL.1,bF.1] YL.2) λUO=>ak (au UO.1 0 UO.2) λYM=>ak (au UO.1 1 YM.2) λWC=>ak (az Tryz.prog .eql 30 false true WC.1 (.af 0) WC.2) λSR=>bp SR.1 (ak (aC Tryz.prog 64 1 [(0,YM.1)] SR.2) λZ2=>ak (aN Tryz.prog Z2.2 #[64,64] (.slice none 0 0) Z2.1) λXt=>aG Tryz.prog [(Xt.1,none),((.af 0),none)] Xt.2) (aG Tryz.prog [((.slice none 0 0),none),((.af 0),none)] SR.2)) (aG Tryz.prog [((.slice none 0 0),none),((.af 0),none)] LZ.2)) (ak (az Tryz.prog .eql 3 false true bQ.1 (.af 11) LZ.2) λU7=>bp U7.1 (ak (b9 4 r1.1 U7.2) λZ5=>ak (call (cV 140) [Z5.1,bF.1] Z5.2) λT3=>ak (au T3.1 0 T3.2) λYI=>ak (au T3.1 1 YI.2) λYH=>ak (az Tryz.prog .eql 30 false true YH.1 (.af 0) YH.2) λUm=>bp Um.1 (ak (aC Tryz.prog 64 1 [(0,YI.1)] Um.2) λXP=>ak (aN Tryz.prog XP.2 #[64,64] (.slice none 0 0) XP.1) λXI=>aG Tryz.prog [(XI.1,none),((.af 0),none)] XI.2) (aG Tryz.prog [((.slice none 0 0),none),((.af 0),none)] Um.2)) (aG Tryz.prog [((.slice none 0 0),none),((.af 0),none)] U7.2)))) (ak (az Tryz.prog .eql 3 false true bQ.1 (.af 9) NS.2) λSI=>bp SI.1 (ak (b9 4 r1.1 SI.2) λaai=>ak (call (cV 141) [aai.1,cd.1] aai.2) λUg=>ak (au Ug.1 0 Ug.2) λZt=>ak (au Ug.1 1 Zt.2) λZf=>ak (az Tryz.prog .eql 30 false true Zf.1 (.af 0) Zf.2) λTF=>bp TF.1 (ak (aC Tryz.prog 64 1 [(0,Zt.1)] TF.2) λZW=>ak (aN Tryz.prog ZW.2 #[64,64] ZW.1 (.slice none 0 0)) λYQ=>aG Tryz.prog [(YQ.1,none),((.af 0),none)] YQ.2) (aG Tryz.prog [((.slice none 0 0),none),((.af 0),none)] TF.2)) (ak (az Tryz.prog .eql 3 false true bQ.1 (.af 10) SI.2) λLz=>bp Lz.1 (bp Lz.1 (ak (b9 4 r1.1 Lz.2) λX6=>ak (call (cV 140) [X6.1,bF.1] X6.2) λVG=>ak (au VG.1 0 VG.2) λY7=>ak (au VG.1 1 Y7.2) λY5=>ak (az Tryz.prog .eql 30 false true Y5.1 (.af 0) Y5.2) λUi=>bp Ui.1 (ak (aC Tryz.prog 64 1 [(0,Y7.1)] Ui.2) λZm=>ak (aN Tryz.prog Zm.2 #[64,64] (.slice none 0 0) Zm.1) λaak=>aG Tryz.prog [(aak.1,none),((.af 0),none)] aak.2) (aG Tryz.prog [((.slice none 0 0),none),((.af 0),none)] Ui.2)) (aG Tryz.prog [((.slice none 0 0),none),((.af 0),none)] Lz.2)) (ak (az Tryz.prog .eql 3 false true bQ.1 (.af 11) Lz.2) λVA=>bp VA.1 (ak (b9 4 r1.1 VA.2) λYE=>ak (call (cV 140) [YE.1,bF.1] YE.2) λTd=>ak (au Td.1 0 Td.2) λZP=>ak (au Td.1 1 ZP.2) λXx=>ak (az Tryz.prog .eql 30 false true Xx.1 (.af 0) Xx.2) λTS=>bp TS.1 (ak (aC Tryz.prog 64 1 [(0,ZP.1)] TS.2) λaa8=>ak (aN Tryz.prog aa8.2 #[64,64] (.slice none 0 0) aa8.1) λWh=>aG Tryz.prog [(Wh.1,none),((.af 0),none)] Wh.2) (aG Tryz.prog [((.slice none 0 0),none),((.af 0),none)] TS.2)) (aG Tryz.prog [((.slice none 0 0),none),((.af 0),none)] VA.2)))))))) (ak (az Tryz.prog .eql 3 false true bQ.1 (.af 7) Nr.2) λVJ=>bp VJ.1 (ak (b9 4 r1.1 VJ.2) λaaT=>ak (call (cV 139) [aaT.1,cd.1] aaT.2) λVz=>ak (au Vz.1 0 Vz.2) λX2=>ak (au Vz.1 1 X2.2) λaah=>ak (bh Tryz.prog 167 aah.2) λUT=>ak (cS 3 UT.1 X2.1 UT.2) λadB=>ak (az Tryz.prog .eql 30 false true aah.1 (.af 0) adB.2) λSq=>bp Sq.1 (ak (b9 4 r1.1 Sq.2) λaal=>ak (bq 0 UT.1 aal.2) λaas=>ak (aY aas.1 aas.2) λYG=>ak (call (cV 140) [aal.1,YG.1] YG.2) λUs=>ak (au Us.1 0 Us.2) λaaU=>ak (au Us.1 1 aaU.2) λaez=>ak (aC Tryz.prog 64 1 [(0,aaU.1)] aez.2) λWm=>ak (aN Tryz.prog Wm.2 #[64,64] (.slice none 0 0) Wm.1) λTe=>ak (b9 4 r1.1 Te.2) λaa0=>ak (call (cV 141) [aa0.1,cd.1] aa0.2) λSx=>ak (au Sx.1 0 Sx.2) λaa7=>ak (au Sx.1 1 aa7.2) λXb=>ak (az Tryz.prog .eql 30 false true Xb.1 (.af 0) Xb.2) λVf=>bp Vf.1 (ak (aC Tryz.prog 64 1 [(0,aa7.1)] Vf.2) λXr=>ak (aN Tryz.prog Xr.2 #[64,64] Xr.1 Te.1) λXB=>aG Tryz.prog [(XB.1,none),((.af 0),none)] XB.2) (aG Tryz.prog [(Te.1,none),((.af 0),none)] Vf.2)) (ak (b9 4 r1.1 Sq.2) λYU=>ak (call (cV 141) [YU.1,cd.1] YU.2) λS1=>ak (au S1.1 0 S1.2) λY1=>ak (au S1.1 1 Y1.2) λZF=>ak (az Tryz.prog .eql 30 false true ZF.1 (.af 0) ZF.2) λR7=>bp R7.1 (ak (aC Tryz.prog 64 1 [(0,Y1.1)] R7.2) λaax=>ak (aN Tryz.prog aax.2 #[64,64] aax.1 (.slice none 0 0)) λZn=>aG Tryz.prog [(Zn.1,none),((.af 0),none)] Zn.2) (aG Tryz.prog [((.slice none 0 0),none),((.af 0),none)] R7.2))) (ak (az Tryz.prog .eql 3 false true bQ.1 (.af 2) VJ.2) λNP=>bp NP.1 (bp NP.1 (ak (b9 4 r1.1 NP.2) λXn=>ak (call (cV 141) [Xn.1,cd.1] Xn.2) λTD=>ak (au TD.1 0 TD.2) λWH=>ak (au TD.1 1 WH.2) λWv=>ak (az Tryz.prog .eql 30 false true Wv.1 (.af 0) Wv.2) λVk=>bp Vk.1 (ak (aC Tryz.prog 64 1 [(0,WH.1)] Vk.2) λaaE=>ak (aN Tryz.prog aaE.2 #[64,64] aaE.1 (.slice none 0 0)) λX5=>aG Tryz.prog [(X5.1,none),((.af 0),none)] X5.2) (aG Tryz.prog [((.slice none 0 0),none),((.af 0),none)] Vk.2)) (ak (az Tryz.prog .eql 3 false true bQ.1 (.af 10) NP.2) λNI=>bp NI.1 (bp NI.1 (ak (b9 4 r1.1 NI.2) λaaV=>ak (call (cV 140) [aaV.1,bF.1] aaV.2) λSB=>ak (au SB.1 0 SB.2) λYr=>ak (au SB.1 1 Yr.2) λZ7=>ak (az Tryz.prog .eql 30 false true Z7.1 (.af 0) Z7.2) λUb=>bp Ub.1 (ak (aC Tryz.prog 64 1 [(0,Yr.1)] Ub.2) λWn=>ak (aN Tryz.prog Wn.2 #[64,64] (.slice none 0 0) Wn.1) λZT=>aG Tryz.prog [(ZT.1,none),((.af 0),none)] ZT.2) (aG Tryz.prog [((.slice none 0 0),none),((.af 0),none)] Ub.2)) (aG Tryz.prog [((.slice none 0 0),none),((.af 0),none)] NI.2)) (ak (az Tryz.prog .eql 3 false true bQ.1 (.af 11) NI.2) λS9=>bp S9.1 (ak (b9 4 r1.1 S9.2) λWO=>ak (call (cV 140) [WO.1,bF.1] WO.2) λSj=>ak (au Sj.1 0 Sj.2) λZH=>ak (au Sj.1 1 ZH.2) λZE=>ak (az Tryz.prog .eql 30 false true ZE.1 (.af 0) ZE.2) λUa=>bp Ua.1 (ak (aC Tryz.prog 64 1 [(0,ZH.1)] Ua.2) λabd=>ak (aN Tryz.prog abd.2 #[64,64] (.slice none 0 0) abd.1) λXA=>aG Tryz.prog [(XA.1,none),((.af 0),none)] XA.2) (aG Tryz.prog [((.slice none 0 0),none),((.af 0),none)] Ua.2)) (aG Tryz.prog [((.slice none 0 0),none),((.af 0),none)] S9.2)))) (ak (az Tryz.prog .eql 3 false true bQ.1 (.af 5) NP.2) λOd=>bp Od.1 (bp Od.1 (ak (b9 4 r1.1 Od.2) λaaq=>ak (call (cV 141) [aaq.1,cd.1] aaq.2) λTG=>ak (au TG.1 0 TG.2) λWD=>ak (au TG.1 1 WD.2) λXJ=>ak (az Tryz.prog .eql 30 false true XJ.1 (.af 0) XJ.2) λVn=>bp Vn.1 (ak (aC Tryz.prog 64 1 [(0,WD.1)] Vn.2) λYw=>ak (aN Tryz.prog Yw.2 #[64,64] Yw.1 (.slice none 0 0)) λZO=>aG Tryz.prog [(ZO.1,none),((.af 0),none)] ZO.2) (aG Tryz.prog [((.slice none 0 0),none),((.af 0),none)] Vn.2)) (ak (az Tryz.prog .eql 3 false true bQ.1 (.af 10) Od.2) λLS=>bp LS.1 (bp LS.1 (ak (b9 4 r1.1 LS.2) λZv=>ak (call (cV 140) [Zv.1,bF.1] Zv.2) λUr=>ak (au Ur.1 0 Ur.2) λWS=>ak (au Ur.1 1 WS.2) λXq=>ak (az Tryz.prog .eql 30 false true Xq.1 (.af 0) Xq.2) λSJ=>bp SJ.1 (ak (aC Tryz.prog 64 1 [(0,WS.1)] SJ.2) λYW=>ak (aN Tryz.prog YW.2 #[64,64] (.slice none 0 0) YW.1) λX9=>aG Tryz.prog [(X9.1,none),((.af 0),none)] X9.2) (aG Tryz.prog [((.slice none 0 0),none),((.af 0),none)] SJ.2)) (aG Tryz.prog [((.slice none 0 0),none),((.af 0),none)] LS.2)) (ak (az Tryz.prog .eql 3 false true bQ.1 (.af 11) LS.2) λS7=>bp S7.1 (ak (b9 4 r1.1 S7.2) λXs=>ak (call (cV 140) [Xs.1,bF.1] Xs.2) λUQ=>ak (au UQ.1 0 UQ.2) λaaI=>ak (au UQ.1 1 aaI.2) λX0=>ak (az Tryz.prog .eql 30 false true X0.1 (.af 0) X0.2) λS0=>bp S0.1 (ak (aC Tryz.prog 64 1 [(0,aaI.1)] S0.2) λZy=>ak (aN Tryz.prog Zy.2 #[64,64] (.slice none 0 0) Zy.1) λXV=>aG Tryz.prog [(XV.1,none),((.af 0),none)] XV.2) (aG Tryz.prog [((.slice none 0 0),none),((.af 0),none)] S0.2)) (aG Tryz.prog [((.slice none 0 0),none),((.af 0),none)] S7.2)))) (ak (az Tryz.prog .eql 3 false true bQ.1 (.af 6) Od.2) λLf=>bp Lf.1 (bp Lf.1 (ak (b9 4 r1.1 Lf.2) λZX=>ak (call (cV 141) [ZX.1,cd.1] ZX.2) λUp=>ak (au Up.1 0 Up.2) λYd=>ak (au Up.1 1 Yd.2) λXK=>ak (az Tryz.prog .eql 30 false true XK.1 (.af 0) XK.2) λVo=>bp Vo.1 (ak (aC Tryz.prog 64 1 [(0,Yd.1)] Vo.2) λaaZ=>ak (aN Tryz.prog aaZ.2 #[64,64] aaZ.1 (.slice none 0 0)) λaau=>aG Tryz.prog [(aau.1,none),((.af 0),none)] aau.2) (aG Tryz.prog [((.slice none 0 0),none),((.af 0),none)] Vo.2)) (ak (az Tryz.prog .eql 3 false true bQ.1 (.af 10) Lf.2) λOf=>bp Of.1 (bp Of.1 (ak (b9 4 r1.1 Of.2) λaad=>ak (call (cV 140) [aad.1,bF.1] aad.2) λSp=>ak (au Sp.1 0 Sp.2) λYi=>ak (au Sp.1 1 Yi.2) λW8=>ak (az Tryz.prog .eql 30 false true W8.1 (.af 0) W8.2) λS5=>bp S5.1 (ak (aC Tryz.prog 64 1 [(0,Yi.1)] S5.2) λWK=>ak (aN Tryz.prog WK.2 #[64,64] (.slice none 0 0) WK.1) λXN=>aG Tryz.prog [(XN.1,none),((.af 0),none)] XN.2) (aG Tryz.prog [((.slice none 0 0),none),((.af 0),none)] S5.2)) (aG Tryz.prog [((.slice none 0 0),none),((.af 0),none)] Of.2)) (ak (az Tryz.prog .eql 3 false true bQ.1 (.af 11) Of.2) λTu=>bp Tu.1 (ak (b9 4 r1.1 Tu.2) λZj=>ak (call (cV 140) [Zj.1,bF.1] Zj.2) λSh=>ak (au Sh.1 0 Sh.2) λabf=>ak (au Sh.1 1 abf.2) λaa6=>ak (az Tryz.prog .eql 30 false true aa6.1 (.af 0) aa6.2) λSc=>bp Sc.1 (ak (aC Tryz.prog 64 1 [(0,abf.1)] Sc.2) λZz=>ak (aN Tryz.prog Zz.2 #[64,64] (.slice none 0 0) Zz.1) λabl=>aG Tryz.prog [(abl.1,none),((.af 0),none)] abl.2) (aG Tryz.prog [((.slice none 0 0),none),((.af 0),none)] Sc.2)) (aG Tryz.prog [((.slice none 0 0),none),((.af 0),none)] Tu.2)))) (ak (az Tryz.prog .eql 3 false true bQ.1 (.af 9) Lf.2) λSC=>bp SC.1 (ak (b9 4 r1.1 SC.2) λZg=>ak (call (cV 141) [Zg.1,cd.1] Zg.2) λTP=>ak (au TP.1 0 TP.2) λXC=>ak (au TP.1 1 XC.2) λZs=>ak (az Tryz.prog .eql 30 false true Zs.1 (.af 0) Zs.2) λUL=>bp UL.1 (ak (aC Tryz.prog 64 1 [(0,XC.1)] UL.2) λaaF=>ak (aN Tryz.prog aaF.2 #[64,64] aaF.1 (.slice none 0 0)) λaaN=>aG Tryz.prog [(aaN.1,none),((.af 0),none)] aaN.2) (aG Tryz.prog [((.slice none 0 0),none),((.af 0),none)] UL.2)) (ak (az Tryz.prog .eql 3 false true bQ.1 (.af 10) SC.2) λL2=>bp L2.1 (bp L2.1 (ak (b9 4 r1.1 L2.2) λXj=>ak (call (cV 140) [Xj.1,bF.1] Xj.2) λS4=>ak (au S4.1 0 S4.2) λZp=>ak (au S4.1 1 Zp.2) λWI=>ak (az Tryz.prog .eql 30 false true WI.1 (.af 0) WI.2) λUo=>bp Uo.1 (ak (aC Tryz.prog 64 1 [(0,Zp.1)] Uo.2) λaam=>ak (aN Tryz.prog aam.2 #[64,64] (.slice none 0 0) aam.1) λabh=>aG Tryz.prog [(abh.1,none),((.af 0),none)] abh.2) (aG Tryz.prog [((.slice none 0 0),none),((.af 0),none)] Uo.2)) (aG Tryz.prog [((.slice none 0 0),none),((.af 0),none)] L2.2)) (ak (az Tryz.prog .eql 3 false true bQ.1 (.af 11) L2.2) λVI=>bp VI.1 (ak (b9 4 r1.1 VI.2) λaay=>ak (call (cV 140) [aay.1,bF.1] aay.2) λUU=>ak (au UU.1 0 UU.2) λaaB=>ak (au UU.1 1 aaB.2) λXU=>ak (az Tryz.prog .eql 30 false true XU.1 (.af 0) XU.2) λTi=>bp Ti.1 (ak (aC Tryz.prog 64 1 [(0,aaB.1)] Ti.2) λWt=>ak (aN Tryz.prog Wt.2 #[64,64] (.slice none 0 0) Wt.1) λXl=>aG Tryz.prog [(Xl.1,none),((.af 0),none)] Xl.2) (aG Tryz.prog [((.slice none 0 0),none),((.af 0),none)] Ti.2)) (aG Tryz.prog [((.slice none 0 0),none),((.af 0),none)] VI.2)))))))))))))
def xV{x0 x1:ae}{W:AW}{r:ae×AW}(h:vO bD x0 x1 W=some r):bD (.func (.func 101) #[] #[]) [x0,x1] W=some (gc W r):=b8 (nt:=125) (n:=2) (by kernel_rfl) (by kernel_rfl) rfl (aL (by kernel_rfl) h)
def fc(call:Eng.Callee)(R:Nat->ae)(W:AW):Option LT:=ak (aD Tryz.prog .len #[9] 3 #[false] [(R 0)] W) λr2=>ak (az Tryz.prog .lss 3 false false (R 4) r2.1 r2.2) λr3=>bp r3.1 (ak (fR Tryz.prog 9 (R 0) (R 4) r3.2) λr4=>ak (az Tryz.prog .geq 5 false true r4.1 (.int .u8 128) r4.2) λr5=>bp r5.1 (ak (b9 256 (R 2) r5.2) λr6=>ak (cS 256 (R 2) r6.1 r6.2) λr7=>some (X.ret,(bN R [(6,(R 4)),(7,(R 0)),(8,r2.1),(9,r3.1),(12,(R 0)),(13,(R 4)),(14,r4.1),(5,r4.1),(15,r4.1),(16,r5.1),(17,r6.1),(3,(.bool false))]),r7.2)) (ak (Ik 256 1 (R 2) r4.1 r5.2) λr8=>ak (cS 1 r8.1 (.bool true) r8.2) λr9=>ak (az Tryz.prog .add 3 false true (R 4) (.af 1) r9.2) λcd=>some (X.normal,(bN R [(6,(R 4)),(7,(R 0)),(8,r2.1),(9,r3.1),(12,(R 0)),(13,(R 4)),(14,r4.1),(5,r4.1),(15,r4.1),(16,r5.1),(18,r4.1),(19,r8.1),(10,(R 4)),(11,cd.1),(4,cd.1)]),cd.2))) (some (X.exit 0,(bN R [(6,(R 4)),(7,(R 0)),(8,r2.1),(9,r3.1)]),r3.2))
def jz(call:Eng.Callee)(x0:ae)(W:AW):Option (ae×AW):=ak (bh Tryz.prog 212 W) λr1=>ak (dP (fc call) (bN (eD 0 [x0] aj.blank) [(2,r1.1),(3,(.bool false)),(4,(.af 0))]) r1.2) λbF=>eQ 0 bF.1 (ak (b9 256 (bF.2.1 2) bF.2.2) λdr=>ak (cS 256 (bF.2.1 2) dr.1 dr.2) λcq=>aG Tryz.prog [((bF.2.1 2),some 212),((.bool true),none)] cq.2) (jG bF.1 (aG Tryz.prog [((bF.2.1 2),some 212),((bF.2.1 3),none)] bF.2.2))
def mN{x0:ae}{W:AW}{r:ae×AW}(h:jz bD x0 W=some r):bD (.func (.func 132) #[] #[]) [x0] W=some (gc W r):=b8 (nt:=21) (n:=1) (by kernel_rfl) (by kernel_rfl) rfl (aL (by kernel_rfl) h)
def eM(call:Eng.Callee)(R:Nat->ae)(W:AW):Option LT:=ak (aD Tryz.prog .len #[9] 3 #[false] [(R 0)] W) λr1=>ak (az Tryz.prog .gtr 3 false true r1.1 (.af 0) r1.2) λr2=>bp r2.1 (ak (fR Tryz.prog 9 (R 0) (.af 0) r2.2) λr3=>ak (call (cV 159) [(R 1),r3.1] r3.2) λr4=>ak (IE Tryz.prog .not r4.1 r4.2) λr5=>bp r5.1 (some (X.exit 0,(bN R [(5,(R 0)),(6,r1.1),(7,r2.1),(8,(R 1)),(9,(R 0)),(10,r3.1),(11,r4.1),(12,r5.1)]),r5.2)) (ak (dX Tryz.prog 9 (R 0) (some (.af 1)) none none r5.2) λr6=>some (X.normal,(bN R [(5,(R 0)),(6,r1.1),(7,r2.1),(8,(R 1)),(9,(R 0)),(10,r3.1),(11,r4.1),(12,r5.1),(13,(R 0)),(14,r6.1),(0,r6.1)]),r6.2))) (some (X.exit 0,(bN R [(5,(R 0)),(6,r1.1),(7,r2.1)]),r2.2))
def i7(call:Eng.Callee)(x0 x1:ae)(W:AW):Option (ae×AW):=ak (dP (eM call) (dw (eD 0 [x0,x1] aj.blank) (some 4) (xU [])) W) λr7=>eQ 0 r7.1 (aG Tryz.prog [((r7.2.1 0),none)] r7.2.2) (none)
def mH{x0 x1:ae}{W:AW}{r:ae×AW}(h:i7 bD x0 x1 W=some r):bD (.func (.func 133) #[] #[]) [x0,x1] W=some (gc W r):=b8 (nt:=16) (n:=2) (by kernel_rfl) (by kernel_rfl) rfl (aL (by kernel_rfl) h)
def ei(call:Eng.Callee)(R:Nat->ae)(W:AW):Option LT:=ak (aD Tryz.prog .len #[9] 3 #[false] [(R 0)] W) λr1=>ak (az Tryz.prog .gtr 3 false true r1.1 (.af 0) r1.2) λr2=>bp r2.1 (ak (aD Tryz.prog .len #[9] 3 #[false] [(R 0)] r2.2) λr3=>ak (az Tryz.prog .sub 3 false true r3.1 (.af 1) r3.2) λr4=>ak (fR Tryz.prog 9 (R 0) r4.1 r4.2) λr5=>ak (call (cV 159) [(R 1),r5.1] r5.2) λr6=>ak (IE Tryz.prog .not r6.1 r6.2) λr7=>bp r7.1 (some (X.exit 0,(bN R [(5,(R 0)),(6,r1.1),(7,r2.1),(8,(R 1)),(9,(R 0)),(10,(R 0)),(11,r3.1),(12,r4.1),(13,r5.1),(14,r6.1),(15,r7.1)]),r7.2)) (ak (aD Tryz.prog .len #[9] 3 #[false] [(R 0)] r7.2) λr8=>ak (az Tryz.prog .sub 3 false true r8.1 (.af 1) r8.2) λr9=>ak (dX Tryz.prog 9 (R 0) none (some r9.1) none r9.2) λcd=>some (X.normal,(bN R [(5,(R 0)),(6,r1.1),(7,r2.1),(8,(R 1)),(9,(R 0)),(10,(R 0)),(11,r3.1),(12,r4.1),(13,r5.1),(14,r6.1),(15,r7.1),(16,(R 0)),(17,(R 0)),(18,r8.1),(19,r9.1),(20,cd.1),(0,cd.1)]),cd.2))) (some (X.exit 0,(bN R [(5,(R 0)),(6,r1.1),(7,r2.1)]),r2.2))
def iL(call:Eng.Callee)(x0 x1:ae)(W:AW):Option (ae×AW):=ak (dP (ei call) (dw (eD 0 [x0,x1] aj.blank) (some 4) (xU [])) W) λbF=>eQ 0 bF.1 (aG Tryz.prog [((bF.2.1 0),none)] bF.2.2) (none)
def lM{x0 x1:ae}{W:AW}{r:ae×AW}(h:iL bD x0 x1 W=some r):bD (.func (.func 134) #[] #[]) [x0,x1] W=some (gc W r):=b8 (nt:=22) (n:=2) (by kernel_rfl) (by kernel_rfl) rfl (aL (by kernel_rfl) h)
def pv(call:Eng.Callee)(x0:ae)(W:AW):Option (ae×AW):=ak (cN x0 W) λr1=>ak (sP (.func 163) #[] #[r1.1] r1.2) λr2=>aG Tryz.prog [(r2.1,none)] r2.2
def yW{x0:ae}{W:AW}{r:ae×AW}(h:pv bD x0 W=some r):bD (.func (.func 137) #[] #[]) [x0] W=some (gc W r):=b8 (nt:=4) (n:=1) (by kernel_rfl) (by kernel_rfl) rfl (aL (by kernel_rfl) h)
def lh(call:Eng.Callee)(R:Nat->ae)(W:AW):Option LT:=ak (az Tryz.prog .lss 3 false false (R 25) (R 24) W) λbF=>bp bF.1 (ak (az Tryz.prog .add 3 false false (R 6) (R 25) bF.2) λdr=>ak (bq 0 (R 2) dr.2) λcq=>ak (aY cq.1 cq.2) λdi=>ak (az Tryz.prog .rem 3 false false dr.1 di.1 di.2) λbQ=>ak (aC Tryz.prog 64 1 [(0,bQ.1)] bQ.2) λcK=>ak (aN Tryz.prog cK.2 #[64,64] (R 9) cK.1) λcT=>ak (az Tryz.prog .add 3 false true (R 25) (.af 1) cT.2) λdC=>some (X.normal,(bN R [(26,bF.1),(27,(R 25)),(10,(R 25)),(28,(R 9)),(29,(R 6)),(30,(R 25)),(31,dr.1),(32,cq.1),(33,di.1),(34,bQ.1),(35,cK.1),(36,cT.1),(9,cT.1),(37,dC.1),(25,dC.1)]),dC.2)) (some (X.exit 0,(dw R (some 26) bF.1),bF.2))
def vJ(call:Eng.Callee)(x0 x1:ae)(W:AW):Option (ae×AW):=ak (cN x0 W) λr1=>ak (b9 4 r1.1 r1.2) λr2=>ak (call (cV 164) [r2.1,x1] r2.2) λr3=>ak (au r3.1 0 r3.2) λr4=>ak (au r3.1 1 r4.2) λr5=>ak (au r3.1 2 r5.2) λr6=>ak (az Tryz.prog .neq 30 false true r6.1 (.af 0) r6.2) λr7=>bp r7.1 (aG Tryz.prog [((.slice none 0 0),none),(r6.1,none)] r7.2) (ak (bq 0 r1.1 r7.2) λr8=>ak (aY r8.1 r8.2) λr9=>ak (aD Tryz.prog .min #[3,3] 3 #[false,false] [r5.1,r9.1] r9.2) λcd=>ak (dP (lh call) (bN (eD 0 [x0,x1] aj.blank) [(2,r1.1),(4,(.slice none 0 0)),(5,(.af 0)),(12,r2.1),(13,x1),(14,r3.1),(11,r3.1),(15,r4.1),(16,r5.1),(17,r6.1),(6,r4.1),(7,r5.1),(8,r6.1),(18,r6.1),(19,r7.1),(9,(.slice none 0 0)),(21,r5.1),(22,r8.1),(23,r9.1),(24,cd.1),(25,(.af 0))]) cd.2) λcL=>eQ 0 cL.1 (ak (call (cV 165) [(cL.2.1 9)] cL.2.2) λdq=>aG Tryz.prog [((cL.2.1 9),none),((.af 0),none)] dq.2) (none))
def yx{x0 x1:ae}{W:AW}{r:ae×AW}(h:vJ bD x0 x1 W=some r):bD (.func (.func 138) #[] #[]) [x0,x1] W=some (gc W r):=b8 (nt:=41) (n:=2) (by kernel_rfl) (by kernel_rfl) rfl (aL (by kernel_rfl) h)
def vW(call:Eng.Callee)(x0 x1:ae)(W:AW):Option (ae×AW):=ak (cN x0 W) λr1=>ak (bh Tryz.prog 167 r1.2) λr2=>ak (b9 4 r1.1 r2.2) λr3=>ak (call (cV 166) [r3.1,x1] r3.2) λr4=>ak (au r4.1 0 r4.2) λr5=>ak (au r4.1 1 r5.2) λr6=>ak (bh Tryz.prog 140 r6.2) λr7=>ak (cS 4 r7.1 r5.1 r7.2) λr8=>ak (az Tryz.prog .neq 30 false true r6.1 (.af 0) r8.2) λr9=>bp r9.1 (ak (cn Tryz.prog 167 [] r9.2) λcd=>ak (cS 3 r2.1 cd.1 cd.2) λbF=>aG Tryz.prog [(r2.1,some 167),(r6.1,none)] bF.2) (ak (bq 0 r7.1 r9.2) λdr=>ak (aY dr.1 dr.2) λcq=>ak (bq 1 r7.1 cq.2) λdi=>ak (aY di.1 di.2) λbQ=>ak (bq 2 r7.1 bQ.2) λcK=>ak (aY cK.1 cK.2) λcT=>ak (az Tryz.prog .sub 3 false false x1 cT.1 cT.2) λdC=>ak (cn Tryz.prog 167 [(0,cq.1),(1,bQ.1),(2,dC.1)] dC.2) λcL=>ak (cS 3 r2.1 cL.1 cL.2) λdq=>aG Tryz.prog [(r2.1,some 167),((.af 0),none)] dq.2)
def xZ{x0 x1:ae}{W:AW}{r:ae×AW}(h:vW bD x0 x1 W=some r):bD (.func (.func 139) #[] #[]) [x0,x1] W=some (gc W r):=b8 (nt:=27) (n:=2) (by kernel_rfl) (by kernel_rfl) rfl (aL (by kernel_rfl) h)
def yw(call:Eng.Callee)(x0 x1:ae)(W:AW):Option (ae×AW):=ak (cN x0 W) λr1=>ak (b9 4 r1.1 r1.2) λr2=>ak (call (cV 164) [r2.1,x1] r2.2) λr3=>ak (au r3.1 0 r3.2) λr4=>ak (au r3.1 1 r4.2) λr5=>ak (au r3.1 2 r5.2) λr6=>ak (az Tryz.prog .neq 30 false true r6.1 (.af 0) r6.2) λr7=>bp r7.1 (aG Tryz.prog [((.af 0),none),(r6.1,none)] r7.2) (ak (bq 0 r1.1 r7.2) λr8=>ak (aY r8.1 r8.2) λr9=>ak (az Tryz.prog .add 3 false false r9.1 x1 r9.2) λcd=>aG Tryz.prog [(cd.1,none),((.af 0),none)] cd.2)
def zQ{x0 x1:ae}{W:AW}{r:ae×AW}(h:yw bD x0 x1 W=some r):bD (.func (.func 140) #[] #[]) [x0,x1] W=some (gc W r):=b8 (nt:=23) (n:=2) (by kernel_rfl) (by kernel_rfl) rfl (aL (by kernel_rfl) h)
def vR(call:Eng.Callee)(x0 x1:ae)(W:AW):Option (ae×AW):=ak (cN x0 W) λr1=>ak (b9 4 r1.1 r1.2) λr2=>ak (call (cV 166) [r2.1,x1] r2.2) λr3=>ak (au r3.1 0 r3.2) λr4=>ak (au r3.1 1 r4.2) λr5=>ak (bh Tryz.prog 140 r5.2) λr6=>ak (cS 4 r6.1 r4.1 r6.2) λr7=>ak (az Tryz.prog .neq 30 false true r5.1 (.af 0) r7.2) λr8=>bp r8.1 (aG Tryz.prog [((.af 0),none),(r5.1,none)] r8.2) (ak (bq 0 r1.1 r8.2) λr9=>ak (aY r9.1 r9.2) λcd=>ak (az Tryz.prog .rem 3 false false x1 cd.1 cd.2) λbF=>aG Tryz.prog [(bF.1,none),((.af 0),none)] bF.2)
def yb{x0 x1:ae}{W:AW}{r:ae×AW}(h:vR bD x0 x1 W=some r):bD (.func (.func 141) #[] #[]) [x0,x1] W=some (gc W r):=b8 (nt:=21) (n:=2) (by kernel_rfl) (by kernel_rfl) rfl (aL (by kernel_rfl) h)
def gp(call:Eng.Callee)(x0 x1:ae)(W:AW):Option (ae×AW):=ak (aR x0 W) λr1=>ak (Ik 256 1 r1.1 x1 r1.2) λr2=>ak (aY r2.1 r2.2) λr3=>aG Tryz.prog [(r3.1,none)] r3.2
def jV{x0 x1:ae}{W:AW}{r:ae×AW}(h:gp bD x0 x1 W=some r):bD (.func (.func 159) #[] #[]) [x0,x1] W=some (gc W r):=b8 (nt:=10) (n:=2) (by kernel_rfl) (by kernel_rfl) rfl (aL (by kernel_rfl) h)
def jc(call:Eng.Callee)(R:Nat->ae)(W:AW):Option LT:=ak (az Tryz.prog .lss 3 false false (R 11) (R 10) W) λr5=>bp r5.1 (ak (cn Tryz.prog 135 [(0,(.af 2))] r5.2) λr6=>ak (bh Tryz.prog 135 r6.2) λr7=>ak (cS 2 r7.1 r6.1 r7.2) λr8=>ak (az Tryz.prog .lss 3 false false (R 11) (R 3) r8.2) λr9=>bp r9.1 (ak (aY (R 1) r9.2) λcd=>ak (j0 1 cd.1 (R 11) cd.2) λbF=>ak (aY bF.1 bF.2) λdr=>ak (cn Tryz.prog 135 [(0,(.af 1)),(1,dr.1)] dr.2) λcq=>ak (cS 2 r7.1 cq.1 cq.2) λdi=>ak (b9 2 r7.1 di.2) λbQ=>ak (call (R 0) [(R 11),bQ.1] bQ.2) λcK=>ak (IE Tryz.prog .not cK.1 cK.2) λcT=>bp cT.1 (some (X.ret,(bN R [(12,r5.1),(13,(R 11)),(4,(R 11)),(14,r6.1),(5,r7.1),(16,(R 11)),(17,(R 3)),(18,r9.1),(15,r9.1),(19,cd.1),(20,(R 11)),(21,bF.1),(22,dr.1),(23,cq.1),(36,(R 0)),(37,(R 11)),(38,bQ.1),(39,cK.1),(40,cT.1)]),cT.2)) (ak (az Tryz.prog .add 3 false true (R 11) (.af 1) cT.2) λdC=>some (X.normal,(bN R [(12,r5.1),(13,(R 11)),(4,(R 11)),(14,r6.1),(5,r7.1),(16,(R 11)),(17,(R 3)),(18,r9.1),(15,r9.1),(19,cd.1),(20,(R 11)),(21,bF.1),(22,dr.1),(23,cq.1),(36,(R 0)),(37,(R 11)),(38,bQ.1),(39,cK.1),(40,cT.1),(41,dC.1),(11,dC.1)]),dC.2))) (ak (az Tryz.prog .gtr 3 false false (R 11) (R 3) r9.2) λcL=>bp cL.1 (ak (aY (R 1) cL.2) λdq=>ak (az Tryz.prog .mul 3 true false (.af 2) (R 3) dq.2) λd9=>ak (az Tryz.prog .sub 3 false false d9.1 (R 11) d9.2) λeK=>ak (j0 1 dq.1 eK.1 eK.2) λeP=>ak (aY eP.1 eP.2) λej=>ak (cn Tryz.prog 135 [(0,(.af 3)),(1,ej.1)] ej.2) λdZ=>ak (cS 2 r7.1 dZ.1 dZ.2) λgi=>ak (b9 2 r7.1 gi.2) λgf=>ak (call (R 0) [(R 11),gf.1] gf.2) λgL=>ak (IE Tryz.prog .not gL.1 gL.2) λfz=>bp fz.1 (some (X.ret,(bN R [(12,r5.1),(13,(R 11)),(4,(R 11)),(14,r6.1),(5,r7.1),(16,(R 11)),(17,(R 3)),(18,r9.1),(15,r9.1),(25,(R 11)),(26,(R 3)),(27,cL.1),(24,cL.1),(28,dq.1),(29,(R 3)),(30,d9.1),(31,(R 11)),(32,eK.1),(33,eP.1),(34,ej.1),(35,dZ.1),(36,(R 0)),(37,(R 11)),(38,gf.1),(39,gL.1),(40,fz.1)]),fz.2)) (ak (az Tryz.prog .add 3 false true (R 11) (.af 1) fz.2) λie=>some (X.normal,(bN R [(12,r5.1),(13,(R 11)),(4,(R 11)),(14,r6.1),(5,r7.1),(16,(R 11)),(17,(R 3)),(18,r9.1),(15,r9.1),(25,(R 11)),(26,(R 3)),(27,cL.1),(24,cL.1),(28,dq.1),(29,(R 3)),(30,d9.1),(31,(R 11)),(32,eK.1),(33,eP.1),(34,ej.1),(35,dZ.1),(36,(R 0)),(37,(R 11)),(38,gf.1),(39,gL.1),(40,fz.1),(41,ie.1),(11,ie.1)]),ie.2))) (ak (b9 2 r7.1 cL.2) λgq=>ak (call (R 0) [(R 11),gq.1] gq.2) λig=>ak (IE Tryz.prog .not ig.1 ig.2) λeU=>bp eU.1 (some (X.ret,(bN R [(12,r5.1),(13,(R 11)),(4,(R 11)),(14,r6.1),(5,r7.1),(16,(R 11)),(17,(R 3)),(18,r9.1),(15,r9.1),(25,(R 11)),(26,(R 3)),(27,cL.1),(24,cL.1),(36,(R 0)),(37,(R 11)),(38,gq.1),(39,ig.1),(40,eU.1)]),eU.2)) (ak (az Tryz.prog .add 3 false true (R 11) (.af 1) eU.2) λeE=>some (X.normal,(bN R [(12,r5.1),(13,(R 11)),(4,(R 11)),(14,r6.1),(5,r7.1),(16,(R 11)),(17,(R 3)),(18,r9.1),(15,r9.1),(25,(R 11)),(26,(R 3)),(27,cL.1),(24,cL.1),(36,(R 0)),(37,(R 11)),(38,gq.1),(39,ig.1),(40,eU.1),(41,eE.1),(11,eE.1)]),eE.2))))) (some (X.exit 0,(dw R (some 12) r5.1),r5.2))
def mF(call:Eng.Callee)(x0 x1:ae)(W:AW):Option (ae×AW):=ak (aY x1 W) λr1=>ak (aD Tryz.prog .len #[64] 3 #[false] [r1.1] r1.2) λr2=>ak (az Tryz.prog .mul 3 true false (.af 2) r2.1 r2.2) λr3=>ak (az Tryz.prog .add 3 false true r3.1 (.af 1) r3.2) λr4=>ak (dP (jc call) (bN (eD 0 [x0,x1] aj.blank) [(6,r1.1),(7,r2.1),(3,r2.1),(8,r2.1),(9,r3.1),(10,r4.1),(11,(.af 0))]) r4.2) λfk=>eQ 0 fk.1 (aG Tryz.prog [] fk.2.2) (jG fk.1 (aG Tryz.prog [] fk.2.2))
def uo{x0 x1:ae}{W:AW}{r:ae×AW}(h:mF bD x0 x1 W=some r):bD (.func (.func 163) #[] #[x1]) [x0] W=some (gc W r):=b8 (nt:=42) (n:=2) (by kernel_rfl) (by kernel_rfl) rfl (aL (by kernel_rfl) h)
def tI(call:Eng.Callee)(R:Nat->ae)(W:AW):Option LT:=ak (bh Tryz.prog 140 W) λdi=>ak (cS 4 di.1 (R 20) di.2) λbQ=>some (X.normal,(dw R (some 9) di.1),bQ.2)
def wo(call:Eng.Callee)(R:Nat->ae)(W:AW):eZ Tryz.prog call false 37 (CP [1,1,0,1,0,0] (K0 164)) LT R W j7=tI call R W:=by kernel_rfl
def s8(call:Eng.Callee)(R:Nat->ae)(W:AW):Option LT:=ak (bq 0 (R 9) W) λcK=>ak (aY cK.1 cK.2) λcT=>ak (aY (R 3) cT.2) λdC=>ak (az Tryz.prog .neq 3 false false cT.1 dC.1 dC.2) λcL=>bp cL.1 (some (X.normal,(bN R [(21,cK.1),(22,cT.1),(23,dC.1),(24,cL.1)]),cL.2)) (ak (aY (R 5) cL.2) λdq=>ak (az Tryz.prog .eql 3 false true dq.1 (.af 0) dq.2) λd9=>bp d9.1 (ak (bq 2 (R 9) d9.2) λeK=>ak (aY eK.1 eK.2) λeP=>ak (cS 1 (R 4) eP.1 eP.2) λej=>ak (aY (R 5) ej.2) λdZ=>ak (bq 3 (R 9) dZ.2) λgi=>ak (aY gi.1 gi.2) λgf=>ak (az Tryz.prog .add 3 false false dZ.1 gf.1 gf.2) λgL=>ak (cS 1 (R 5) gL.1 gL.2) λfz=>some (X.normal,(bN R [(21,cK.1),(22,cT.1),(23,dC.1),(24,cL.1),(25,dq.1),(26,d9.1),(27,eK.1),(28,eP.1),(29,dZ.1),(30,gi.1),(31,gf.1),(32,gL.1)]),fz.2)) (ak (aY (R 5) d9.2) λie=>ak (bq 3 (R 9) ie.2) λgq=>ak (aY gq.1 gq.2) λig=>ak (az Tryz.prog .add 3 false false ie.1 ig.1 ig.2) λeU=>ak (cS 1 (R 5) eU.1 eU.2) λeE=>some (X.normal,(bN R [(21,cK.1),(22,cT.1),(23,dC.1),(24,cL.1),(25,dq.1),(26,d9.1),(29,ie.1),(30,gq.1),(31,ig.1),(32,eU.1)]),eE.2)))
def wJ(call:Eng.Callee)(R:Nat->ae)(W:AW):eZ Tryz.prog call false 37 (CP [1,1,0,1,0,1] (K0 164)) LT R W j7=s8 call R W:=by kernel_rfl
def DD(call:Eng.Callee)(x0 x1:ae)(W:AW):Option (ae×AW):=ak (cN x0 W) λr1=>ak (cN x1 r1.2) λr2=>ak (bh Tryz.prog 3 r2.2) λr3=>ak (bh Tryz.prog 3 r3.2) λr4=>ak (b9 4 r1.1 r4.2) λr5=>ak (call (cV 33) [r5.1] r5.2) λr6=>ak (au r6.1 0 r6.2) λr7=>ak (au r6.1 1 r7.2) λr8=>ak (az Tryz.prog .neq 30 false true r8.1 (.af 0) r8.2) λr9=>bp r9.1 (ak (cS 1 r3.1 (.af 0) r9.2) λcd=>ak (cS 1 r4.1 (.af 0) cd.2) λbF=>aG Tryz.prog [(r3.1,some 3),(r4.1,some 3),(r8.1,none)] bF.2) (ak (b9 4 r1.1 r9.2) λdr=>ak (call (cV 62) [dr.1] dr.2) λcq=>ak (gQ call cq.1 (.loop .ready none (bN (eD 0 [x0,x1] aj.blank) [(2,r1.1),(3,r2.1),(4,r3.1),(5,r4.1),(6,(.af 0)),(11,r5.1),(12,r6.1),(10,r6.1),(13,r7.1),(14,r8.1),(7,r7.1),(8,r8.1),(15,r8.1),(16,r9.1),(18,dr.1),(19,cq.1)]) 37 #[20] (CP [1,1,0,1,0,0] (K0 164)) (CP [1,1,0,1,0,1] (K0 164))) cq.2) λfk=>oG fk.1 (ak (aY r4.1 fk.2) λgh=>ak (az Tryz.prog .eql 3 false true gh.1 (.af 0) gh.2) λii=>bp ii.1 (ak (cS 1 r3.1 (.af 0) ii.2) λkA=>ak (cS 1 r4.1 (.af 0) kA.2) λkm=>aG Tryz.prog [(r3.1,some 3),(r4.1,some 3),((.af 4),none)] km.2) (ak (aY r3.1 ii.2) λkv=>ak (aY r4.1 kv.2) λk9=>ak (cS 1 r3.1 kv.1 k9.2) λlO=>a8 (Oy true (aY r4.1 lO.2) k9.1&&true) (ak (cS 1 r4.1 k9.1 lO.2) λj5=>aG Tryz.prog [(r3.1,some 3),(r4.1,some 3),((.af 0),none)] j5.2) none)) (none))
def C7{x0 x1:ae}{W:AW}{r:ae×AW}(h:DD bD x0 x1 W=some r):bD (.func (.func 164) #[] #[]) [x0,x1] W=some (gc W r):=b8 (nt:=37) (n:=2) (by kernel_rfl) (by kernel_rfl) rfl (aL (by kernel_rfl) h)
def pJ(call:Eng.Callee)(R:Nat->ae)(W:AW):Option LT:=ak (bh Tryz.prog 140 W) λbQ=>ak (cS 4 bQ.1 (R 20) bQ.2) λcK=>some (X.normal,(dw R (some 8) bQ.1),cK.2)
def tA(call:Eng.Callee)(R:Nat->ae)(W:AW):eZ Tryz.prog call false 36 (CP [1,1,0,1,0,0] (K0 166)) LT R W j7=pJ call R W:=by kernel_rfl
def pN(call:Eng.Callee)(R:Nat->ae)(W:AW):Option LT:=ak (aY (R 3) W) λcT=>ak (bq 2 (R 8) cT.2) λdC=>ak (aY dC.1 dC.2) λcL=>ak (az Tryz.prog .geq 3 false false cT.1 cL.1 cL.2) λdq=>ak (a8 (bi dq.1 true) (aY (R 3) dq.2) (some (ai,dq.2))) λd9=>ak (a8 (bi dq.1 true) (bq 2 (R 8) d9.2) (some (ai,d9.2))) λeK=>ak (a8 (bi dq.1 true) (aY eK.1 eK.2) (some (ai,eK.2))) λeP=>ak (a8 (bi dq.1 true) (bq 3 (R 8) eP.2) (some (ai,eP.2))) λej=>ak (a8 (bi dq.1 true) (aY ej.1 ej.2) (some (ai,ej.2))) λdZ=>ak (a8 (bi dq.1 true) (az Tryz.prog .add 3 false false eP.1 dZ.1 dZ.2) (some (ai,dZ.2))) λgi=>ak (a8 (bi dq.1 true) (az Tryz.prog .lss 3 false false d9.1 gi.1 gi.2) (some (ai,gi.2))) λgf=>ak (bU dq.1 gf.1 (.bool false) gf.2) λgL=>bp gL.1 (ak (b9 4 (R 8) gL.2) λfz=>ak (cS 4 (R 4) fz.1 fz.2) λie=>ak (cS 1 (R 5) (.af 0) ie.2) λgq=>some (X.ret,(bN R [(21,cT.1),(22,dC.1),(23,cL.1),(24,dq.1),(25,dq.1),(26,d9.1),(27,eK.1),(28,eP.1),(29,ej.1),(30,dZ.1),(31,gi.1),(32,gf.1),(33,gL.1),(34,fz.1)]),gq.2)) (some (X.normal,(bN R [(21,cT.1),(22,dC.1),(23,cL.1),(24,dq.1),(25,dq.1),(26,d9.1),(27,eK.1),(28,eP.1),(29,ej.1),(30,dZ.1),(31,gi.1),(32,gf.1),(33,gL.1)]),gL.2))
def te(call:Eng.Callee)(R:Nat->ae)(W:AW):eZ Tryz.prog call false 36 (CP [1,1,0,1,0,1] (K0 166)) LT R W j7=pN call R W:=by kernel_rfl
def yp(call:Eng.Callee)(x0 x1:ae)(W:AW):Option (ae×AW):=ak (cN x0 W) λr1=>ak (cN x1 r1.2) λr2=>ak (bh Tryz.prog 140 r2.2) λr3=>ak (bh Tryz.prog 30 r3.2) λr4=>ak (b9 4 r1.1 r4.2) λr5=>ak (call (cV 33) [r5.1] r5.2) λr6=>ak (au r6.1 0 r6.2) λr7=>ak (au r6.1 1 r7.2) λr8=>ak (az Tryz.prog .neq 30 false true r8.1 (.af 0) r8.2) λr9=>bp r9.1 (ak (cn Tryz.prog 140 [] r9.2) λcd=>ak (cS 4 r3.1 cd.1 cd.2) λbF=>ak (cS 1 r4.1 r8.1 bF.2) λdr=>aG Tryz.prog [(r3.1,some 140),(r4.1,some 30)] dr.2) (ak (b9 4 r1.1 r9.2) λcq=>ak (call (cV 62) [cq.1] cq.2) λdi=>ak (gQ call di.1 (.loop .ready none (bN (eD 0 [x0,x1] aj.blank) [(2,r1.1),(3,r2.1),(4,r3.1),(5,r4.1),(10,r5.1),(11,r6.1),(9,r6.1),(12,r7.1),(13,r8.1),(6,r7.1),(7,r8.1),(14,r8.1),(15,r9.1),(18,cq.1),(19,di.1)]) 36 #[20] (CP [1,1,0,1,0,0] (K0 166)) (CP [1,1,0,1,0,1] (K0 166))) di.2) λig=>oG ig.1 (ak (cn Tryz.prog 140 [] ig.2) λeU=>ak (cS 4 r3.1 eU.1 eU.2) λeE=>ak (cS 1 r4.1 (.af 4) eE.2) λfk=>aG Tryz.prog [(r3.1,some 140),(r4.1,some 30)] fk.2) (jG ig.1 (aG Tryz.prog [(r3.1,some 140),(r4.1,some 30)] ig.2)))
def zK{x0 x1:ae}{W:AW}{r:ae×AW}(h:yp bD x0 x1 W=some r):bD (.func (.func 166) #[] #[]) [x0,x1] W=some (gc W r):=b8 (nt:=36) (n:=2) (by kernel_rfl) (by kernel_rfl) rfl (aL (by kernel_rfl) h)
def vq:((#[64]:Array ah)[0]?).bind Tryz.prog.underlying=some (.slice 3):=by kernel_rfl
def Qu:((#[22]:Array ah)[0]?).bind Tryz.prog.underlying=some (.slice 66):=by kernel_rfl
def kY(n lo hi:Int):Bool:=decide (n<lo)||decide (hi<n)
def jx(n lo hi:Int)(W:AW):bD (.func (.func 45) #[] #[]) [.af n,.af lo,.af hi] W=some (.bool (kY n lo hi),W):=by
 have h:jk bD (.af n) (.af lo) (.af hi) W=some (.bool (kY n lo hi),W):=by unfold jk kY;by_cases h:n<lo<;>simp only[SX,h,Bool.true_or,Bool.false_or]
 rw[qR h,w6 (.refl _)]
def oK(n lo hi:Int)(W:AW):bD (.func (.func 46) #[] #[]) [.af n,.af lo,.af hi] W=some (.bool (kY n lo hi),W):=by
 have h:gP bD (.af n) (.af lo) (.af hi) W=some (.bool (kY n lo hi),W):=by unfold gP kY;by_cases h:n<lo<;>simp only[SX,h,Bool.true_or,Bool.false_or]
 rw[oR h,w6 (.refl _)]
def VO:Tryz.prog.underlying 9=some .string:=by kernel_rfl
def wq:((#[9]:Array ah)[0]?).bind Tryz.prog.underlying=some .string:=by kernel_rfl
def gv(l:List UInt8):List ae:=(List.range 256).map λi=>.bool (l.any λc=>c.toNat==i)
def gE(l:List UInt8):(gv l).length=256:=by simp[gv]
def xq(l:List UInt8){i:Nat}(h:i<256):(gv l)[i]? =some (.bool (l.any λc=>c.toNat==i)):=by simp[gv,h]
def E6(l:List UInt8):(gv l).all Eng.one=true:=by unfold gv;rw[List.all_map,bV];intro x _;rfl
def Hn(l:List UInt8):(a7 (.tuple #[.agg (gv l).toArray,.bool true])&& !VS (.tuple #[.agg (gv l).toArray,.bool true]))=true:=by
 have h:dI (.agg (gv l).toArray)=true:=by show(gv l).toArray.toList.all bZ=true;unfold gv;rw[wZ,List.all_map,bV];intro x _;rfl
 have h2:a7 (.tuple #[.agg (gv l).toArray,.bool true])=true:=by show(dI (.agg (gv l).toArray)&&(dI (.bool true)&&true))=true;rw[h];rfl
 rw[h2];rfl
def Oq(l:List UInt8)(c:UInt8):(gv l).set c.toNat (.bool true)=gv (l++[c]):=by
 apply qy;intro i;by_cases hi:i<256
 ·rw[nY,xq _ hi,xq _ hi,gE];by_cases hc:c.toNat=i
  ·rw[ax hc,oM];simp[hc]
  ·rw[ay hc];have:(c.toNat==i)=false:=by simpa using hc
   simp[this]
 ·rw[nB (by rw[jP,gE];omega),nB (by rw[gE];omega)]
def Q2(W:AW):bh Tryz.prog 212 W=some (.pointer (some ⟨W.next,0,none⟩),W.add (.cells (gv []))):=aL (by kernel_rfl) rfl
def XM(x:ae)(W:AW):ic Tryz.prog 212 x W=b9 256 x W:=by kernel_rfl
def Ac{b:Nat}{l:List UInt8}{W:AW}(hb:aH W b=some (gv l))(c:UInt8):bD (.func (.func 159) #[] #[]) [.pointer (some ⟨b,0,none⟩),.int .u8 (c.toNat:Int)] W=some (.bool (l.any λx=>x==c),W):=by refine cG rfl ?_ jV;unfold gp;have hc:c.toNat<256:=c.toNat_lt;simp only[SX,aT,BP hc,Mv,hb,bl,kp,aU,xq l hc,bR,aq];refine⟨?_,.refl _⟩;congr 2;funext x;rw[o7];simp[UInt8.toNat_inj]
def MH{l:List UInt8}(hl:l.length<1000)(ha:∀c∈l,c.toNat<128)(W:AW):bD (.func (.func 132) #[] #[]) [.string (aP l)] W=some (.tuple #[.agg (gv l).toArray,.bool true],W):=by
 refine cG (Hn l) ?_ mN;unfold jz;simp only[SX,Q2];refine df l.length (by omega) (λk R W'=>R 0=.string (aP l)/\R 2=.pointer (some ⟨W.next,0,none⟩)/\R 4=.af (k:Int)/\aA W' W.next=some (gv (l.take k))/\Le W W')
  (λr=>r.1=.exit 0/\r.2.1 2=.pointer (some ⟨W.next,0,none⟩)/\aA r.2.2 W.next=some (gv l)/\Le W r.2.2) ⟨rfl,rfl,rfl,bz,(Le.refl _).add _⟩ ?_ ?_ ?_
 ·rintro k R W' hk ⟨h0,h2,h4,hb,bk⟩;unfold fc;have hc:l[k].toNat<128:=ha _ (fq hk);have e1:((k:Int)<(l.length:Int)):=by omega
  have e2:¬(128:Int)<=(l[k].toNat:Int):=by omega
  simp only[SX,h0,h2,h4,gM wq,e1,ql VO hk,e2,BP (show l[k].toNat<256 by omega),Eh,hb,bl,kp,aU,gE,show l[k].toNat<256 by omega,bc,Oq,
   dg (show -9223372036854775808<=(k:Int)+1 by omega) (show(k:Int)+1<9223372036854775808 by omega),aq];have e2:(k:Int)+1=((k+1:Nat):Int):=by omega
  refine .inl ⟨aF,h0,h2,by rw[<-e2];rfl,?_,bk.put (aS _) _⟩;rw[bt,<-zj hk]
 ·rintro R W' ⟨h0,h2,h4,hb,bk⟩;unfold fc;have e1:¬((l.length:Int)<(l.length:Int)):=by omega
  simp only[SX,h0,h2,h4,gM wq,e1,aq];rw[dK]at hb;exact⟨by simp,aF,h2,hb,bk⟩
 ·rintro⟨x,R,W'⟩ ⟨rfl,h2,hb,bk⟩;simp only at h2 hb bk;have h1:=ON hb (E6 l);rw[gE]at h1;have h3:=lW (ez hb) (gE l);have h4:=lW (W:=W'.put W.next (.cells (gv l))) (mg _) (gE l);simp only[SX,h2,h3,h1,k8,XM,h4,bl,aq];exact⟨aF,bk.put (aS _) _⟩
def pw(p:UInt8->Bool)(l:List UInt8):List UInt8:=(l.reverse.dropWhile p).reverse
def tF{p:UInt8->Bool}:∀{l:List UInt8} {k:Nat},(∀c∈l.take k,p c=true)->(l.drop k).dropWhile p=l.dropWhile p
 |l,0,_=>by simp
 |[],k+1,_=>by simp
 |c::l,k+1,h=>by have hc:p c=true:=h c (by simp);rw[List.drop_succ_cons,xh,ax hc];exact tF λd hd=>h d (by simp[hd])
abbrev GG(S:List UInt8)(c:UInt8):Bool:=S.any λx=>x==c
def Nj{b:Nat}{S l:List UInt8}{W:AW}(hb:aH W b=some (gv S))(hl:l.length<1000):bD (.func (.func 133) #[] #[]) [.string (aP l),.pointer (some ⟨b,0,none⟩)] W=some (.string (aP (l.dropWhile (GG S))),W):=by
 refine cG rfl ?_ mH;unfold i7;simp only[SX];refine df l.length (by omega) (λk R W'=>W'=W/\R 0=.string (aP (l.drop k))/\R 1=.pointer (some ⟨b,0,none⟩)/\∀c∈l.take k,GG S c=true)
  (λr=>r.2.2=W/\r.1=.exit 0/\r.2.1 0=.string (aP (l.dropWhile (GG S)))) ⟨rfl,rfl,rfl,by simp⟩ ?_ ?_ ?_
 ·rintro k R W' hk ⟨rfl,h0,h1,ha⟩;unfold eM;have hd:l.drop k=l[k]::l.drop (k+1):=oz hk;have e1:(0:Int)<((l.drop k).length:Int):=by rw[List.length_drop];omega
  have e0:fR Tryz.prog 9 (.string (aP (l.drop k))) (.af 0) W'=some (.int .u8 (l[k].toNat:Int),W'):=by have:=ql (P:=Tryz.prog) (W:=W') (k:=.i64) VO (l:=l.drop k) (i:=0) (by rw[List.length_drop];omega);simpa using this
  have e3:dX Tryz.prog 9 (.string (aP (l.drop k))) (some (.af 1)) none none W'=some (.string (aP (l.drop (k+1))),W'):=by have:=Lv (P:=Tryz.prog) (W:=W') (k:=.i64) VO (l:=l.drop k) (a:=1) (by rw[List.length_drop];omega);rw[oe]at this;exact this
  simp only[SX,h0,h1,gM wq,e1,e0,Ac hb,e3];cases hp:GG S l[k]
  ·simp only[SX,show(S.any λx=>x==l[k])=false from hp,aq];refine .inr ⟨by simp,aF,aF,?_⟩;show R 0=_;rw[h0,<-tF ha,hd,xh,hp];rfl
  ·simp only[SX,show(S.any λx=>x==l[k])=true from hp,aq];refine .inl ⟨aF,aF,rfl,h1,?_⟩;rw[<-zj hk];intro c hc;rcases mC.1 hc with h|h
   ·exact ha c h
   ·rw[kX.1 h];exact hp
 ·rintro R W' ⟨rfl,h0,h1,ha⟩;unfold eM;rw[List.drop_length]at h0;have e1:¬(0:Int)<(([]:List UInt8).length:Int):=by simp
  simp only[SX,h0,h1,gM wq,e1,aq];refine⟨by simp,aF,aF,?_⟩;show R 0=_;rw[h0,<-tF ha,List.drop_length];rfl
 ·rintro⟨x,R,W'⟩ ⟨hW,hx,h0⟩;simp only at hW hx h0;subst hW hx;simp only[SX,aq,h0];exact⟨aF,.refl _⟩
def xD{p:UInt8->Bool}{l:List UInt8}{n:Nat}(h:∀c∈l.drop n,p c=true):pw p (l.take n)=pw p l:=by
 unfold pw;have h2:l.reverse=(l.drop n).reverse++(l.take n).reverse:=by rw[<-List.reverse_append,uX]
 have h3:=tF (p:=p) (l:=l.reverse) (k:=(l.drop n).reverse.length) (by rw[h2,tj];intro c hc;exact h c (List.mem_reverse.1 hc));rw[<-h3,h2,List.drop_left]
def MN{b:Nat}{S l:List UInt8}{W:AW}(hb:aH W b=some (gv S))(hl:l.length<1000):bD (.func (.func 134) #[] #[]) [.string (aP l),.pointer (some ⟨b,0,none⟩)] W=some (.string (aP (pw (GG S) l)),W):=by
 refine cG rfl ?_ lM;unfold iL;simp only[SX];refine df l.length (by omega) (λk R W'=>W'=W/\R 0=.string (aP (l.take (l.length-k)))/\R 1=.pointer (some ⟨b,0,none⟩)/\∀c∈l.drop (l.length-k),GG S c=true)
  (λr=>r.2.2=W/\r.1=.exit 0/\r.2.1 0=.string (aP (pw (GG S) l))) ⟨rfl,by simp;rfl,rfl,by simp⟩ ?_ ?_ ?_
 ·rintro k R W' hk ⟨rfl,h0,h1,ha⟩;unfold ei;obtain⟨m,hm⟩:∃m,l.length-k=m+1:=⟨l.length-k-1,by omega⟩;have hm2:l.length-(k+1)=m:=by omega
  have VQ:m<l.length:=by omega
  rw[hm]at h0 ha;have dy:(l.take (m+1)).length=m+1:=by rw[dR];omega
  have e1:(0:Int)<(((m+1:Nat):Int)):=by omega
  have e2:((m+1:Nat):Int)-1=(m:Int):=by omega
  have e0:fR Tryz.prog 9 (.string (aP (l.take (m+1)))) (.af (m:Int)) W'=some (.int .u8 (l[m].toNat:Int),W'):=by have:=ql (P:=Tryz.prog) (W:=W') (k:=.i64) VO (l:=l.take (m+1)) (i:=m) (by rw[dR];omega);simpa using this
  have e3:dX Tryz.prog 9 (.string (aP (l.take (m+1)))) none (some (.af (m:Int))) none W'=some (.string (aP (l.take m)),W'):=by have:=T6 (P:=Tryz.prog) (W:=W') (k:=.i64) VO (l:=l.take (m+1)) (a:=m) (by rw[dR];omega);rw[tC,mG (by omega)]at this;exact this
  have es:=yv W' ((m+1:Nat):Int) 1;rw[e2]at es;simp only[SX,h0,h1,gM wq,dy,e1,es,e0,Ac hb,e3];cases hp:GG S l[m]
  ·simp only[SX,show(S.any λx=>x==l[m])=false from hp,aq];refine .inr ⟨by simp,aF,aF,?_⟩;show R 0=_;rw[h0,<-xD ha,<-zj VQ];unfold pw;rw[List.reverse_append,List.reverse_singleton,List.singleton_append,xh,hp];simp
  ·simp only[SX,show(S.any λx=>x==l[m])=true from hp,aq];refine .inl ⟨aF,aF,by rw[hm2];rfl,h1,?_⟩;rw[hm2,oz VQ];intro c hc;rcases cP.1 hc with h|h
   ·rw[h];exact hp
   ·exact ha c h
 ·rintro R W' ⟨rfl,h0,h1,ha⟩;unfold ei;rw[mp,oZ]at h0;rw[mp,ol]at ha;have e1:¬(0:Int)<(([]:List UInt8).length:Int):=by simp
  simp only[SX,h0,h1,gM wq,e1,aq];refine⟨by simp,aF,aF,?_⟩;show R 0=_;rw[h0,<-xD (n:=0) (by simpa using ha)];rfl
 ·rintro⟨x,R,W'⟩ ⟨hW,hx,h0⟩;simp only at hW hx h0;subst hW hx;simp only[SX,aq,h0];exact⟨aF,.refl _⟩
def vb{p:UInt8->Bool}:∀{l:List UInt8},l.dropWhile p=[]<->∀c∈l,p c=true
 |[]=>by simp
 |c::l=>by
  rw[xh];cases hp:p c
  ·simp[hp]
  ·simp[hp,vb]
def MY{p:UInt8->Bool}{l:List UInt8}:(((pw p l).dropWhile p)==[])=l.all p:=by
 rw[o7,lZ,vb,bV];unfold pw;constructor
 ·intro h;have h2:l.reverse.dropWhile p=[]:=by
   cases hd:l.reverse.dropWhile p with
   |nil=>rfl
   |cons x xs=>have:=List.head_dropWhile_not (p:=p) (l:=l.reverse) (by rw[hd];simp);rw[hd]at h;have h3:=h x (by simp);simp only[hd,List.head_cons]at this;rw[h3]at this;cases this
  rw[vb]at h2;exactλc hc=>h2 c (List.mem_reverse.2 hc)
 ·intro h c hc;exact h c (by have:=List.mem_reverse.1 hc;have:=(List.dropWhile_sublist p).subset this;exact List.mem_reverse.1 this)
def uA:List Nat:=[97,98,99,100,101,102,103,104,105,106,107,108,109,110,111,112,113,114,115,116,117,118,119,120,121,122,48,49,50,51,52,53,54,55,56,57,45]
def iz:List UInt8:=uA.map UInt8.ofNat
def I0:∀n,n<256->GG iz (UInt8.ofNat n)=HG (UInt8.ofNat n):=by decide+kernel
def DL(c:UInt8):GG iz c=HG c:=by have:=I0 c.toNat c.toNat_lt;rwa [UInt8.ofNat_toNat]at this
def Qm{l:List UInt8}(hl:l.length<1000)(h0:l≠[])(W:AW):bD (.func (.func 97) #[] #[]) [.string (aP l),xU uA] W=some (.string (aP ((pw (GG iz) l).dropWhile (GG iz))),W):=by
 refine cG rfl ?_ wG;unfold tb;have hs:=MH (l:=iz) (by decide) (by decide+kernel) W;have e1:(l==[])=false:=by simpa using h0
 have e2:(iz==[])=false:=by decide+kernel
 have e3:¬((iz.length:Int)=1):=by decide+kernel
 have hz:(gv []).length=256:=gE [];have my:cS 256 (.pointer (some ⟨W.next,0,none⟩)) (.agg (gv iz).toArray) (W.add (.cells (gv [])))=some (ai,(W.add (.cells (gv []))).put W.next (.cells (gv iz))):=by rw[qq,bz];simp only[bl,rI,gE,aU,aS,E6,md,bc,fh,oZ,mB];rw[xe (by simp[gE]),jY]
 have hc:aH ((W.add (.cells (gv []))).put W.next (.cells (gv iz))) W.next=some (gv iz):=mg _;have hr:=MN (l:=l) hc hl;have fy:(pw (GG iz) l).length<1000:=by have:=(List.dropWhile_sublist (GG iz) (l:=l.reverse)).length_le;unfold pw;rw[List.length_reverse];rw[List.length_reverse]at this;omega
 have hL:=Nj hc fy;show Ok _ _;rw[rK];change bD (.func (.func 132) #[] #[]) [.string (aP (uA.map UInt8.ofNat))] W=_ at hs;simp only[SX,rK,lA,nJ,e1,gM wq];simp only[SX,show(uA.map UInt8.ofNat==[])=false from e2,show¬(((uA.map UInt8.ofNat).length:Int)=1)from e3,hs,Q2,my,hr,hL,aq];exact⟨aF,((Le.refl _).add _).put (aS _) _⟩
def nE(l:List UInt8)(W:AW):bD (.func (.func 70) #[] #[]) [.string (aP l)] W=some (.bool (vY l),W):=by
 refine cG rfl ?_ z7;unfold xR;cases l with
 |nil=>simp only[SX,rK,lA,nJ,BEq.rfl,aq];exact⟨rfl,.refl _⟩
 |cons c l=>
  have e1:(c::l==[])=false:=rfl;have e0:fR Tryz.prog 9 (.string (aP (c::l))) (.af 0) W=some (.int .u8 (c.toNat:Int),W):=by have:=ql (P:=Tryz.prog) (W:=W) (k:=.i64) VO (l:=c::l) (i:=0) (by simp);simpa using this
  by_cases h1:(16:Int)<(((c::l).length:Nat):Int)
  ·simp only[SX,rK,lA,nJ,e1,gM wq,h1,aq];refine⟨?_,.refl _⟩;have:decide ((c::l).length<=16)=false:=by simpa using(by omega:¬((c::l).length<=16))
   simp only[vY,this,Bool.and_false,pH]
  ·have h16:decide ((c::l).length<=16)=true:=by simpa using(by omega:((c::l).length<=16))
   by_cases h2:(c.toNat:Int)<97
   ·simp only[SX,rK,lA,nJ,e1,gM wq,h1,e0,h2,aq];refine⟨?_,.refl _⟩;have:decide (97<=c.toNat)=false:=by simpa using(by omega:¬(97<=c.toNat))
    simp only[vY,this,pH]
   ·by_cases h3:(122:Int)<(c.toNat:Int)
    ·simp only[SX,rK,lA,nJ,e1,gM wq,h1,e0,h2,h3,aq];refine⟨?_,.refl _⟩;have:decide (c.toNat<=122)=false:=by simpa using(by omega:¬(c.toNat<=122))
     simp only[vY,this,Bool.and_false,pH]
    ·have ht:=Qm (l:=c::l) (by omega) (by simp) W;have hv:(xU [97,98,99,100,101,102,103,104,105,106,107,108,109,110,111,112,113,114,115,116,117,118,119,120,121,122,48,49,50,51,52,53,54,55,56,57,45])=xU uA:=rfl;rw[hv];simp only[SX,rK [],lA,nJ,e1,gM wq,h1,e0,h2,h3,ht,MY,aq];refine⟨?_,.refl _⟩;have i1:decide (97<=c.toNat)=true:=by simpa using(by omega:(97<=c.toNat))
     have i2:decide (c.toNat<=122)=true:=by simpa using(by omega:(c.toNat<=122))
     have i3:GG iz=HG:=funext DL;simp only[vY,i1,i2,i3,h16,nW]
structure iT where
 name:List UInt8
 rows:List Int
 q:Int
structure ce where
 sh:Int
 CL:Int
 CQ:Int
 aB:List iT
def NA(W:AW)(cs:List ae)(p:Nat)(s:iT):Prop:=cs[p]? =some (.string (aP s.name))/\cs[p+2]? =some (.af s.q)/\∃rv,cs[p+1]? =some rv/\lR W rv s.rows/\rJ rv rv=true/\Eng.one rv=true
abbrev oQ(W:AW)(v:ae)(l:List iT):Prop:=Row W 3 (NA W) v l
def Row.imp{α:Type}{W W':AW}{z:Nat}{f g:List ae->Nat->α->Prop}{v:ae}{l:List α}(h:Row W z f v l)(bk:Le W W')(hfg:∀cs p a,f cs p a->g cs p a):Row W' z g v l:=by
 obtain⟨a,c,rfl,k⟩:=h.mono bk;refine⟨a,c,rfl,?_⟩;rcases k with h|⟨b,o,cs,h1,h2,h3,h4⟩
 ·exact .inl h
 ·exact .inr ⟨b,o,cs,h1,h2,h3,λi hi=>hfg _ _ _ (h4 i hi)⟩
def oQ.mono{W W':AW}{v:ae}{l:List iT}(h:oQ W v l)(bk:Le W W'):oQ W' v l:=
 Row.imp h bk λcs p s ⟨h1,h2,rv,h3,h4,h5⟩=>⟨h1,h2,rv,h3,h4.mono bk,h5⟩
def Ro{cs:List ae}{p:Nat}{a b c:ae}(h0:cs[p]? =some a)(h1:cs[p+1]? =some b)(h2:cs[p+2]? =some c):(cs.drop p).take 3=[a,b,c]:=by obtain⟨i0,e0⟩:=cr.1 h0;obtain⟨i1,e1⟩:=cr.1 h1;obtain⟨i2,e2⟩:=cr.1 h2;rw[oz i0,oz i1,oz i2,e0,e1,e2];rfl
abbrev I8(s:iT)(rv:ae):ae:=.agg #[.string (aP s.name),rv,.af s.q]
def oQ.get{W:AW}{v:ae}{l:List iT}(h:oQ W v l){i:Nat}(hi:i<l.length):∃b o rv,(∀W' k,j0 3 v (.int k (i:Int)) W'=some (.pointer (some ⟨b,o,none⟩),W'))/\lR W rv l[i].rows/\
 (∀W',Le W W'->b9 3 (.pointer (some ⟨b,o,none⟩)) W'=some (I8 l[i] rv,W'))/\(∀W',Le W W'->aY (.pointer (some ⟨b,o,none⟩)) W'=some (.string (aP l[i].name),W'))/\
 (∀W',Le W W'->aY (.pointer (some ⟨b,o+1,none⟩)) W'=some (rv,W'))/\(∀W',Le W W'->aY (.pointer (some ⟨b,o+2,none⟩)) W'=some (.af l[i].q,W')):=by
 obtain⟨b,o,cs,h1,h2,h3,h4,h5,rv,h6,h7,-⟩:=h.elem hi;refine⟨b,o,rv,h1,h7,λW' bk=>?_,λW' bk=>dN (by rw[bk.aH h2];exact h3) h4,λW' bk=>dN (by rw[bk.aH h2];exact h3) h6,λW' bk=>dN (by rw[bk.aH h2];exact h3) h5⟩;rw[G6,bk.aH h2,h3];simp only[bl,Ro h4 h6 h5,dB,xg,bc]
def sV(s:iT)(jO:List iT):Int:=
 if vY s.name=false then 6 else if(jO.any λx=>x.name==s.name)=true then 8 else if s.rows.length=0 then 6 else if 16<s.rows.length then 3 else
 if(s.rows.any λn=>kY n 1 64)=true then 7 else if kY s.q 0 64=true then 7 else 0
def ks(l:List iT):Nat->Option (Nat×Int)
 |0=>none
 |k+1=>match ks l k with
  |some r=>some r
  |none=>match l[k]? with
   |some s=>if sV s (l.take k)=0 then none else some (k,sV s (l.take k))
   |none=>none
def uK{l:List iT}{k n:Nat}{r:Nat×Int}(h:ks l k=some r)(hn:k<=n):ks l n=some r:=by
 induction n with
 |zero=>obtain rfl:k=0:=by omega
        exact h
 |succ n ih=>
  by_cases hk:k=n+1
  ·rw[<-hk];exact h
  ·show(match ks l n with|some r=>some r|none=>_)=_;rw[ih (by omega)]
def gD(l:List Int):Int:=l.foldr (· + ·) 0
def y9(l:List Int)(n:Int):gD (l++[n])=gD l+n:=by
 induction l with
 |nil=>simp[gD]
 |cons a l ih=>simp only[gD,rA,List.foldr_cons]at ih|-;omega
def dh(l:List iT):Int:=gD (l.map λs=>gD s.rows)
def tB(v:ce):Bool:=kY v.sh 1 16||kY v.CL 1 1000000000||kY v.CQ 1 1000000000
def iM(v:ce):Int×Int:=
 if tB v=true then(-1,7)else if v.aB.length=0 then(-1,6)else if 8<v.aB.length then(-1,3)else
 match ks v.aB v.aB.length with
 |some (i,e)=>((i:Int),e)
 |none=>if 4096<dh v.aB then(-1,3)else(0,0)
abbrev jA(v:ce)(sv:ae):ae:=.agg #[.af v.sh,.af v.CL,.af v.CQ,sv]
def eG(W:AW)(sv:ae)(l:List iT):Prop:=oQ W sv l/\(∃a c,sv=.slice a l.length c/\((l.length<=c/\c<eS)\/c=eS+3)/\(l≠[]->∃b o,a=some ⟨b,o,none⟩))
def eG.mono{W W':AW}{v:ae}{l:List iT}(h:eG W v l)(bk:Le W W'):eG W' v l:=⟨h.1.mono bk,h.2⟩
def Row.take{α:Type}{W:AW}{z:Nat}{f:List ae->Nat->α->Prop}{b o c:Nat}{l:List α}(h:Row W z f (.slice (some ⟨b,o,none⟩) l.length c) l){k:Nat}(hk:k<=l.length)(h0:l≠[]):Row W z f (.slice (some ⟨b,o,none⟩) k c) (l.take k):=by
 obtain⟨a,c',he,h⟩:=h;injection he with e1 e2 e3;subst e1 e3;refine⟨_,c,by rw[dR,mG hk],?_⟩;rcases h with h|⟨b',o',cs,h1,h2,h3,h4⟩
 ·exact absurd h h0
 ·refine .inr ⟨b',o',cs,h1,h2,h3,λi hi=>?_⟩;rw[List.getElem_take];exact h4 i (by rw[dR]at hi;omega)
def aaX:rQ Tryz.prog 22=some 3:=by kernel_rfl
def eG.pre{W:AW}{sv:ae}{l:List iT}(h:eG W sv l){k:Nat}(hk:k<l.length):∃u,(∀W',dX Tryz.prog 22 sv none (some (.af (k:Int))) none W'=some (u,W'))/\oQ W u (l.take k):=by
 obtain⟨h1,a,c,rfl,h2,h4⟩:=h;have h0:l≠[]:=by intro e;rw[e]at hk;simp at hk
 obtain⟨b,o,rfl⟩:=h4 h0;rcases h2 with⟨h2,h3⟩|rfl
 ·exact⟨_,λW'=>Ah aaX (by omega) h3,Row.take h1 (by omega) h0⟩
 ·exact⟨_,λW'=>GL aaX (by omega) (Nat.le_of_lt hk),Row.take h1 (by omega) h0⟩
def Si(W:AW):bh Tryz.prog 66 W=some (.pointer (some ⟨W.next,0,none⟩),W.add (.cells [.string (aP []),.slice none 0 0,.af 0])):=aL (by kernel_rfl) rfl
def ws{α:Type}(p:α->Bool)(l:List α):Int:=match l.findIdx? p with
 |some i=>(i:Int)
 |none=> -1
def Ap{α:Type}{p:α->Bool}{l:List α}{k:Nat}(hk:k<l.length)(h1:p l[k]=true)(h2:(l.take k).any p=false):ws p l=(k:Int):=by
 have:l.findIdx? p=some k:=by rw[List.findIdx?_eq_some_iff_getElem];refine⟨hk,h1,λj hj=>?_⟩;rw[List.any_eq_false]at h2;exact h2 _ (by rw[List.mem_take_iff_getElem];exact⟨j,by omega,rfl⟩)
 unfold ws;rw[this]
def AD{α:Type}{p:α->Bool}{l:List α}(h:l.any p=false):ws p l= -1:=by
 have:l.findIdx? p=none:=by rw[List.findIdx?_eq_none_iff];intro x hx;rw[List.any_eq_false]at h;simpa using h x hx
 unfold ws;rw[this]
def EH{α:Type}{p:α->Bool}{l:List α}{k:Nat}(hk:k<l.length)(h1:p l[k]=false)(h2:(l.take k).any p=false):(l.take (k+1)).any p=false:=by rw[<-zj hk,List.any_append,h2];simpa using h1
def any_some{α:Type}{p:α->Bool}{l:List α}{k:Nat}(hk:k<l.length)(h1:p l[k]=true):l.any p=true:=by rw[nZ];exact⟨_,fq hk,h1⟩
def E3{α:Type}{p:α->Bool}{l:List α}:decide (0<=ws p l)=l.any p:=by
 unfold ws;cases h:l.findIdx? p with
 |none=>
  rw[List.findIdx?_eq_none_iff]at h;have:l.any p=false:=by rw[List.any_eq_false];intro x hx;simpa using h x hx
  rw[this];rfl
 |some i=>rw[List.findIdx?_eq_some_iff_getElem]at h;obtain⟨h1,h2,h3⟩:=h;rw[any_some h1 h2];simp
def JY{f v:ae}{p:iT->Bool}{l:List iT}{W:AW}(h:oQ W v l)(hl:l.length<1000)(hp:∀s rv,bD f [I8 s rv] W=some (.bool (p s),W)):bD (.func (.func 98) #[] #[]) [v,f] W=some (.af (ws p l),W):=by
 refine cG rfl ?_ eV;unfold cY;simp only[SX,h.len Qu];refine df l.length (by omega) (λk R W'=>W'=W/\R 0=v/\R 1=f/\R 7=.af (l.length:Int)/\R 8=.af (k:Int)/\(l.take k).any p=false)
  (λr=>r.2.2=W/\((r.1=.exit 0/\ws p l= -1)\/(r.1=.ret/\r.2.1 4=.af (ws p l)))) ⟨rfl,rfl,rfl,rfl,rfl,rfl⟩ ?_ ?_ ?_
 ·rintro k R W' hk ⟨rfl,h0,h1,h7,h8,ha⟩;unfold bM;obtain⟨b,o,rv,g1,g2,g3,_⟩:=h.get hk;have e1:((k:Int)<(l.length:Int)):=by omega
  have e2:(k:Int)+1=((k+1:Nat):Int):=by omega
  have ea:=eH W' k 1;simp only[SX,h0,h1,h7,h8,e1,g1,g3 _ (.refl _),hp];cases hx:p l[k]
  ·simp only[SX,ea,aq];exact .inl ⟨aF,aF,h0,h1,h7,by rw[<-e2];rfl,EH hk hx ha⟩
  ·simp only[SX,aq];exact .inr ⟨by simp,aF,.inr ⟨aF,by rw[Ap hk hx ha];rfl⟩⟩
 ·rintro R W' ⟨rfl,h0,h1,h7,h8,ha⟩;unfold bM;have e1:¬((l.length:Int)<(l.length:Int)):=by omega
  rw[dK]at ha;simp only[SX,h7,h8,e1,aq];exact⟨by simp,aF,.inl ⟨aF,AD ha⟩⟩
 ·rintro⟨x,R,W'⟩ ⟨hW,hq⟩;simp only at hW hq;subst hW;rcases hq with⟨rfl,hq⟩|⟨rfl,h4⟩
  ·simp only[SX,aq,hq];exact⟨aF,.refl _⟩
  ·simp only[SX,aq,h4];exact⟨aF,.refl _⟩
def Ja{f v:ae}{p:Int->Bool}{l:List Int}{W:AW}(h:lR W v l)(hl:l.length<1000)(hp:∀n∈l,bD f [.af n] W=some (.bool (p n),W)):bD (.func (.func 99) #[] #[]) [v,f] W=some (.af (ws p l),W):=by
 refine cG rfl ?_ lQ;unfold iP;simp only[SX,h.len vq];refine df l.length (by omega) (λk R W'=>W'=W/\R 0=v/\R 1=f/\R 7=.af (l.length:Int)/\R 8=.af (k:Int)/\(l.take k).any p=false)
  (λr=>r.2.2=W/\((r.1=.exit 0/\ws p l= -1)\/(r.1=.ret/\r.2.1 4=.af (ws p l)))) ⟨rfl,rfl,rfl,rfl,rfl,rfl⟩ ?_ ?_ ?_
 ·rintro k R W' hk ⟨rfl,h0,h1,h7,h8,ha⟩;unfold ee;obtain⟨q,g1,g2⟩:=h.get hk;have e1:((k:Int)<(l.length:Int)):=by omega
  have e2:(k:Int)+1=((k+1:Nat):Int):=by omega
  have ea:=eH W' k 1;simp only[SX,h0,h1,h7,h8,e1,g1,g2 _ (.refl _),hp _ (fq hk)];cases hx:p l[k]
  ·simp only[SX,ea,aq];exact .inl ⟨aF,aF,h0,h1,h7,by rw[<-e2];rfl,EH hk hx ha⟩
  ·simp only[SX,aq];exact .inr ⟨by simp,aF,.inr ⟨aF,by rw[Ap hk hx ha];rfl⟩⟩
 ·rintro R W' ⟨rfl,h0,h1,h7,h8,ha⟩;unfold ee;have e1:¬((l.length:Int)<(l.length:Int)):=by omega
  rw[dK]at ha;simp only[SX,h7,h8,e1,aq];exact⟨by simp,aF,.inl ⟨aF,AD ha⟩⟩
 ·rintro⟨x,R,W'⟩ ⟨hW,hq⟩;simp only at hW hq;subst hW;rcases hq with⟨rfl,hq⟩|⟨rfl,h4⟩
  ·simp only[SX,aq,hq];exact⟨aF,.refl _⟩
  ·simp only[SX,aq,h4];exact⟨aF,.refl _⟩
def Ki{f v:ae}{p:iT->Bool}{l:List iT}{W:AW}(h:oQ W v l)(hl:l.length<1000)(hp:∀s rv,bD f [I8 s rv] W=some (.bool (p s),W)):bD (.func (.func 71) #[] #[]) [v,f] W=some (.bool (l.any p),W):=by refine cG rfl ?_ eg;unfold cJ;simp only[SX,JY h hl hp,E3,aq];exact⟨aF,.refl _⟩
def Ks{f v:ae}{p:Int->Bool}{l:List Int}{W:AW}(h:lR W v l)(hl:l.length<1000)(hp:∀n∈l,bD f [.af n] W=some (.bool (p n),W)):bD (.func (.func 73) #[] #[]) [v,f] W=some (.bool (l.any p),W):=by refine cG rfl ?_ jM;unfold gt;simp only[SX,Ja h hl hp,E3,aq];exact⟨aF,.refl _⟩
def IM(n:Int)(W:AW):bD (.func (.func 74) #[] #[]) [.af n] W=some (.bool (kY n 1 64),W):=by refine cG rfl ?_ vn;unfold rk;simp only[SX,jx,aq];exact⟨aF,.refl _⟩
def afn(a b c:ae)(W:AW):cN (.agg #[a,b,c]) W=some (.pointer (some ⟨W.next,0,none⟩),W.add (.cells [a,b,c])):=gH _
def DB{c:Nat}{m:List UInt8}{W:AW}(hc:∀W',Le W W'->aY (.pointer (some ⟨c,0,none⟩)) W'=some (.string (aP m),W'))(s:iT)(rv:ae):
 bD (.func (.func 72) #[] #[.pointer (some ⟨c,0,none⟩)]) [I8 s rv] W=some (.bool (s.name==m),W):=by
 refine cG rfl ?_ ve;unfold qX;have h0:=hc _ ((Le.refl W).add (.cells [.string (aP s.name),rv,.af s.q]));have h1:aY (.pointer (some ⟨W.next,0,none⟩)) (W.add (.cells [.string (aP s.name),rv,.af s.q]))=some (.string (aP s.name),W.add (.cells [.string (aP s.name),rv,.af s.q])):=dN bO rfl;simp only[SX,h0,h1,aU,nJ,aq];exact⟨aF,(Le.refl _).add _⟩
def JI{s:iT}{rv bv:ae}{jO:List iT}{W:AW}(hs:lR W rv s.rows)(hb:oQ W bv jO)(hl:jO.length<1000):bD (.func (.func 47) #[] #[]) [I8 s rv,bv] W=some (.af (sV s jO),W):=by
 refine cG rfl ?_ yi;unfold vN;have bk:Le W (W.add (.cells [.string (aP s.name),rv,.af s.q])):=(Le.refl W).add _;simp only[SX,aU];generalize Yu:W.add (.cells [.string (aP s.name),rv,.af s.q])=W1 at *;have mI:aH W1 W.next=some [.string (aP s.name),rv,.af s.q]:=by rw[<-Yu];exact bO
 have hn:W.next<W1.next:=by rw[<-Yu,AW.aJ];omega
 have h0:∀W',Le W1 W'->aY (.pointer (some ⟨W.next,0,none⟩)) W'=some (.string (aP s.name),W'):=λW' k=>dN (by rw[k.aH hn];exact mI) rfl
 have h1:aY (.pointer (some ⟨W.next,1,none⟩)) W1=some (rv,W1):=dN mI rfl;have h2:aY (.pointer (some ⟨W.next,2,none⟩)) W1=some (.af s.q,W1):=dN mI rfl;have hf:=Ki (W:=W1) (hb.mono bk) hl (p:=λx=>x.name==s.name) (λx rv=>DB h0 x rv);unfold sV;cases n1:vY s.name
 ·simp only[SX,h0 _ (.refl _),nE,n1,bc,aq];exact⟨aF,bk⟩
 ·cases n2:jO.any λx=>x.name==s.name
  ·by_cases n3:s.rows.length=0
   ·have e:((s.rows.length:Int)=0):=by omega
    simp only[SX,h0 _ (.refl _),nE,n1,hf,n2,h1,(hs.mono bk).len vq,e,ax n3,cE,p7,kW,aq];exact⟨aF,bk⟩
   ·have e:¬((s.rows.length:Int)=0):=by omega
    by_cases n4:16<s.rows.length
    ·have e2:((16:Int)<(s.rows.length:Int)):=by omega
     simp only[SX,h0 _ (.refl _),nE,n1,hf,n2,h1,(hs.mono bk).len vq,e,n3,e2,n4,bc,cE,p7,kW,aq];exact⟨aF,bk⟩
    ·have e2:¬((16:Int)<(s.rows.length:Int)):=by omega
     have hg:=Ks (W:=W1) (hs.mono bk) (by omega) (p:=λn=>kY n 1 64) (λn _=>IM n W1);cases n5:s.rows.any λn=>kY n 1 64
     ·cases n6:kY s.q 0 64
      ·simp only[SX,h0 _ (.refl _),nE,n1,hf,n2,h1,(hs.mono bk).len vq,e,n3,e2,n4,hg,n5,h2,jx,n6,cE,p7,kW,aq];exact⟨aF,bk⟩
      ·simp only[SX,h0 _ (.refl _),nE,n1,hf,n2,h1,(hs.mono bk).len vq,e,n3,e2,n4,hg,n5,h2,jx,n6,bc,cE,p7,kW,aq];exact⟨aF,bk⟩
     ·simp only[SX,h0 _ (.refl _),nE,n1,hf,n2,h1,(hs.mono bk).len vq,e,n3,e2,n4,hg,n5,bc,cE,p7,kW,aq];exact⟨aF,bk⟩
  ·simp only[SX,h0 _ (.refl _),nE,n1,hf,n2,bc,cE,p7,aq];exact⟨aF,bk⟩
def aaK(a b c d:ae)(W:AW):cN (.agg #[a,b,c,d]) W=some (.pointer (some ⟨W.next,0,none⟩),W.add (.cells [a,b,c,d])):=gH _
def du(W:AW)(cs ds:List ae):(W.add (.cells cs)).put W.next (.cells ds)=W.add (.cells ds):=sN W _ _
def OO{b:Nat}{a c d x y z:ae}{W:AW}(h:aA W b=some [x,y,z])(h1:Eng.one a=true)(h2:Eng.one c=true)(h3:Eng.one d=true):cS 3 (.pointer (some ⟨b,0,none⟩)) (.agg #[a,c,d]) W=some (ai,W.put b (.cells [a,c,d])):=by
 rw[qq,h];have e:(#[a,c,d]:Array ae).toList.all Eng.one=true:=by simp[h1,h2,h3]
 simp only[bl,e,and_true];rfl
def Row.one{α:Type}{W:AW}{z:Nat}{f:List ae->Nat->α->Prop}{v:ae}{l:List α}(h:Row W z f v l):Eng.one v=true:=by obtain⟨a,c,rfl,_⟩:=h;rfl
def uY{s:iT}{b:List iT}(h:sV s b=0):vY s.name=true/\(b.any λx=>x.name==s.name)=false/\s.rows.length≠0/\s.rows.length<=16/\(∀n∈s.rows,1<=n/\n<=64)/\0<=s.q/\s.q<=64:=by
 unfold sV at h;split at h
 ·exact absurd h (by decide)
 rename_i h1;split at h
 ·exact absurd h (by decide)
 rename_i h2;split at h
 ·exact absurd h (by decide)
 rename_i h3;split at h
 ·exact absurd h (by decide)
 rename_i h4;split at h
 ·exact absurd h (by decide)
 rename_i h5;split at h
 ·exact absurd h (by decide)
 rename_i h6;refine⟨by simpa using h1,by simpa using h2,h3,by omega,?_,?_⟩
 ·intro n hn;have:kY n 1 64=false:=by
   cases ho:kY n 1 64
   ·rfl
   ·exact absurd (nZ.2 ⟨n,hn,ho⟩) h5
  unfold kY at this;simp only[Bool.or_eq_false_iff,decide_eq_false_iff_not]at this;omega
 ·unfold kY at h6;simp only[kL,decide_eq_true_iff]at h6;omega
def kF{l:List Int}{k:Nat}(hk:k<l.length):gD (l.take (k+1))=gD (l.take k)+l[k]:=by rw[<-zj hk,y9]
def kM{l:List iT}{k:Nat}(hk:k<l.length):dh (l.take (k+1))=dh (l.take k)+gD l[k].rows:=by unfold dh;rw[List.map_take,List.map_take,kF (by rw[fW];exact hk),List.getElem_map]
def nX{l:List Int}(h:∀n∈l,1<=n/\n<=64)(k:Nat):(0<=gD (l.take k)/\gD (l.take k)<=64*k)/\(min k l.length:Int)<=gD (l.take k):=by
 induction k with
 |zero=>simp[gD];omega
 |succ k ih=>
  by_cases hk:k<l.length
  ·rw[kF hk];have:=h _ (fq hk);omega
  ·rw[mz (by omega)]at ih|-;omega
def An{l:List iT}{k:Nat}(h:ks l k=none)(hk:k<l.length):ks l (k+1)=if sV l[k] (l.take k)=0 then none else some (k,sV l[k] (l.take k)):=by show(match ks l k with|some r=>some r|none=>match l[k]? with|some s=>if sV s (l.take k)=0 then none else some (k,sV s (l.take k))|none=>none)=_;rw[h,cx hk]
def AK{l:List iT}{k:Nat}(h:ks l k=none):∀i (hi:i<k) (hl:i<l.length),sV l[i] (l.take i)=0:=by
 induction k with
 |zero=>intro i hi;omega
 |succ k ih=>
  have h1:ks l k=none:=by
   cases hb:ks l k with
   |none=>rfl
   |some r=>rw[uK hb (Nat.le_succ k)]at h;cases h
  intro i hi hl;by_cases e:i=k
  ·subst e;rw[An h1 hl]at h;split at h
   ·assumption
   ·cases h
  ·exact ih h1 i (by omega) hl
def DT{l:List iT}{k:Nat}(h:ks l k=none)(hk:k<=l.length):0<=dh (l.take k)/\dh (l.take k)<=1024*k:=by
 induction k with
 |zero=>simp[dh,gD]
 |succ k ih=>
  have h1:ks l k=none:=by
   cases hb:ks l k with
   |none=>rfl
   |some r=>rw[uK hb (Nat.le_succ k)]at h;cases h
  have h2:=ih h1 (by omega);have B4:k<l.length:=by omega
  obtain⟨_,_,_,h3,h4,_⟩:=uY (AK h k (by omega) B4);rw[kM B4];have h5:=(nX h4 l[k].rows.length).1;rw[dK]at h5;omega
def mc{v:ce}{sv:ae}{W:AW}(hs:eG W sv v.aB)(hv:v.aB.length<1000):bD (.func (.func 33) #[] #[]) [jA v sv] W=some (.tuple #[.af (iM v).1,.af (iM v).2],W):=by
 refine cG rfl ?_ yC;unfold vL;have bk:Le W (W.add (.cells [.af v.sh,.af v.CL,.af v.CQ,sv])):=(Le.refl W).add _;have hc:aH (W.add (.cells [.af v.sh,.af v.CL,.af v.CQ,sv])) W.next=some [.af v.sh,.af v.CL,.af v.CQ,sv]:=bO;have hn:W.next<(W.add (.cells [.af v.sh,.af v.CL,.af v.CQ,sv])).next:=by rw[AW.aJ];omega
 simp only[SX,aU];generalize Yu:W.add (.cells [.af v.sh,.af v.CL,.af v.CQ,sv])=W1 at *;have c0:aY (.pointer (some ⟨W.next,0,none⟩)) W1=some (.af v.sh,W1):=dN hc rfl;have c1:aY (.pointer (some ⟨W.next,1,none⟩)) W1=some (.af v.CL,W1):=dN hc rfl;have c2:aY (.pointer (some ⟨W.next,2,none⟩)) W1=some (.af v.CQ,W1):=dN hc rfl;have c3:∀W',Le W1 W'->aY (.pointer (some ⟨W.next,3,none⟩)) W'=some (sv,W'):=λW' k=>dN (by rw[k.aH hn];exact hc) rfl
 simp only[SX,c0,jx];unfold iM tB;cases n1:kY v.sh 1 16;case true=>simp only[SX,Bool.true_or,bc,aq];exact⟨aF,bk⟩
 simp only[SX,c1,oK];cases n2:kY v.CL 1 1000000000;case true=>simp only[SX,Bool.true_or,Bool.or_true,bc,aq];exact⟨aF,bk⟩
 simp only[SX,c2,oK];cases n3:kY v.CQ 1 1000000000;case true=>simp only[SX,Bool.or_true,bc,aq];exact⟨aF,bk⟩
 simp only[SX,c3 _ (.refl _),hs.1.len Qu,Bool.or_self,kW,cE];by_cases n4:v.aB.length=0;case pos=>
  have e:((v.aB.length:Int)=0):=by omega
  simp only[SX,e,ax n4,aq];exact⟨aF,bk⟩
 have e4:¬((v.aB.length:Int)=0):=by omega
 simp only[SX,e4,ay n4];by_cases n5:8<v.aB.length;case pos=>
  have e:((8:Int)<(v.aB.length:Int)):=by omega
  simp only[SX,e,ax n5,aq];exact⟨aF,bk⟩
 have e5:¬((8:Int)<(v.aB.length:Int)):=by omega
 simp only[SX,e5,ay n5];refine df v.aB.length (by omega) (λk R W'=>Le W1 W'/\R 1=.pointer (some ⟨W.next,0,none⟩)/\R 4=.af (dh (v.aB.take k))/\R 35=sv/\R 36=.af (v.aB.length:Int)/\R 37=.af (k:Int)/\ks v.aB k=none)
  (λr=>Le W1 r.2.2/\((r.1=.exit 1/\r.2.1 4=.af (dh v.aB)/\ks v.aB v.aB.length=none)\/(r.1=.ret/\∃i e,r.2.1 2=.af ((i:Nat):Int)/\r.2.1 3=.af e/\ks v.aB v.aB.length=some (i,e)))) ⟨.refl _,rfl,rfl,rfl,rfl,rfl,rfl⟩ ?_ ?_ ?_
 ·rintro k R W' hk ⟨hl,h1,h4,EP,LV,M5,hb⟩;unfold kS;obtain⟨b,o,rv,g1,g2,g3,_⟩:=hs.1.get hk;obtain⟨u,u1,u2⟩:=hs.pre hk;have e1:((k:Int)<(v.aB.length:Int)):=by omega
  simp only[SX,EP,LV,M5,e1,g1,g3 _ (bk.trans hl),Si,OO bz (od _) (Row.one g2) (oa _ _),du];have qN:Le W1 (W'.add (.cells [.string (aP v.aB[k].name),rv,.af v.aB[k].q])):=hl.add _;have Fs:aH (W'.add (.cells [.string (aP v.aB[k].name),rv,.af v.aB[k].q])) W'.next=some [.string (aP v.aB[k].name),rv,.af v.aB[k].q]:=bO;generalize hW2:W'.add (.cells [.string (aP v.aB[k].name),rv,.af v.aB[k].q])=W2 at *;have d3:b9 3 (.pointer (some ⟨W'.next,0,none⟩)) W2=some (I8 v.aB[k] rv,W2):=lW Fs rfl;have d1:aY (.pointer (some ⟨W'.next,1,none⟩)) W2=some (rv,W2):=dN Fs rfl;have hlr:=(g2.mono (bk.trans qN)).len (P:=Tryz.prog) vq;simp only[SX,d3,h1,aU,c3 _ qN,u1,JI (g2.mono (bk.trans qN)) (u2.mono (bk.trans qN)) (by rw[dR];omega)];have hbs:=An hb hk;by_cases hz:sV v.aB[k] (v.aB.take k)=0
  ·rw[ax hz]at hbs;obtain⟨_,_,_,R3,KQ,_⟩:=uY hz;have htb:=DT hb (by omega);simp only[SX,hz,d1,hlr];refine df v.aB[k].rows.length (by omega) (λj R' W3=>W3=W2/\R' 1=.pointer (some ⟨W.next,0,none⟩)/\R' 4=.af (dh (v.aB.take k)+gD (v.aB[k].rows.take j))/\R' 35=sv/\R' 36=.af (v.aB.length:Int)/\R' 37=.af (k:Int)/\R' 53=rv/\R' 54=.af (v.aB[k].rows.length:Int)/\R' 55=.af (j:Int))
    (λr=>r.2.2=W2/\r.1=.exit 3/\r.2.1 1=.pointer (some ⟨W.next,0,none⟩)/\r.2.1 4=.af (dh (v.aB.take (k+1)))/\r.2.1 35=sv/\r.2.1 36=.af (v.aB.length:Int)/\r.2.1 37=.af (k:Int)) ⟨rfl,h1,by rw[oZ,show gD []=0 from rfl,js];exact h4,EP,LV,M5,rfl,rfl,rfl⟩ ?_ ?_ ?_
   ·rintro j R' W3 hj ⟨rfl,h1,h4,EP,LV,M5,h53,h54,h55⟩;unfold iQ;obtain⟨p,p1,p2⟩:=g2.get hj;have e1:((j:Int)<(v.aB[k].rows.length:Int)):=by omega
    have e2:(j:Int)+1=((j+1:Nat):Int):=by omega
    have ea:=eH W3 j 1;have hsb:=(nX KQ j).1;have QN:=KQ _ (fq hj);have eb:=sw W3 (dh (v.aB.take k)+gD (v.aB[k].rows.take j)) (v.aB[k].rows[j]);simp only[SX,h4,h53,h54,h55,e1,p1,p2 _ (bk.trans qN),ea,eb,aq];refine .inl ⟨aF,aF,h1,?_,EP,LV,M5,h53,h54,by rw[<-e2];rfl⟩;rw[kF hj,<-tN];rfl
   ·rintro R' W3 ⟨rfl,h1,h4,EP,LV,M5,h53,h54,h55⟩;unfold iQ;have e1:¬((v.aB[k].rows.length:Int)<(v.aB[k].rows.length:Int)):=by omega
    simp only[SX,h54,h55,e1,aq];refine⟨by simp,aF,aF,h1,?_,EP,LV,M5⟩;rw[kM hk];rw[dK]at h4;exact h4
   ·rintro⟨x,R',W3⟩ ⟨hW,rfl,h1,h4,EP,LV,M5⟩;simp only at hW h1 h4 EP LV M5;subst hW;have e2:(k:Int)+1=((k+1:Nat):Int):=by omega
    have ea:=eH W3 k 1;simp only[SX,M5,ea,aq];exact .inl ⟨aF,qN,h1,h4,EP,LV,by rw[<-e2];rfl,hbs⟩
  ·rw[ay hz]at hbs;simp only[SX,hz,aq];exact .inr ⟨by simp,qN,.inr ⟨aF,k,_,rfl,rfl,uK hbs (by omega)⟩⟩
 ·rintro R W' ⟨hl,h1,h4,EP,LV,M5,hb⟩;unfold kS;have e1:¬((v.aB.length:Int)<(v.aB.length:Int)):=by omega
  rw[dK]at h4;simp only[SX,LV,M5,e1,aq];exact⟨by simp,hl,.inl ⟨aF,h4,hb⟩⟩
 ·rintro⟨x,R,W'⟩ ⟨hl,hq⟩;simp only at hl hq;rcases hq with⟨rfl,h4,hb⟩|⟨rfl,i,e,h2,h3,hb⟩
  ·rw[hb];by_cases n6:4096<dh v.aB
   ·simp only[SX,h4,n6,bc,aq];exact⟨aF,bk.trans hl⟩
   ·simp only[SX,h4,n6,cE,aq];exact⟨aF,bk.trans hl⟩
  ·rw[hb];simp only[SX,h2,h3,aq];exact⟨aF,bk.trans hl⟩
abbrev Zq:=Nat×Nat×Nat
def PM(i k m:Nat):List Zq:=(List.range m).map λj=>(i,k,j)
def GI(i:Nat)(rows:List Int)(k:Nat):List Zq:=(List.range k).flatMap λj=>PM i j (rows.getD j 0).toNat
def I1(l:List iT)(n:Nat):List Zq:=(List.range n).flatMap λi=>match l[i]? with
 |some s=>GI i s.rows s.rows.length
 |none=>[]
def Ku(i:Nat)(rows:List Int){k:Nat}(hk:k<rows.length):GI i rows (k+1)=GI i rows k++PM i k rows[k].toNat:=by unfold GI;rw[nv,fH,ly,List.flatMap_nil,jY,jj,cx hk,nO]
def KD(l:List iT){n:Nat}(hn:n<l.length):I1 l (n+1)=I1 l n++GI n l[n].rows l[n].rows.length:=by unfold I1;rw[nv,fH,ly,List.flatMap_nil,jY,cx hn]
structure Good (l:List iT):Prop where
 len:l.length<=8
 rows:∀s∈l,s.rows.length≠0/\s.rows.length<=16/\∀n∈s.rows,1<=n/\n<=64
def Good.of{l:List iT}(h:l.length<=8)(hb:ks l l.length=none):Good l:=
 ⟨h,λs hs=>by obtain⟨i,hi,rfl⟩:=tv hs;obtain⟨_,_,h3,h4,h5,_⟩:=uY (AK hb i hi hi);exact⟨h3,h4,h5⟩⟩
def Ob(i k m:Nat):(PM i k m).length=m:=by simp[PM]
def DI{i:Nat}{rows:List Int}(h:∀n∈rows,1<=n/\n<=64):∀{k:Nat},k<=rows.length->((GI i rows k).length:Int)=gD (rows.take k)
 |0,_=>by simp[GI,gD]
 |k+1,hk=>by
  have B4:k<rows.length:=by omega
  rw[Ku i rows B4,dj,Ob,kF B4,<-DI (i:=i) h (by omega:k<=rows.length)];have:=h _ (fq B4);omega
def y8{l:List iT}(h:Good l):∀{n:Nat},n<=l.length->((I1 l n).length:Int)=dh (l.take n)/\(I1 l n).length<=1024*n
 |0,_=>by simp[I1,dh,gD]
 |n+1,hn=>by
  have zP:n<l.length:=by omega
  obtain⟨h1,h2,h3⟩:=h.rows _ (fq zP);have ih:=y8 h (by omega:n<=l.length);have hl:=DI (i:=n) h3 (aS _);have hb:=(nX h3 l[n].rows.length).1;rw[dK]at hl hb;rw[KD l zP,dj,kM zP];omega
def ae0(a b c:Int)(W:AW):cn Tryz.prog 167 [(0,.af a),(1,.af b),(2,.af c)] W=some (.agg #[.af a,.af b,.af c],W):=aL (by kernel_rfl) rfl
def hZ{v:ce}(h:(iM v).2=0):Good v.aB/\tB v=false/\0<v.aB.length/\ks v.aB v.aB.length=none/\dh v.aB<=4096/\(iM v).1=0:=by
 unfold iM at h|-;split at h
 ·exact absurd h (by decide)
 rename_i h1;split at h
 ·exact absurd h (by decide)
 rename_i h2;split at h
 ·exact absurd h (by decide)
 rename_i h3;cases hb:ks v.aB v.aB.length with
 |some r=>
  obtain⟨i,e⟩:=r;rw[hb]at h;simp only at h;subst h;exfalso;have:∀n,ks v.aB n≠some (i,0):=by
   intro n;induction n with
   |zero=>simp[ks]
   |succ n ih=>
    intro hn;have zP:(match ks v.aB n with|some r=>some r|none=>match v.aB[n]? with|some s=>if sV s (v.aB.take n)=0 then none else some (n,sV s (v.aB.take n))|none=>none)=some (i,0):=hn;cases HN:ks v.aB n with
    |some r=>rw[HN]at zP;simp only at zP;rw[zP]at HN;exact ih HN
    |none=>
     rw[HN]at zP;simp only at zP;split at zP
     ·split at zP
      ·cases zP
      ·rename_i hz;injection zP with zP;injection zP with _ e;exact hz e
     ·cases zP
  exact this _ hb
 |none=>
  rw[hb]at h;simp only at h|-;split at h
  ·exact absurd h (by decide)
  rename_i h4;rw[ay h4,ay h1,ay h2,ay h3];exact⟨Good.of (by omega) hb,by simpa using h1,by omega,aF,by omega,rfl⟩
def lc(v:ce)(sv:ae)(W:AW):∃W1,cN (jA v sv) W=some (.pointer (some ⟨W.next,0,none⟩),W1)/\Le W W1/\W.next<W1.next/\
 (∀W',Le W1 W'->b9 4 (.pointer (some ⟨W.next,0,none⟩)) W'=some (jA v sv,W'))/\(∀W',Le W1 W'->aY (.pointer (some ⟨W.next,0,none⟩)) W'=some (.af v.sh,W'))/\(∀W',Le W1 W'->aY (.pointer (some ⟨W.next,3,none⟩)) W'=some (sv,W')):=by
 have hc:aH (W.add (.cells [.af v.sh,.af v.CL,.af v.CQ,sv])) W.next=some [.af v.sh,.af v.CL,.af v.CQ,sv]:=bO;have hn:W.next<(W.add (.cells [.af v.sh,.af v.CL,.af v.CQ,sv])).next:=by rw[AW.aJ];omega
 exact⟨_,aaK _ _ _ _ W,(Le.refl W).add _,hn,λW' k=>lW (by rw[k.aH hn];exact hc) rfl,λW' k=>dN (by rw[k.aH hn];exact hc) rfl,λW' k=>dN (by rw[k.aH hn];exact hc) rfl⟩
structure gB where
 sec:Nat
 row:Nat
 first:Int
 many:Int
abbrev BG(r:gB):ae:=.agg #[.af (r.sec:Int),.af (r.row:Int),.af r.first,.af r.many]
def vk(l:List iT)(i:Nat)(rows:List Int)(k:Nat):List gB:=(List.range k).map λj=>⟨i,j,dh (l.take i)+gD (rows.take j),rows.getD j 0⟩
def m9(l:List iT)(n:Nat):List gB:=(List.range n).flatMap λi=>match l[i]? with
 |some s=>vk l i s.rows s.rows.length
 |none=>[]
def cM(l:List iT):List gB:=m9 l l.length
def mS(l:List iT)(i:Nat)(rows:List Int){k:Nat}(hk:k<rows.length):vk l i rows (k+1)=vk l i rows k++[⟨i,k,dh (l.take i)+gD (rows.take k),rows[k]⟩]:=by unfold vk;rw[nv,oA,iN,lA,jj,cx hk,nO]
def lE(l:List iT){n:Nat}(hn:n<l.length):m9 l (n+1)=m9 l n++vk l n l[n].rows l[n].rows.length:=by unfold m9;rw[nv,fH,ly,List.flatMap_nil,jY,cx hn]
def M6{l:List iT}{i:Nat}{rows:List Int}{k n:Nat}(h:k<=n)(hn:n<=rows.length):vk l i rows k<+:vk l i rows n:=by
 induction n with
 |zero=>obtain rfl:k=0:=by omega
        exact List.prefix_refl _
 |succ n ih=>
  by_cases e:k=n+1
  ·subst e;exact List.prefix_refl _
  ·rw[mS l i rows (by omega)];exact(ih (by omega) (by omega)).trans (xk _ _)
def I3{l:List iT}{k n:Nat}(h:k<=n)(hn:n<=l.length):m9 l k<+:m9 l n:=by
 induction n with
 |zero=>obtain rfl:k=0:=by omega
        exact List.prefix_refl _
 |succ n ih=>
  by_cases e:k=n+1
  ·subst e;exact List.prefix_refl _
  ·rw[lE l (by omega)];exact(ih (by omega) (by omega)).trans (xk _ _)
def Nu{l:List iT}{i k:Nat}(hi:i<l.length)(hk:k<l[i].rows.length):(m9 l i++vk l i l[i].rows k)++[⟨i,k,dh (l.take i)+gD (l[i].rows.take k),l[i].rows[k]⟩]<+:cM l:=by rw[pM,<-mS l i _ hk];refine List.IsPrefix.trans ?_ (I3 (k:=i+1) (by omega) (aS _));rw[lE l hi];exact(List.prefix_append_right_inj _).2 (M6 (by omega) (aS _))
def ac7(a b c d:Int)(W:AW):cn Tryz.prog 140 [(0,.af a),(1,.af b),(2,.af c),(3,.af d)] W=some (.agg #[.af a,.af b,.af c,.af d],W):=aL (by kernel_rfl) rfl
def PW{v:ce}{sv f:ae}{bx:Nat}{W0 W:AW}(hs:oQ W0 sv v.aB)(hg:Good v.aB)(hb:aY (.pointer (some ⟨bx,3,none⟩)) W=some (sv,W))(I:List gB->AW->Prop)(Q:AW->Prop)
 (hI:I [] W)(hS:∀pre W',I pre W'->Le W0 W')(hA:∀pre W' cs,I pre W'->I pre (W'.add (.cells cs)))
 (step:∀pre r W',pre++[r]<+:cM v.aB->I pre W'->∃b W2,bD f [BG r] W'=some (.bool b,W2)/\(b=true->I (pre++[r]) W2)/\(b=false->Q W2)):
 ∃W2,bD (.func (.func 81) #[] #[.pointer (some ⟨bx,0,none⟩)]) [f] W=some (.tuple #[],W2)/\(I (cM v.aB) W2\/Q W2):=by
 have nK:Ok (nL bD f (.pointer (some ⟨bx,0,none⟩)) W) λr=>r.1=.tuple #[]/\(I (cM v.aB) r.2\/Q r.2):=by
  unfold nL;have dy:=hg.len;have yA:∀(k:Nat) (W':AW),k<1000000->az Tryz.prog .add 3 false true (.af (k:Int)) (.af 1) W'=some (.af ((k+1:Nat):Int),W'):=λk W' hk=>dg (by omega) (by omega)
  simp only[SX,aU,hb,hs.len Qu];refine df v.aB.length (by omega) (λi R W'=>R 0=f/\R 3=.af (dh (v.aB.take i))/\R 9=sv/\R 10=.af (v.aB.length:Int)/\R 11=.af (i:Int)/\I (m9 v.aB i) W')
   (λr=>(r.1=.exit 0/\I (cM v.aB) r.2.2)\/(r.1=.ret/\Q r.2.2)) ⟨rfl,rfl,rfl,rfl,rfl,hI⟩ ?_ ?_ ?_
  ·rintro i R W' hi ⟨h0,h3,h9,zy,Do,mJ⟩;unfold jH;have e1:((i:Int)<(v.aB.length:Int)):=by omega
   obtain⟨b,o,rv,g1,g2,g3,_⟩:=hs.get hi;obtain⟨r1,r2,r3⟩:=hg.rows _ (fq hi);have htb:0<=dh (v.aB.take i)/\dh (v.aB.take i)<=1024*i:=by have:=y8 hg (by omega:i<=v.aB.length);omega
   have SG:=hA _ _ [.string (aP v.aB[i].name),rv,.af v.aB[i].q] mJ;have Fs:aH (W'.add (.cells [.string (aP v.aB[i].name),rv,.af v.aB[i].q])) W'.next=some [.string (aP v.aB[i].name),rv,.af v.aB[i].q]:=bO;simp only[SX,h9,zy,Do,e1,g1,g3 _ (hS _ _ mJ),Si,OO bz (od _) (Row.one g2) (oa _ _),du,aU];generalize hW2:W'.add (.cells [.string (aP v.aB[i].name),rv,.af v.aB[i].q])=W2 at *;have d1:aY (.pointer (some ⟨W'.next,1,none⟩)) W2=some (rv,W2):=dN Fs rfl;simp only[SX,d1,g2.len vq];refine df v.aB[i].rows.length (by omega) (λk R W'=>R 0=f/\R 3=.af (dh (v.aB.take i)+gD (v.aB[i].rows.take k))/\R 4=.af (i:Int)/\R 9=sv/\R 10=.af (v.aB.length:Int)/\R 11=.af (i:Int)/\R 17=rv/\R 18=.af (v.aB[i].rows.length:Int)/\R 19=.af (k:Int)/\I (m9 v.aB i++vk v.aB i v.aB[i].rows k) W')
    (λr=>(r.1=.exit 2/\r.2.1 0=f/\r.2.1 3=.af (dh (v.aB.take (i+1)))/\r.2.1 9=sv/\r.2.1 10=.af (v.aB.length:Int)/\r.2.1 11=.af (i:Int)/\I (m9 v.aB (i+1)) r.2.2)\/(r.1=.ret/\Q r.2.2))
    ⟨h0,by rw[oZ,show gD []=0 from rfl,js];exact h3,rfl,h9,zy,Do,rfl,rfl,rfl,by rw[show vk v.aB i v.aB[i].rows 0=[]from rfl,jY];exact SG⟩ ?_ ?_ ?_
   ·rintro k R W' hk ⟨h0,h3,h4,h9,zy,Do,h17,h18,h19,mJ⟩;unfold gS;have e1:((k:Int)<(v.aB[i].rows.length:Int)):=by omega
    obtain⟨p,p1,p2⟩:=g2.get hk;obtain⟨c,W3,s1,s2,s3⟩:=step _ ⟨i,k,dh (v.aB.take i)+gD (v.aB[i].rows.take k),v.aB[i].rows[k]⟩ W' (Nu hi hk) mJ;have hsb:=(nX r3 k).1;have QN:=r3 _ (fq hk);have eb:=sw W3 (dh (v.aB.take i)+gD (v.aB[i].rows.take k)) (v.aB[i].rows[k]);simp only[SX,h0,h3,h4,h17,h18,h19,e1,p1,p2 _ (hS _ _ mJ),ac7,s1];cases c
    ·simp only[SX,aq];exact .inr ⟨by simp,.inr ⟨aF,s3 rfl⟩⟩
    ·simp only[SX,eb,yA k _ (by omega),aq];refine .inl ⟨aF,h0,?_,h4,h9,zy,Do,h17,h18,rfl,?_⟩
     ·rw[kF hk,<-tN];rfl
     ·rw[mS _ _ _ hk,<-pM];exact s2 rfl
   ·rintro R W' ⟨h0,h3,h4,h9,zy,Do,h17,h18,h19,mJ⟩;unfold gS;have e1:¬((v.aB[i].rows.length:Int)<(v.aB[i].rows.length:Int)):=by omega
    simp only[SX,h18,h19,e1,aq];refine⟨by simp,.inl ⟨aF,h0,?_,h9,zy,Do,?_⟩⟩
    ·rw[kM hi];rw[dK]at h3;exact h3
    ·rw[lE _ hi];exact mJ
   ·rintro⟨x,R,W'⟩ hq;rcases hq with⟨rfl,h0,h3,h9,zy,Do,mJ⟩|⟨rfl,hq⟩
    ·simp only at h0 h3 h9 zy Do mJ;simp only[SX,Do,yA i _ (by omega),aq];exact .inl ⟨aF,h0,h3,h9,zy,rfl,mJ⟩
    ·simp only[SX,aq];exact .inr ⟨by simp,.inr ⟨aF,hq⟩⟩
  ·rintro R W' ⟨h0,h3,h9,zy,Do,mJ⟩;unfold jH;have e1:¬((v.aB.length:Int)<(v.aB.length:Int)):=by omega
   simp only[SX,zy,Do,e1,aq];exact⟨by simp,.inl ⟨aF,mJ⟩⟩
  ·rintro⟨x,R,W'⟩ hq;rcases hq with⟨rfl,mJ⟩|⟨rfl,hq⟩
   ·simp only[SX,aq];exact⟨aF,.inl mJ⟩
   ·simp only[SX,aq];exact⟨aF,.inr hq⟩
 obtain⟨⟨r,W'⟩,h1,h2,h3⟩:=nK;simp only at h2 h3;subst h2;exact⟨W',by rw[wy h1,uD rfl],h3⟩
def Im{v:ce}{sv:ae}(W:AW):∃W1,bD (.func (.func 62) #[] #[]) [jA v sv] W=some (.func (.func 81) #[] #[.pointer (some ⟨W.next,0,none⟩)],W1)/\Le W W1/\W.next<W1.next/\(∀W',Le W1 W'->aY (.pointer (some ⟨W.next,3,none⟩)) W'=some (sv,W')):=by
 obtain⟨W1,hB,bk,hn,c4,c0,c3⟩:=lc v sv W;refine⟨W1,?_,bk,hn,c3⟩;have:rO bD (jA v sv) W=some (.func (.func 81) #[] #[.pointer (some ⟨W.next,0,none⟩)],W1):=by unfold rO;simp only[SX,hB]
 rw[zE this,uD rfl]
def GF{v:ce}{sv:ae}{W0 W:AW}{bx nt:Nat}{R:Nat->ae}{ps:Array Tmp}{ac bd:Code}(hs:oQ W0 sv v.aB)(hg:Good v.aB)
 (hb:aY (.pointer (some ⟨bx,3,none⟩)) (W.add (.loop .ready none R nt ps ac bd))=some (sv,W.add (.loop .ready none R nt ps ac bd)))(hp:ps.size=1)
 (J:List gB->AW->Prop)(Q:X->AW->Prop)(h0:J [] (W.add (.loop .ready none R nt ps ac bd)))
 (hS:∀pre W',J pre W'->Le W0 W')(hA:∀pre W' cs,J pre W'->W.next<W'.next->J pre (W'.add (.cells cs)))(hP:∀pre W' o,J pre W'->J pre (W'.put W.next o))(hQ:∀x W' o,Q x W'->Q x (W'.put W.next o))
 (d:Nat)(has:∀r W' R',R'=jZ ps.toList [BG r] R->eZ Tryz.prog bD false nt ac LT R' W' j7=some (.normal,dw R' (some d) (.pointer (some ⟨W'.next,0,none⟩)),W'.add (.cells [.af (r.sec:Int),.af (r.row:Int),.af r.first,.af r.many])))
 (step:∀pre r W' b R',R'=dw (jZ ps.toList [BG r] R) (some d) (.pointer (some ⟨b,0,none⟩))->pre++[r]<+:cM v.aB->J pre W'->W.next<W'.next->aA W' b=some [.af (r.sec:Int),.af (r.row:Int),.af r.first,.af r.many]->W.next<b->b<W'.next->
   Ok (eZ Tryz.prog bD false nt bd LT R' W' j7) λq=>W'.next<=q.2.2.next/\q.2.2.get W.next=W'.get W.next/\((q.1=.normal/\J (pre++[r]) q.2.2)\/(q.1≠ .normal/\Q q.1 q.2.2))):
 ∃x W2,gQ bD (.func (.func 81) #[] #[.pointer (some ⟨bx,0,none⟩)]) (.loop .ready none R nt ps ac bd) W=some (x,W2.kill W.next)/\((x=.normal/\J (cM v.aB) W2)\/(x≠ .normal/\Q x W2)):=by
 obtain⟨W2,h1,h2⟩:=PW (f:=.func (.yield W.next) #[] #[]) (W:=W.add (.loop .ready none R nt ps ac bd)) hs hg hb
  (λpre W'=>J pre W'/\W.next<W'.next/\W'.get W.next=some (.loop .ready none R nt ps ac bd))
  (λW'=>∃x,x≠ .normal/\Q x W'/\W'.get W.next=some (.loop .done x.jump R nt ps ac bd))
  ⟨h0,by rw[AW.aJ];omega,AW.bf _ _⟩ (λpre W' h=>hS _ _ h.1)
  (λpre W' cs h=>⟨hA _ _ _ h.1 h.2.1,by rw[AW.aJ];omega,by rw[AW.aZ _ _ (by omega)];exact h.2.2⟩)
  (λpre r W' oX ⟨hJ,fy,dL⟩=>by
    have hJ2:=hP _ _ (.loop .busy none R nt ps ac bd) (hA _ _ [.af (r.sec:Int),.af (r.row:Int),.af r.first,.af r.many] hJ fy);obtain⟨⟨x,R2,W3⟩,k1,k2,k3,k4⟩:=step pre r _ W'.next _ rfl oX hJ2 (by rw[AW.cu,AW.aJ];omega) (by rw[aW _ (by omega)];exact bz) fy (by rw[AW.cu,AW.aJ];omega);simp only at k1 k2 k3 k4;rw[AW.bH]at k3;have hy:=AS (P:=Tryz.prog) (args:=[BG r]) dL (by rw[hp];rfl) (has r W' _ rfl) (by rw[AW.aZ _ _ (by omega)];exact dL) k1 k3;have hn3:W.next<W3.next:=by rw[AW.cu,AW.aJ]at k2;omega
    rcases k4 with⟨rfl,k4⟩|⟨kx,k4⟩
    ·exact⟨true,_,hy,λ_=>⟨hP _ _ _ k4,by rw[AW.cu];exact hn3,AW.bH _ _ _⟩,λh=>by cases h⟩
    ·refine⟨false,W3.put W.next (.loop .done x.jump R nt ps ac bd),?_,λh=>by(cases h),λ_=>⟨x,kx,hQ _ _ _ k4,AW.bH _ _ _⟩⟩;refine hy.trans ?_;cases x with
     |normal=>exact absurd rfl kx
     |exit i=>rfl
     |ret=>rfl)
 rcases h2 with⟨h2,h3,h4⟩|⟨x,h2,h3,h4⟩
 ·exact⟨.normal,W2,t6 h1 h4 (by simp),.inl ⟨rfl,h2⟩⟩
 ·exact⟨x,W2,yu h1 h4,.inr ⟨h2,h3⟩⟩
def Iz{v:ce}{sv:ae}{W0 W:AW}{bx nt:Nat}{R:Nat->ae}{ps:Array Tmp}{ac bd:Code}{ρ:Type}{K:X×AW->Option ρ}{G:ρ->Prop}(hs:oQ W0 sv v.aB)(hg:Good v.aB)
 (hb:aY (.pointer (some ⟨bx,3,none⟩)) (W.add (.loop .ready none R nt ps ac bd))=some (sv,W.add (.loop .ready none R nt ps ac bd)))(hp:ps.size=1)
 (J:List gB->AW->Prop)(Q:X->AW->Prop)(h0:J [] (W.add (.loop .ready none R nt ps ac bd)))
 (hS:∀pre W',J pre W'->Le W0 W')(hA:∀pre W' cs,J pre W'->W.next<W'.next->J pre (W'.add (.cells cs)))(hP:∀pre W' o,J pre W'->J pre (W'.put W.next o))(hQ:∀x W' o,Q x W'->Q x (W'.put W.next o))
 (d:Nat)(has:∀r W' R',R'=jZ ps.toList [BG r] R->eZ Tryz.prog bD false nt ac LT R' W' j7=some (.normal,dw R' (some d) (.pointer (some ⟨W'.next,0,none⟩)),W'.add (.cells [.af (r.sec:Int),.af (r.row:Int),.af r.first,.af r.many])))
 (step:∀pre r W' b R',R'=dw (jZ ps.toList [BG r] R) (some d) (.pointer (some ⟨b,0,none⟩))->pre++[r]<+:cM v.aB->J pre W'->W.next<W'.next->aA W' b=some [.af (r.sec:Int),.af (r.row:Int),.af r.first,.af r.many]->W.next<b->b<W'.next->
   Ok (eZ Tryz.prog bD false nt bd LT R' W' j7) λq=>W'.next<=q.2.2.next/\q.2.2.get W.next=W'.get W.next/\((q.1=.normal/\J (pre++[r]) q.2.2)\/(q.1≠ .normal/\Q q.1 q.2.2)))
 (after:∀x W2,(x=.normal/\J (cM v.aB) W2)\/(x≠ .normal/\Q x W2)->Ok (K (x,W2.kill W.next)) G):
 Ok (ak (gQ bD (.func (.func 81) #[] #[.pointer (some ⟨bx,0,none⟩)]) (.loop .ready none R nt ps ac bd) W) K) G:=by
 obtain⟨x,W2,h1,h2⟩:=GF hs hg hb hp J Q h0 hS hA hP hQ d has step;rw[h1,sL];exact after x W2 h2
def cR(l:List gB):Int:=gD (l.map (·.many))
def ji:Int->List gB->Prop
 |_,[]=>True
 |s,r::l=>r.first=s/\ji (s+r.many) l
def jf:cR []=0:=rfl
def cZ(r:gB)(l:List gB):cR (r::l)=r.many+cR l:=rfl
def io(a b:List gB):cR (a++b)=cR a+cR b:=by
 induction a with
 |nil=>simp[jf]
 |cons r a ih=>rw[rA,cZ,cZ,ih];omega
def ji.append:∀{a b:List gB} {s:Int},ji s a->ji (s+cR a) b->ji s (a++b)
 |[],_,s,_,h=>by rw[jf,js]at h;exact h
 |r::a,b,s,⟨h1,h2⟩,h=>⟨h1,ji.append h2 (by rw[cZ,<-tN]at h;exact h)⟩
def ji.at:∀{a b:List gB} {r:gB} {s:Int},ji s (a++r::b)->r.first=s+cR a
 |[],_,_,s,⟨h,_⟩=>by rw[h,jf,js]
 |x::a,b,r,s,⟨_,h⟩=>by rw[ji.at h,cZ,tN]
def yO(l:List iT)(i:Nat)(rows:List Int):∀{k:Nat},k<=rows.length->cR (vk l i rows k)=gD (rows.take k)
 |0,_=>rfl
 |k+1,hk=>by rw[mS l i rows (by omega),io,yO l i rows (by omega),kF (by omega),cZ,jf,js]
def vK(l:List iT)(i:Nat)(rows:List Int):∀{k:Nat},k<=rows.length->ji (dh (l.take i)) (vk l i rows k)
 |0,_=>trivial
 |k+1,hk=>by rw[mS l i rows (by omega)];exact(vK l i rows (by omega)).append ⟨by rw[yO l i rows (by omega)],aF⟩
def uz(l:List iT):∀{n:Nat},n<=l.length->cR (m9 l n)=dh (l.take n)
 |0,_=>rfl
 |n+1,hn=>by rw[lE l (by omega),io,uz l (by omega),yO l n _ (aS _),kM (by omega),dK]
def tT(l:List iT):∀{n:Nat},n<=l.length->ji 0 (m9 l n)
 |0,_=>trivial
 |n+1,hn=>by rw[lE l (by omega)];refine(tT l (by omega)).append ?_;rw[uz l (by omega),Int.zero_add];exact vK l n _ (aS _)
def Da(l:List iT):cR (cM l)=dh l:=by have:=uz l (aS l.length);rwa [dK]at this
def En(l:List iT):ji 0 (cM l):=tT l (aS _)
def Dp(l:List iT)(r:gB):Prop:=∃(hi:r.sec<l.length) (hk:r.row<l[r.sec].rows.length),r.many=l[r.sec].rows[r.row]
def kU{l:List iT}{r:gB}(h:r∈cM l):Dp l r:=by unfold cM m9 at h;obtain⟨i,hi,h⟩:=List.mem_flatMap.1 h;rw[qh]at hi;rw[cx hi]at h;unfold vk at h;obtain⟨k,hk,rfl⟩:=qg.1 h;rw[qh]at hk;exact⟨hi,hk,by simp[jj,cx hk]⟩
def Dp.many{l:List iT}{r:gB}(h:Dp l r)(hg:Good l):1<=r.many/\r.many<=64/\r.sec<8/\r.row<16:=by obtain⟨hi,hk,hm⟩:=h;obtain⟨_,h2,h3⟩:=hg.rows _ (fq hi);have:=h3 _ (fq hk);have:=hg.len;omega
def nc{l:List gB}(h:∀r∈l,1<=r.many):(l.length:Int)<=cR l:=by
 induction l with
 |nil=>simp[jf]
 |cons r l ih=>
  have h1:=h r (by simp);have h2:=ih λx hx=>h x (by simp[hx])
  rw[cZ,dB];omega
def AG{a l:List gB}(h:a<+:l)(hm:∀r∈l,1<=r.many):0<=cR a/\cR a<=cR l:=by
 obtain⟨b,rfl⟩:=h;have h1:=nc (l:=a) λr hr=>hm r (by simp[hr])
 have h2:=nc (l:=b) λr hr=>hm r (by simp[hr])
 rw[io];omega
def Ak{l:List iT}(hg:Good l):0<=dh l/\dh l<=8192:=by have h:=(y8 hg (aS l.length));rw[dK]at h;have:=hg.len;omega
def xE{l:List iT}(hg:Good l){pre:List gB}{r:gB}(h:pre++[r]<+:cM l):Dp l r/\r.first=cR pre/\0<=cR pre/\cR (pre++[r])<=8192/\1<=r.many/\r.many<=64/\cR (pre++[r])=cR pre+r.many:=by
 have hm:∀r∈cM l,1<=r.many:=λr hr=>((kU hr).many hg).1
 have hr:r∈cM l:=h.subset (by simp);have h1:=AG h hm;have h2:=AG ((xk pre [r]).trans h) hm;rw[Da]at h1;obtain⟨b,hb⟩:=h;have hf:=En l;rw[<-hb,pM]at hf;have:=ji.at hf;have hx:=(kU hr).many hg;have:=Ak hg;refine⟨kU hr,by omega,by omega,by omega,by omega,by omega,?_⟩;rw[io,cZ,jf,js]
def oL3(x:ae)(W:AW):ic Tryz.prog 3 x W=aY x W:=by kernel_rfl
def Jp(x:ae)(W:AW):ic Tryz.prog 30 x W=aY x W:=by kernel_rfl
def Tv(x:ae)(W:AW):ic Tryz.prog 140 x W=b9 4 x W:=by kernel_rfl
def al3(W:AW):bh Tryz.prog 3 W=some (.pointer (some ⟨W.next,0,none⟩),W.add (.cells [.af 0])):=aL (by kernel_rfl) rfl
def adF(W:AW):bh Tryz.prog 30 W=some (.pointer (some ⟨W.next,0,none⟩),W.add (.cells [.af 0])):=aL (by kernel_rfl) rfl
def Tn(W:AW):bh Tryz.prog 140 W=some (.pointer (some ⟨W.next,0,none⟩),W.add (.cells [.af 0,.af 0,.af 0,.af 0])):=aL (by kernel_rfl) rfl
def Q6(W:AW):cn Tryz.prog 140 [] W=some (.agg #[.af 0,.af 0,.af 0,.af 0],W):=aL (by kernel_rfl) rfl
def adf{b:Nat}{a c d e x y z u:ae}{W:AW}(h:aA W b=some [x,y,z,u])(h1:Eng.one a=true)(h2:Eng.one c=true)(h3:Eng.one d=true)(h4:Eng.one e=true):cS 4 (.pointer (some ⟨b,0,none⟩)) (.agg #[a,c,d,e]) W=some (ai,W.put b (.cells [a,c,d,e])):=by rw[FX,h,bl];have hc:(Value.agg #[a,c,d,e]).cells=#[a,c,d,e]:=Kn _;rw[hc,ax ⟨rfl,by simp,by simp[h1,h2,h3,h4]⟩];rfl
def FC{b:Nat}{x:ae}{n:Int}{W:AW}(h:aA W b=some [x]):cS 1 (.pointer (some ⟨b,0,none⟩)) (.af n) W=some (ai,W.put b (.cells [.af n])):=by rw[kw,h];rfl
def zD{b:Nat}{x:ae}{W:AW}(h:aA W b=some [x]):aY (.pointer (some ⟨b,0,none⟩)) W=some (x,W):=dN (ez h) rfl
def yz{b o:Nat}{cs:List ae}{x:ae}{W:AW}(h:aA W b=some cs)(hv:cs[o]? =some x):aY (.pointer (some ⟨b,o,none⟩)) W=some (x,W):=dN (ez h) hv
abbrev Oj(r:gB):List ae:=[.af (r.sec:Int),.af (r.row:Int),.af r.first,.af r.many]
def Nk{α:Type}{p:α->Bool}{pre l:List α}{r:α}(h:pre++[r]<+:l)(h0:∀x∈pre,p x=false)(h1:p r=true):l.find? p=some r:=by obtain⟨b,rfl⟩:=h;rw[pM,List.find?_append,List.find?_eq_none.2 (λx hx=>by simp[h0 x hx]),rA,List.find?_cons_of_pos h1];rfl
def PL{α:Type}{p:α->Bool}{l:List α}(h0:∀x∈l,p x=false):l.find? p=none:=List.find?_eq_none.2 (λx hx=>by simp[h0 x hx])
def D7{α:Type}{p:α->Bool}{pre:List α}{r:α}(h0:∀x∈pre,p x=false)(h1:p r=false):∀x∈pre++[r],p x=false:=by
 intro x hx;rcases mC.1 hx with h|h
 ·exact h0 x h
 ·rw[kX.1 h];exact h1
def UY(n:Int)(W:AW):∃W1,cN (.af n) W=some (.pointer (some ⟨W.next,0,none⟩),W1)/\W1.next=W.next+1/\Le W W1/\aA W1 W.next=some [.af n]:=
 ⟨_,Db _ _,AW.aJ _ _,(Le.refl W).add _,bz⟩
def Wk(W:AW):∃W1,bh Tryz.prog 3 W=some (.pointer (some ⟨W.next,0,none⟩),W1)/\W1.next=W.next+1/\Le W W1/\aA W1 W.next=some [.af 0]:=⟨_,al3 W,AW.aJ _ _,(Le.refl W).add _,bz⟩
def Rp(W:AW):∃W1,bh Tryz.prog 30 W=some (.pointer (some ⟨W.next,0,none⟩),W1)/\W1.next=W.next+1/\Le W W1/\aA W1 W.next=some [.af 0]:=⟨_,adF W,AW.aJ _ _,(Le.refl W).add _,bz⟩
def NQ(W:AW):∃W1,bh Tryz.prog 140 W=some (.pointer (some ⟨W.next,0,none⟩),W1)/\W1.next=W.next+1/\Le W W1/\aA W1 W.next=some [.af 0,.af 0,.af 0,.af 0]:=⟨_,Tn W,AW.aJ _ _,(Le.refl W).add _,bz⟩
def ju{W:AW}{b c:Nat}(h:b≠c):aA (W.kill b) c=aA W c:=by unfold aA;rw[W.db h]
def ld4{b:Nat}{x y z u:ae}{W:AW}(h:aA W b=some [x,y,z,u]):b9 4 (.pointer (some ⟨b,0,none⟩)) W=some (.agg #[x,y,z,u],W):=lW (ez h) rfl
def ym{b:Nat}{a c d e:Int}{x y z u:ae}{W:AW}(h:aA W b=some [x,y,z,u]):cS 4 (.pointer (some ⟨b,0,none⟩)) (.agg #[.af a,.af c,.af d,.af e]) W=some (ai,W.put b (.cells [.af a,.af c,.af d,.af e])):=adf h rfl rfl rfl rfl
def yF(cU:Int)(r:gB):Bool:=decide (r.first<=cU)&&decide (cU<r.first+r.many)
abbrev zs:List ae:=[.af 0,.af 0,.af 0,.af 0]
abbrev Z3:gB:=⟨0,0,0,0⟩
def dW(v:ce)(cU:Int):gB×Int:=if(iM v).2=0 then(match(cM v.aB).find? (yF cU)with
 |some r=>(r,0)
 |none=>(Z3,4))else(Z3,(iM v).2)
def Il{v:ce}{sv:ae}{W:AW}{cU:Int}(hs:eG W sv v.aB)(hv:v.aB.length<1000):bD (.func (.func 166) #[] #[]) [jA v sv,.af cU] W=some (.tuple #[BG (dW v cU).1,.af (dW v cU).2],W):=by
 refine cG rfl ?_ zK;unfold yp dW;obtain⟨W1,hB,bk,hn,c4,c0,c3⟩:=lc v sv W;obtain⟨W2,b2,n2,l2,r2⟩:=UY cU W1;obtain⟨W3,b3,n3,l3,r3⟩:=NQ W2;obtain⟨W4,b4,n4,l4,r4⟩:=Rp W3;have eE:aA W4 W2.next=some [.af 0,.af 0,.af 0,.af 0]:=by rw[l4.aA (by omega)];exact r3
 have Ip:=l3.trans l4;have oL:=bk.trans l2;have QN:=bk.next;simp only[SX,hB,b2,b3,b4,c4 _ (l2.trans Ip),mc (hs.mono (oL.trans Ip)) hv];by_cases he:(iM v).2=0;case neg=>
  have p1:aA (W4.put W2.next (.cells (zs))) W3.next=some [.af 0]:=by rw[aW _ (by omega)];exact r4
  have p2:∀x,aA ((W4.put W2.next (.cells (zs))).put W3.next x) W2.next=some (zs):=λx=>by rw[aW _ (by omega)];exact bt _
  simp only[SX,he,cE,Q6,ym eE,FC p1,qn,Tv,Jp,ld4 (p2 _),zD (bt _),bl,aq];exact⟨rfl,((oL.trans Ip).put (by omega) _).put (by omega) _⟩
 obtain⟨hg,-⟩:=hZ he;obtain⟨W5,q1,q2,q3,q4⟩:=Im (v:=v) (sv:=sv) W4;have hn5:=q2.next;simp only[SX,br he,q1,ax he];refine Iz (hs.mono oL).1 hg (q4 _ ((Le.refl _).add _)) rfl (λpre W'=>Le W2 W'/\aA W' W2.next=some (zs)/\aA W' W3.next=some [.af 0]/\∀r∈pre,yF cU r=false)
  (λx W'=>x=.ret/\Le W2 W'/\∃r,(cM v.aB).find? (yF cU)=some r/\aA W' W2.next=some (Oj r)/\aA W' W3.next=some [.af 0])
  ⟨(Ip.trans q2).add _,by rw[eJ _ (by omega),q2.aA (by omega)];exact eE,by rw[eJ _ (by omega),q2.aA (by omega)];exact r4,by simp⟩ (λ_ _ h=>h.1)
  (λpre W' cs h hl=>⟨h.1.add _,by rw[eJ _ (by omega)];exact h.2.1,by rw[eJ _ (by omega)];exact h.2.2.1,h.2.2.2⟩)
  (λpre W' o h=>⟨h.1.put (by omega) _,by rw[aW _ (by omega)];exact h.2.1,by rw[aW _ (by omega)];exact h.2.2.1,h.2.2.2⟩)
  (λx W' o ⟨h1,h2,r,h3,h4,h5⟩=>⟨h1,h2.put (by omega) _,r,h3,by rw[aW _ (by omega)];exact h4,by rw[aW _ (by omega)];exact h5⟩) 8 ?_ ?_ ?_
 ·intro r W' R' hR;have cT:R' 20=BG r:=by rw[hR];rfl
  rw[tA];unfold pJ;simp only[SX,Tn,cT,ym bz,du];try rfl
 ·intro pre r W' b R' hR oX ⟨h1,h2,h3,h4⟩ hl hb KP gW;have f3:R' 3=.pointer (some ⟨W1.next,0,none⟩):=by rw[hR];rfl
  have f4:R' 4=.pointer (some ⟨W2.next,0,none⟩):=by rw[hR];rfl
  have f5:R' 5=.pointer (some ⟨W3.next,0,none⟩):=by rw[hR];rfl
  have f8:R' 8=.pointer (some ⟨b,0,none⟩):=by rw[hR];rfl
  clear hR;rw[te];unfold pN;obtain⟨k1,k2,k3,k4,k5,k6,k7⟩:=xE hg oX;have ea:=sw W' r.first r.many;have LW:aA W' W1.next=some [.af cU]:=by rw[h1.aA (by omega)];exact r2
  simp only[SX,f3,f8,zD LW,yz (o:=2) hb rfl,aU];have iU:yF cU r=(decide (r.first<=cU)&&decide (cU<r.first+r.many)):=rfl;by_cases t1:r.first<=cU;case neg=>rw[bK t1,pH]at iU;simp only[SX,t1,aq];exact⟨aS _,aF,.inl ⟨aF,h1,h2,h3,D7 h4 iU⟩⟩
  simp only[SX,br t1,yz (o:=2) hb rfl,yz (o:=3) hb rfl,ea];by_cases t2:cU<r.first+r.many;case neg=>rw[bK t2,Bool.and_false]at iU;simp only[SX,t2,aq];exact⟨aS _,aF,.inl ⟨aF,h1,h2,h3,D7 h4 iU⟩⟩
  rw[br t1,br t2]at iU;have p1:aA (W'.put W2.next (.cells (Oj r))) W3.next=some [.af 0]:=by rw[aW _ (by omega)];exact h3
  simp only[SX,br t2,f4,f5,ld4 hb,ym h2,FC p1,aq];exact⟨aS _,by rw[AW.aE _ _ (by omega),AW.aE _ _ (by omega)],.inr ⟨by simp,aF,(h1.put (by omega) _).put (by omega) _,r,Nk oX h4 iU,by rw[aW _ (by omega)];exact bt _,bt _⟩⟩
 ·rintro x W6 (⟨rfl,h1,h2,h3,h4⟩|⟨_,rfl,h1,r,h2,h3,h4⟩)
  ·have k2:aA (W6.kill W5.next) W2.next=some (zs):=by rw[ju (by omega)];exact h2
   have k3:aA ((W6.kill W5.next).put W2.next (.cells (zs))) W3.next=some [.af 0]:=by rw[aW _ (by omega),ju (by omega)];exact h3
   have p2:∀x,aA (((W6.kill W5.next).put W2.next (.cells (zs))).put W3.next x) W2.next=some (zs):=λx=>by rw[aW _ (by omega)];exact bt _
   simp only[SX,Q6,ym k2,FC k3,qn,Tv,Jp,ld4 (p2 _),zD (bt _),bl,PL h4,aq];exact⟨rfl,(((oL.trans h1).kill (by omega)).put (by omega) _).put (by omega) _⟩
  ·have k2:aA (W6.kill W5.next) W2.next=some (Oj r):=by rw[ju (by omega)];exact h3
   have k3:aA (W6.kill W5.next) W3.next=some [.af 0]:=by rw[ju (by omega)];exact h4
   simp only[SX,qn,Tv,Jp,ld4 k2,zD k3,bl,h2,aq];exact⟨aF,(oL.trans h1).kill (by omega)⟩
def dG(sec:Int)(r:gB):Bool:=decide ((r.sec:Int)=sec)
def KL:List gB->Int
 |[]=>0
 |r::_=>r.first
def vr(v:ce)(sec:Int):Int×Int×Int:=if(iM v).2=0 then
 if cR ((cM v.aB).filter (dG sec))=0 then(0,0,4)else(KL ((cM v.aB).filter (dG sec)),cR ((cM v.aB).filter (dG sec)),0)
 else(0,0,(iM v).2)
def nN{α:Type}{p:α->Bool}{pre:List α}{r:α}(h:p r=true):(pre++[r]).filter p=pre.filter p++[r]:=by simp[List.filter_append,h]
def xC{α:Type}{p:α->Bool}{pre:List α}{r:α}(h:p r=false):(pre++[r]).filter p=pre.filter p:=by simp[List.filter_append,h]
def JV{l:List gB}{r:gB}(h:l≠[]):KL (l++[r])=KL l:=by
 cases l with
 |nil=>exact absurd rfl h
 |cons=>rfl
def RK{v:ce}{sv:ae}{W:AW}{sec:Int}(hs:eG W sv v.aB)(hv:v.aB.length<1000):bD (.func (.func 164) #[] #[]) [jA v sv,.af sec] W=some (.tuple #[.af (vr v sec).1,.af (vr v sec).2.1,.af (vr v sec).2.2],W):=by
 refine cG rfl ?_ C7;unfold DD vr;obtain⟨W1,hB,bk,hn,c4,c0,c3⟩:=lc v sv W;obtain⟨W2,b2,n2,l2,r2⟩:=UY sec W1;obtain⟨W3,b3,n3,l3,r3⟩:=Wk W2;obtain⟨W4,b4,n4,l4,r4⟩:=Wk W3;have eE:aA W4 W2.next=some [.af 0]:=by rw[l4.aA (by omega)];exact r3
 have Ip:=l3.trans l4;have oL:=bk.trans l2;have QN:=bk.next;have e2:∀(W':AW) a b,aA ((W'.put W2.next (.cells a)).put W3.next b) W2.next=some a:=λW' a b=>by rw[aW _ (by omega)];exact bt _
 have e3:∀(W':AW) a,aA (W'.put W2.next a) W3.next=aA W' W3.next:=λW' a=>aW _ (by omega)
 simp only[SX,hB,b2,b3,b4,c4 _ (l2.trans Ip),mc (hs.mono (oL.trans Ip)) hv];by_cases he:(iM v).2=0;case neg=>simp only[SX,he,cE,FC eE,FC ((e3 _ _).trans r4),xW,oL3,zD (e2 _ _ _),zD (bt _),bl,aq];exact⟨aF,((oL.trans Ip).put (by omega) _).put (by omega) _⟩
 obtain⟨hg,-⟩:=hZ he;obtain⟨W5,q1,q2,q3,q4⟩:=Im (v:=v) (sv:=sv) W4;have hn5:=q2.next;simp only[SX,br he,q1,ax he];refine Iz (hs.mono oL).1 hg (q4 _ ((Le.refl _).add _)) rfl (λpre W'=>Le W2 W'/\aA W' W2.next=some [.af (KL (pre.filter (dG sec)))]/\aA W' W3.next=some [.af (cR (pre.filter (dG sec)))])
  (λx W'=>False)
  ⟨(Ip.trans q2).add _,by rw[eJ _ (by omega),q2.aA (by omega)];exact eE,by rw[eJ _ (by omega),q2.aA (by omega)];exact r4⟩ (λ_ _ h=>h.1)
  (λpre W' cs h hl=>⟨h.1.add _,by rw[eJ _ (by omega)];exact h.2.1,by rw[eJ _ (by omega)];exact h.2.2⟩)
  (λpre W' o h=>⟨h.1.put (by omega) _,by rw[aW _ (by omega)];exact h.2.1,by rw[aW _ (by omega)];exact h.2.2⟩)
  (λx W' o h=>h) 9 ?_ ?_ ?_
 ·intro r W' R' hR;have cT:R' 20=BG r:=by rw[hR];rfl
  rw[wo];unfold tI;simp only[SX,Tn,cT,ym bz,du]
 ·intro pre r W' b R' hR oX ⟨h1,h2,h3⟩ hl hb KP gW;have f3:R' 3=.pointer (some ⟨W1.next,0,none⟩):=by rw[hR];rfl
  have f4:R' 4=.pointer (some ⟨W2.next,0,none⟩):=by rw[hR];rfl
  have f5:R' 5=.pointer (some ⟨W3.next,0,none⟩):=by rw[hR];rfl
  have f8:R' 9=.pointer (some ⟨b,0,none⟩):=by rw[hR];rfl
  clear hR;rw[wJ];unfold s8;obtain⟨k1,k2,k3,k4,k5,k6,k7⟩:=xE hg oX;have LW:aA W' W1.next=some [.af sec]:=by rw[h1.aA (by omega)];exact r2
  have hmp:∀x∈pre,1<=x.many:=λx hx=>((kU (((xk pre [r]).trans oX).subset hx)).many hg).1
  have hms:=nc (l:=pre.filter (dG sec)) (λx hx=>hmp x (oc.1 hx).1);have aae:cR (pre.filter (dG sec))<=cR pre:=by
   have:∀l:List gB,(∀x∈l,1<=x.many)->cR (l.filter (dG sec))<=cR l:=by
    intro l;induction l with
    |nil=>intro _;exact Int.le_refl _
    |cons x l ih=>
     intro h;have:=ih λy hy=>h y (by simp[hy])
     have:=h x (by simp);rw[List.filter_cons];split
     ·rw[cZ,cZ];omega
     ·rw[cZ];omega
   exact this _ hmp
  have ea:∀W',az Tryz.prog .add 3 false false (.af (cR (pre.filter (dG sec)))) (.af r.many) W'=some (.af (cR (pre.filter (dG sec))+r.many),W'):=λW'=>dg (by omega) (by omega)
  simp only[SX,f3,f8,zD LW,yz (o:=0) hb rfl,aU];by_cases t1:(r.sec:Int)=sec;case neg=>have iU:dG sec r=false:=bK t1;simp only[SX,t1,aq];exact⟨aS _,aF,.inl ⟨aF,h1,by rw[xC iU];exact h2,by rw[xC iU];exact h3⟩⟩
  have iU:dG sec r=true:=br t1;have Yq:cR (pre.filter (dG sec)++[r])=cR (pre.filter (dG sec))+r.many:=by rw[io,cZ,jf,js]
  simp only[SX,br t1,f5,zD h3];by_cases t2:cR (pre.filter (dG sec))=0
  ·have ad8:pre.filter (dG sec)=[]:=by rw[t2]at hms;exact jd.1 (by omega)
   have Vg:aA (W'.put W2.next (.cells [.af r.first])) b=some (Oj r):=by rw[aW _ (by omega)];exact hb
   simp only[SX,br t2,f4,yz (o:=2) hb rfl,yz (o:=3) Vg rfl,FC h2,zD ((e3 _ _).trans h3),ea,FC ((e3 _ _).trans h3),aq];exact⟨aS _,by rw[AW.aE _ _ (by omega),AW.aE _ _ (by omega)],.inl ⟨aF,(h1.put (by omega) _).put (by omega) _,by rw[e2,nN iU,ad8];rfl,by rw[bt,nN iU,Yq]⟩⟩
  ·have dQ:pre.filter (dG sec)≠[]:=λe=>t2 (by rw[e];rfl)
   simp only[SX,t2,yz (o:=3) hb rfl,ea,FC h3,aq];exact⟨aS _,by rw[AW.aE _ _ (by omega)],.inl ⟨aF,h1.put (by omega) _,by rw[aW _ (by omega),nN iU,JV dQ];exact h2,by rw[bt,nN iU,Yq]⟩⟩
 ·rintro x W6 (⟨rfl,h1,h2,h3⟩|⟨_,h⟩);case inr=>exact h.elim
  have k2:aA (W6.kill W5.next) W2.next=some [.af (KL ((cM v.aB).filter (dG sec)))]:=by rw[ju (by omega)];exact h2
  have k3:aA (W6.kill W5.next) W3.next=some [.af (cR ((cM v.aB).filter (dG sec)))]:=by rw[ju (by omega)];exact h3
  simp only[SX,zD k3];by_cases t2:cR ((cM v.aB).filter (dG sec))=0
  ·simp only[SX,br t2,ax t2,FC k2,FC ((e3 _ _).trans k3),xW,oL3,zD (e2 _ _ _),zD (bt _),bl,aq];exact⟨aF,(((oL.trans h1).kill (by omega)).put (by omega) _).put (by omega) _⟩
  ·have KU:Oy true (some (.af (cR ((cM v.aB).filter (dG sec))),(W6.kill W5.next).put W2.next (.cells [.af (KL ((cM v.aB).filter (dG sec)))]))) (.af (cR ((cM v.aB).filter (dG sec))))=true:=L7 rfl (Aq _ _);simp only[SX,t2,zD k2,zD k3,FC k2,zD ((e3 _ _).trans k3),KU,qA,FC ((e3 _ _).trans k3),xW,oL3,zD (e2 _ _ _),zD (bt _),bl,aq];exact⟨by simp only[cE],(((oL.trans h1).kill (by omega)).put (by omega) _).put (by omega) _⟩
def aeF(W:AW):bh Tryz.prog 167 W=some (.pointer (some ⟨W.next,0,none⟩),W.add (.cells [.af 0,.af 0,.af 0])):=aL (by kernel_rfl) rfl
def YT(x:ae)(W:AW):ic Tryz.prog 167 x W=b9 3 x W:=by kernel_rfl
def WZ(W:AW):cn Tryz.prog 167 [] W=some (.agg #[.af 0,.af 0,.af 0],W):=aL (by kernel_rfl) rfl
def Rw(W:AW):∃W1,bh Tryz.prog 167 W=some (.pointer (some ⟨W.next,0,none⟩),W1)/\W1.next=W.next+1/\Le W W1/\aA W1 W.next=some [.af 0,.af 0,.af 0]:=⟨_,aeF W,AW.aJ _ _,(Le.refl W).add _,bz⟩
def ld3{b:Nat}{x y z:ae}{W:AW}(h:aA W b=some [x,y,z]):b9 3 (.pointer (some ⟨b,0,none⟩)) W=some (.agg #[x,y,z],W):=lW (ez h) rfl
def MB{b:Nat}{a c d:Int}{x y z:ae}{W:AW}(h:aA W b=some [x,y,z]):cS 3 (.pointer (some ⟨b,0,none⟩)) (.agg #[.af a,.af c,.af d]) W=some (ai,W.put b (.cells [.af a,.af c,.af d])):=OO h rfl rfl rfl
def Po{α:Type}{l:List α}{r:α}(h:r∈l):∃pre,pre++[r]<+:l:=by obtain⟨a,b,rfl⟩:=List.append_of_mem h;exact⟨a,⟨b,by simp⟩⟩
def CA{l:List iT}(hg:Good l){r:gB}(h:r∈cM l):Dp l r/\0<=r.first/\r.first+r.many<=8192/\1<=r.many/\r.many<=64/\r.sec<8/\r.row<16:=by obtain⟨pre,hp⟩:=Po h;obtain⟨k1,k2,k3,k4,k5,k6,k7⟩:=xE hg hp;have:=k1.many hg;exact⟨k1,by omega,by omega,k5,k6,by omega,by omega⟩
def rR{v:ce}{cU:Int}(h:(dW v cU).2=0):(iM v).2=0/\(dW v cU).1∈cM v.aB/\(cM v.aB).find? (yF cU)=some (dW v cU).1/\(dW v cU).1.first<=cU/\cU<(dW v cU).1.first+(dW v cU).1.many:=by
 unfold dW at h|-;by_cases he:(iM v).2=0
 ·rw[ax he]at h|-;cases hf:(cM v.aB).find? (yF cU)with
  |none=>rw[hf]at h;exact absurd h (by decide)
  |some r=>have hi:=List.find?_some hf;unfold yF at hi;simp only[bm,oq]at hi;exact⟨he,Ca hf,rfl,hi.1,hi.2⟩
 ·rw[ay he]at h;exact absurd h he
def bE(v:ce)(cU:Int):Zq×Int:=if(dW v cU).2=0 then(((dW v cU).1.sec,(dW v cU).1.row,(cU-(dW v cU).1.first).toNat),0)else((0,0,0),(dW v cU).2)
abbrev Yl(p:Zq):ae:=.agg #[.af (p.1:Int),.af (p.2.1:Int),.af (p.2.2:Int)]
def LD{v:ce}{sv:ae}{W:AW}{cU:Int}(hs:eG W sv v.aB)(hv:v.aB.length<1000):bD (.func (.func 139) #[] #[]) [jA v sv,.af cU] W=some (.tuple #[Yl (bE v cU).1,.af (bE v cU).2],W):=by
 refine cG rfl ?_ xZ;unfold vW bE;obtain⟨W1,hB,bk,hn,c4,c0,c3⟩:=lc v sv W;obtain⟨W2,b2,n2,l2,r2⟩:=Rw W1;obtain⟨W3,b3,n3,l3,r3⟩:=NQ W2;have eP:∀x,aA (W3.put W2.next x) W1.next=some [.af 0,.af 0,.af 0]:=λx=>by rw[aW _ (by omega),l3.aA (by omega)];exact r2
 have QN:=bk.next;have l03:=(bk.trans l2).trans l3;simp only[SX,hB,b2,b3,c4 _ l2,Il (hs.mono (bk.trans l2)) hv,ym r3];by_cases he:(dW v cU).2=0;case neg=>simp only[SX,he,cE,WZ,MB (eP _),k8,YT,ld3 (bt _),bl,aq];exact⟨rfl,(l03.put (by omega) _).put (by omega) _⟩
 obtain⟨h1,h2,h3,h4,h5⟩:=rR he;obtain⟨k1,k2,k3,k4,k5,-,-⟩:=CA (hZ h1).1 h2;have hb:=bt (W:=W3) (b:=W2.next) (Oj (dW v cU).1);have ea:∀W',az Tryz.prog .sub 3 false false (.af cU) (.af (dW v cU).1.first) W'=some (.af (cU-(dW v cU).1.first),W'):=λW'=>pz (by omega) (by omega)
 have et:((cU-(dW v cU).1.first).toNat:Int)=cU-(dW v cU).1.first:=xl (by omega);simp only[SX,br he,ax he,aU,yz (o:=0) hb rfl,yz (o:=1) hb rfl,yz (o:=2) hb rfl,ea,ae0,MB (eP _),k8,YT,ld3 (bt _),bl,aq];exact⟨by simp only[Yl];rw[et],(l03.put (by omega) _).put (by omega) _⟩
def fT(v:ce)(cU:Int):Int×Int:=if(dW v cU).2=0 then(cU % v.sh,0)else(0,(dW v cU).2)
def Gy{v:ce}(h:tB v=false):1<=v.sh/\v.sh<=16:=by unfold tB kY at h;simp only[Bool.or_eq_false_iff,decide_eq_false_iff_not]at h;omega
def ka{v:ce}(h:(iM v).2=0):1<=v.sh/\v.sh<=16:=Gy (hZ h).2.1
def xL{v:ce}{sv:ae}{W:AW}{cU:Int}(hs:eG W sv v.aB)(hv:v.aB.length<1000):bD (.func (.func 141) #[] #[]) [jA v sv,.af cU] W=some (.tuple #[.af (fT v cU).1,.af (fT v cU).2],W):=by
 refine cG rfl ?_ yb;unfold vR fT;obtain⟨W1,hB,bk,hn,c4,c0,c3⟩:=lc v sv W;obtain⟨W3,b3,n3,l3,r3⟩:=NQ W1;have QN:=bk.next;simp only[SX,hB,b3,c4 _ (.refl _),Il (hs.mono bk) hv,ym r3];by_cases he:(dW v cU).2=0;case neg=>simp only[SX,he,cE,aq];exact⟨aF,(bk.trans l3).put (by omega) _⟩
 obtain⟨h1,h2,h3,h4,h5⟩:=rR he;obtain⟨k1,k2,k3,k4,k5,-,-⟩:=CA (hZ h1).1 h2;have OC:=ka h1;have ea:∀W',az Tryz.prog .rem 3 false false (.af cU) (.af v.sh) W'=some (.af (cU % v.sh),W'):=λW'=>by rw[xQ (by omega),CB (by omega)]
 simp only[SX,br he,ax he,aU,c0 _ (l3.put (aS _) _),ea,aq];exact⟨aF,(bk.trans l3).put (by omega) _⟩
def eO(v:ce)(sec:Int):Int×Int:=if(vr v sec).2.2=0 then(v.sh+sec,0)else(0,(vr v sec).2.2)
def tW{v:ce}{sec:Int}(h:(vr v sec).2.2=0):(iM v).2=0/\0<=sec/\sec<v.aB.length/\∃r l,(cM v.aB).filter (dG sec)=r::l/\(vr v sec)=(r.first,cR ((cM v.aB).filter (dG sec)),0):=by
 unfold vr at h|-;by_cases he:(iM v).2=0
 ·rw[ax he]at h|-;by_cases h2:cR ((cM v.aB).filter (dG sec))=0
  ·rw[ax h2]at h;exact absurd h (by decide)
  ·rw[ay h2];cases hf:(cM v.aB).filter (dG sec)with
   |nil=>rw[hf]at h2;exact absurd rfl h2
   |cons r l=>
    have hr:r∈(cM v.aB).filter (dG sec):=by rw[hf];simp
    obtain⟨m1,m2⟩:=oc.1 hr;obtain⟨hi,-,-⟩:=kU m1;have:(r.sec:Int)=sec:=jn m2;exact⟨he,by omega,by omega,r,l,rfl,rfl⟩
 ·rw[ay he]at h;exact absurd h he
def IA{v:ce}{sv:ae}{W:AW}{sec:Int}(hs:eG W sv v.aB)(hv:v.aB.length<1000):bD (.func (.func 140) #[] #[]) [jA v sv,.af sec] W=some (.tuple #[.af (eO v sec).1,.af (eO v sec).2],W):=by
 refine cG rfl ?_ zQ;unfold yw eO;obtain⟨W1,hB,bk,hn,c4,c0,c3⟩:=lc v sv W;simp only[SX,hB,c4 _ (.refl _),RK (hs.mono bk) hv];by_cases he:(vr v sec).2.2=0;case neg=>simp only[SX,he,cE,aq];exact⟨aF,bk⟩
 obtain⟨h1,h2,h3,-⟩:=tW he;have OC:=ka h1;have ea:∀W',az Tryz.prog .add 3 false false (.af v.sh) (.af sec) W'=some (.af (v.sh+sec),W'):=λW'=>dg (by omega) (by omega)
 simp only[SX,br he,ax he,aU,c0 _ (.refl _),ea,aq];exact⟨aF,bk⟩
def Ts(a b:Int)(W:AW):aD Tryz.prog .min #[3,3] 3 #[false,false] [.af a,.af b] W=some (.af (min a b),W):=by
 have e:aD Tryz.prog .min #[3,3] 3 #[false,false] [.af a,.af b] W=(iy Tryz.prog ([Value.int .i64 a,.af b].all a7) (builtin .min #[3,3] 3 #[false,false] #[.af a,.af b])).map λv=>(v,W):=by unfold aD;rfl
 rw[e];have e2:builtin .min #[3,3] 3 #[false,false] #[.af a,.af b]=(do pure (.value (<-Builtin.min_ #[3,3] 3 #[.af a,.af b]))):=rfl;rw[e2];refine xJ ?_ rfl _ rfl;unfold Builtin.min_;simp only[List.foldlM_cons,List.foldlM_nil,dM,Builtin.min2,eF,bl];congr 2;by_cases h:b<a
 ·rw[ax h];omega
 ·rw[ay h];omega
def KM(a:Int)(W:AW):aC Tryz.prog 64 1 [(0,.af a)] W=some (.slice (some ⟨W.next,0,none⟩) 1 1,W.add (.cells [.af a])):=aL (by kernel_rfl) rfl
def Jr:iY Tryz.prog #[64,64] 1 8=true:=by kernel_rfl
def tq(sh first:Int)(n:Nat):List Int:=(List.range n).map λ(i:Nat)=>(first+(i:Int)) % sh
def JH(sh first:Int)(n:Nat):tq sh first (n+1)=tq sh first n++[(first+(n:Int)) % sh]:=by simp[tq,nv]
def pp(sh first:Int)(n:Nat):(tq sh first n).length=n:=by simp[tq]
def jK(v:ce)(sec:Int):List Int×Int:=if(vr v sec).2.2=0 then(gX (tq v.sh (vr v sec).1 (min (vr v sec).2.1 v.sh).toNat),0)else([],(vr v sec).2.2)
def Ad{v:ce}{sec:Int}(h:(vr v sec).2.2=0):0<=(vr v sec).1/\(vr v sec).1<=8192/\1<=(vr v sec).2.1/\(vr v sec).2.1<=8192:=by
 obtain⟨h1,h2,h3,r,l,h4,h5⟩:=tW h;have hg:=(hZ h1).1;have hr:r∈(cM v.aB).filter (dG sec):=by rw[h4];simp
 obtain⟨k1,k2,k3,k4,k5,-,-⟩:=CA hg (oc.1 hr).1;have hm:∀x∈cM v.aB,1<=x.many:=λx hx=>((kU hx).many hg).1
 have aae:∀l:List gB,(∀x∈l,1<=x.many)->cR (l.filter (dG sec))<=cR l:=by
  intro l;induction l with
  |nil=>intro _;exact Int.le_refl _
  |cons x l ih=>
   intro h;have:=ih λy hy=>h y (by simp[hy])
   have:=h x (by simp);rw[List.filter_cons];split
   ·rw[cZ,cZ];omega
   ·rw[cZ];omega
 have bk:=aae _ hm;rw[Da]at bk;have:=Ak hg;have uR:=nc (l:=(cM v.aB).filter (dG sec)) (λx hx=>hm x (oc.1 hx).1);rw[h4,dB]at uR;rw[<-h4]at uR;rw[h5];exact⟨k2,by omega,by simp only;omega,by simp only;omega⟩
def N1{v:ce}{sv:ae}{W:AW}{sec:Int}(hs:eG W sv v.aB)(hv:v.aB.length<1000):∃u W2,bD (.func (.func 138) #[] #[]) [jA v sv,.af sec] W=some (.tuple #[u,.af (jK v sec).2],W2)/\Le W W2/\lR W2 u (jK v sec).1:=by
 refine HV ?_ yx;unfold vJ jK;obtain⟨W1,hB,bk,hn,c4,c0,c3⟩:=lc v sv W;have QN:=bk.next;simp only[SX,hB,c4 _ (.refl _),RK (hs.mono bk) hv];by_cases he:(vr v sec).2.2=0;case neg=>simp only[SX,he,cE,aq];exact⟨_,rfl,bk,Row.nil⟩
 obtain⟨h1,h2,h3,-⟩:=tW he;obtain⟨b1,b2,b3,b4⟩:=Ad he;have OC:=ka h1;generalize hfm:vr v sec=fm at *;obtain⟨fi,ma,er⟩:=fm;simp only at he b1 b2 b3 b4|-;subst he;simp only[SX,bc,aU,c0 _ (.refl _),Ts];obtain⟨n,hn2⟩:∃n:Nat,(n:Int)=min ma v.sh:=⟨(min ma v.sh).toNat,by omega⟩;have hn3:(min ma v.sh).toNat=n:=by omega
 rw[<-hn2];refine df n (by omega) (λi R W'=>Le W1 W'/\R 2=.pointer (some ⟨W.next,0,none⟩)/\R 6=.af fi/\R 24=.af (n:Int)/\R 25=.af (i:Int)/\∃u,R 9=u/\wS W1.next W' 1 pi u (tq v.sh fi i))
  (λr=>Le W1 r.2.2/\r.1=.exit 0/\∃u,r.2.1 9=u/\wS W1.next r.2.2 1 pi u (tq v.sh fi n)) ⟨.refl _,rfl,rfl,rfl,rfl,_,rfl,.nil _ _ _ _⟩ ?_ ?_ ?_
 ·rintro i R W' hi ⟨hl,f2,f6,f24,f25,u,f9,hL⟩;unfold lh;have e1:((i:Int)<(n:Int)):=by omega
  have e2:(i:Int)+1=((i+1:Nat):Int):=by omega
  have ea:∀W',az Tryz.prog .add 3 false false (.af fi) (.af (i:Int)) W'=some (.af (fi+(i:Int)),W'):=λW'=>dg (by omega) (by omega)
  have er:∀W',az Tryz.prog .rem 3 false false (.af (fi+(i:Int))) (.af v.sh) W'=some (.af ((fi+(i:Int)) % v.sh),W'):=λW'=>by rw[xQ (by omega),CB (by omega)]
  have eb:∀W',az Tryz.prog .add 3 false true (.af (i:Int)) (.af 1) W'=some (.af ((i+1:Nat):Int),W'):=λW'=>by rw[<-e2];exact dg (by omega) (by omega)
  have hLm:=hL.mono ((Le.refl W').add (.cells [.af ((fi+(i:Int)) % v.sh)]));obtain⟨v',W2,q1,q2,q3,q4⟩:=wS.push (P:=Tryz.prog) (a:=(fi+(i:Int)) % v.sh) (b:=W'.next) (c:=1) Jr yg C0 hLm bO (by rw[pp];omega) (by rw[pp];omega) (by rw[AW.aJ];have:=hl.next;omega);simp only[SX,f2,f6,f9,f24,f25,e1,ea,aU,c0 _ hl,er,KM,q1,eb,aq];refine .inl ⟨aF,q4 _ (hl.add _) (aS _),f2,f6,f24,rfl,_,rfl,?_⟩;rw[JH];exact q2
 ·rintro R W' ⟨hl,f2,f6,f24,f25,u,f9,hL⟩;unfold lh;have e1:¬((n:Int)<(n:Int)):=by omega
  simp only[SX,f24,f25,e1,aq];exact⟨by simp,hl,aF,u,f9,hL⟩
 ·rintro⟨x,R,W'⟩ ⟨hl,hx,u,f9,hL⟩;simp only at hl hx f9 hL;subst hx;have dQ:tq v.sh fi n≠[]:=λe=>by have:=pp v.sh fi n;rw[e]at this;simp at this;omega
  obtain⟨W2,s1,s2,s3,s4⟩:=hL.sort dQ (by rw[pp];omega);simp only[SX,f9,OH s1,aq];exact⟨_,rfl,bk.trans (s4 _ hl (aS _)),by rw[nG];exact s2.ints⟩
def ZM(sh fi:Int)(m:Nat)(s:Nat):Bool:=(List.range m).any λ(i:Nat)=>decide ((fi+(i:Int)) % sh=(s:Int))
def pc(sh fi:Int)(m:Nat)(k:Nat):List Int:=((List.range k).filter (ZM sh fi m)).map λ(s:Nat)=>(s:Int)
def Pa{sh fi:Int}{m:Nat}(OC:1<=sh)(hfi:0<=fi):pc sh fi m sh.toNat=gX (tq sh fi (min (m:Int) sh).toNat):=by
 have hp:(pc sh fi m sh.toNat).Pairwise λa b=>a<b:=by unfold pc;rw[w8];exact(w9.filter _).imp λh=>by omega
 have XE:(pc sh fi m sh.toNat).Nodup:=hp.imp λh=>by omega
 have hn2:(tq sh fi (min (m:Int) sh).toNat).Nodup:=by unfold tq List.Nodup;rw[w8];refine List.Pairwise.imp_of_mem ?_ (w9 (n:=(min (m:Int) sh).toNat));intro i j hi hj hij he;rw[qh]at hi hj;have h1:=Int.emod_emod_of_dvd (fi+(j:Int)) (Int.dvd_refl sh);have h2:=(Int.emod_eq_emod_iff_emod_sub_eq_zero).1 he.symm;rw[show fi+(j:Int)-(fi+(i:Int))=(j:Int)-i by omega,Int.emod_eq_of_lt (by omega) (by omega)]at h2;omega
 have Z1:(tq sh fi (min (m:Int) sh).toNat).Perm (pc sh fi m sh.toNat):=by
  rw[List.perm_ext_iff_of_nodup hn2 XE];intro a;unfold tq pc ZM;simp only[qg,qh,oc,nZ,oq];constructor
  ·rintro⟨i,hi,rfl⟩;have h1:=Int.emod_nonneg (fi+(i:Int)) (by omega:sh≠0);have h2:=Int.emod_lt_of_pos (fi+(i:Int)) (by omega:0<sh);exact⟨((fi+(i:Int)) % sh).toNat,⟨by omega,i,by omega,by omega⟩,by omega⟩
  ·rintro⟨s,⟨hs,i,hi,he⟩,rfl⟩;by_cases hc:(m:Int)<=sh
   ·exact⟨i,by omega,he⟩
   ·have h1:=Int.emod_nonneg (i:Int) (by omega:sh≠0);have h2:=Int.emod_lt_of_pos (i:Int) (by omega:0<sh);refine⟨((i:Int) % sh).toNat,by omega,?_⟩;rw[xl h1,Int.add_emod_emod];exact he
 refine List.Perm.eq_of_pairwise (le:=λa b=>a<=b) (λa b _ _ h1 h2=>by omega) (hp.imp λh=>by omega) ?_ (Z1.symm.trans (List.mergeSort_perm _ _).symm);refine(List.pairwise_mergeSort (le:=λx y:Int=>decide (x<=y)) ?_ ?_ _).imp λh=>jn h
 ·intro a b c h1 h2;have:=jn h1;have:=jn h2;exact lV
 ·intro a b;by_cases h:a<=b
  ·rw[br h];rfl
  ·rw[br (show b<=a by omega),Bool.or_true]
def vu(r:Option Bool):List (Int×Int)->Option Bool
 |[]=>r
 |p::l=>match some (p.1==p.2)with
  |some true=>vu r l
  |some false=>some false
  |none=>none
def qm(b:Bool):∀l:List (Int×Int),vu (some b) l=some ((l.all λp=>p.1==p.2)&&b)
 |[]=>rfl
 |p::l=>by
  unfold vu;cases h:p.1==p.2 with
  |true=>simp only[fa,h,nW];exact qm b l
  |false=>simp only[fa,h,pH]
def PS(k se sc t1 e:Int):Int×Int×Int:=
 if e≠0 then(0,0,e)else if k=2\/k=4\/k=5\/k=8 then(se,-1,0)else if k=6\/k=7\/k=9 then(IntKind.i64.wrap t1,-1,0)else if k=3\/k=10\/k=11 then(-1,sc,0)else(-1,-1,0)
def Xy(x:Int×Int×Int):ae:=.tuple #[.af x.1,.af x.2.1,.af x.2.2]
def QP(n:Int)(W:AW):wg Tryz.prog 36 3 (.int .u32 n) W=some (.af (IntKind.i64.wrap n),W):=aL (by kernel_rfl) rfl
def jX(a b:Int):Int:=IntKind.i64.wrap ↑(BitVec.ofInt IntKind.i64.bits a&&&BitVec.ofInt IntKind.i64.bits b).toNat
def KE{t:ah}{c d:Bool}{a b:Int}{W:AW}:az Tryz.prog .and t c d (.af a) (.af b) W=some (.af (jX a b),W):=Oe
def Xu:jX 1 4=0/\jX 1 64=0/\jX 1 8=0/\jX 7 4=4/\jX 7 64=0/\jX 7 8=0/\jX 11 4=0/\jX 11 64=0/\jX 11 8=8/\jX 27 4=0/\jX 27 64=0/\jX 27 8=8/\jX 64 4=0/\jX 64 64=64/\jX 64 8=0/\jX 67 4=0/\jX 67 64=64/\jX 67 8=0/\jX 99 4=0/\jX 99 64=64/\jX 99 8=0/\jX 128 4=0/\jX 128 64=0/\jX 128 8=0:=by decide+kernel
def GN(k:Int):k=1\/k=2\/k=3\/k=4\/k=5\/k=6\/k=7\/k=8\/k=9\/k=10\/k=11\/k=12\/k<1\/12<k:=by omega
def PY{k ow un se sc n to t1 t2 t3 t4 nw:Int}(hk:k<1\/12<k):wK k ow un se sc n to t1 t2 t3 t4 nw=2:=ax hk
def zO(k ow un se sc n to t1 t2 t3 t4 nw:Int){W:AW}(hG:GW W):bD (.func (.func 66) #[] #[]) [.agg (gG k ow un se sc n to t1 t2 t3 t4 nw)] W=some (Xy (PS k se sc t1 (wK k ow un se sc n to t1 t2 t3 t4 nw)),W):=by
 refine cG rfl ?_ wj;have hP:∀o,bD (.func (.func 75) #[] #[]) [.agg (gG k ow un se sc n to t1 t2 t3 t4 nw)] (W.add o)=some (.af (wK k ow un se sc n to t1 t2 t3 t4 nw),W.add o):=λo=>tO k ow un se sc n to t1 t2 t3 t4 nw (hG.mono ((Le.refl W).add o))
 have hU:∀o,aH (W.add o) 0=some mZ:=λo=>GW.cells (hG.mono ((Le.refl W).add o))
 have hp:=hG.pos;have ix:∀(i:Int) (U:AW),0<=i/\i<13->Ik 13 1 (.pointer (some ⟨0,0,none⟩)) (.af i) U=some (.pointer (some ⟨0,i.toNat,none⟩),U):=λi U hi=>by have:=HC (len:=13) (z:=1) (b:=0) (o:=0) (n:=i) (k:=.i64) (W:=U) hi.1 (by omega);simpa using this
 have h0:¬(0=W.next):=by omega
 have hUW:=hG.cells;unfold gG at hP;unfold sH gG PS;by_cases he:wK k ow un se sc n to t1 t2 t3 t4 nw=0;case neg=>have d:=bK he;simp(maxDischargeDepth:=9) only[SX,MX,HX,Nat.reduceAdd,hP,d,ax he];rfl
 obtain rfl|rfl|rfl|rfl|rfl|rfl|rfl|rfl|rfl|rfl|rfl|rfl|h:=GN k;rotate_right
 ·rw[PY h]at he;cases he
 all_goals
  simp(maxDischargeDepth:=9) only[SX,MX,HX,Nat.reduceAdd,hP,he,ix,hU,mZ,Kv,iN,lA,KE,Int.reduceToNat,Int.reduceLT,Int.reduceLE,Int.reduceEq,Xu,QP]
  simp[Xy]
structure t8 where
 k:Int
 ow:Int
 un:Int
 se:Int
 sc:Int
 n:Int
 to:Int
 t1:Int
 t2:Int
 t3:Int
 t4:Int
 nw:Int
abbrev KH(o:t8):ae:=.agg (gG o.k o.ow o.un o.se o.sc o.n o.to o.t1 o.t2 o.t3 o.t4 o.nw)
def wv(o:t8):Int×Int×Int:=PS o.k o.se o.sc o.t1 (wK o.k o.ow o.un o.se o.sc o.n o.to o.t1 o.t2 o.t3 o.t4 o.nw)
def GO{k ow un se sc n to t1 t2 t3 t4 nw:Int}(h:wK k ow un se sc n to t1 t2 t3 t4 nw=0):1<=k/\k<=12:=by
 unfold wK at h;split at h
 ·exact absurd h (by decide)
 ·omega
def Ga{o:t8}(h:(wv o).2.2=0):1<=o.k/\o.k<=12:=by
 have he:wK o.k o.ow o.un o.se o.sc o.n o.to o.t1 o.t2 o.t3 o.t4 o.nw=0:=by
  unfold wv PS at h;split at h
  ·exact h
  ·rename_i h2;exact rE.1 h2
 exact GO he
def FT(o:t8){W:AW}(h:GW W):bD (.func (.func 66) #[] #[]) [KH o] W=some (.tuple #[.af (wv o).1,.af (wv o).2.1,.af (wv o).2.2],W):=zO _ _ _ _ _ _ _ _ _ _ _ _ h
def d8(v:ce)(k s c:Int):List Int:=
 if k=12 then(List.range (v.sh.toNat+v.aB.length)).map λ(i:Nat)=>(i:Int)
 else if k=3 then(jK v c).1
 else if k=4\/k=7\/k=8 then(if(bE v s).2=0 then [(fT v s).1,(eO v ((bE v s).1.1:Int)).1]else [])
 else if k=2\/k=5\/k=6\/k=9 then(if(bE v s).2=0 then [(fT v s).1]else [])
 else if k=10\/k=11 then(if(eO v c).2=0 then [(eO v c).1]else [])
 else []
def bW(v:ce)(o:t8):List Int×Int:=if(iM v).2=0 then(if(wv o).2.2=0 then(d8 v o.k (wv o).1 (wv o).2.1,0)else([],(wv o).2.2))else([],(iM v).2)
def NZ(o:t8)(W:AW):∃W1,cN (KH o) W=some (.pointer (some ⟨W.next,0,none⟩),W1)/\W1.next=W.next+1/\Le W W1/\(∀W',Le W1 W'->b9 12 (.pointer (some ⟨W.next,0,none⟩)) W'=some (KH o,W'))/\(∀W',Le W1 W'->aY (.pointer (some ⟨W.next,0,none⟩)) W'=some (.af o.k,W')):=by
 have hc:aH (W.add (.cells (gG o.k o.ow o.un o.se o.sc o.n o.to o.t1 o.t2 o.t3 o.t4 o.nw).toList)) W.next=some (gG o.k o.ow o.un o.se o.sc o.n o.to o.t1 o.t2 o.t3 o.t4 o.nw).toList:=bO;have hn:W.next<(W.add (.cells (gG o.k o.ow o.un o.se o.sc o.n o.to o.t1 o.t2 o.t3 o.t4 o.nw).toList)).next:=by rw[AW.aJ];omega
 exact⟨_,gH _,AW.aJ _ _,(Le.refl W).add _,λW' k=>lW (by rw[k.aH hn];exact hc) rfl,λW' k=>dN (by rw[k.aH hn];exact hc) rfl⟩
def mr(v:ce)(s:Int):(fT v s).2=(bE v s).2:=by
 unfold fT bE;by_cases he:(dW v s).2=0
 ·rw[ax he,ax he]
 ·rw[ay he,ay he]
def F6{v:ce}{c:Int}(h:¬(jK v c).2=0):(jK v c).1=[]:=by
 unfold jK at h|-;by_cases he:(vr v c).2.2=0
 ·rw[ax he]at h;exact absurd rfl h
 ·rw[ay he]
def Mu:((#[22]:Array ah)[0]?).bind Tryz.prog.underlying=some (.slice 66):=by kernel_rfl
def abe(x:Int)(W:AW):lR (W.add (.cells [.af x])) (.slice (some ⟨W.next,0,none⟩) 1 (eS+1)) [x]:=xI [x] _ W
def WY(x y:Int)(W:AW):lR (W.add (.cells [.af x,.af y])) (.slice (some ⟨W.next,0,none⟩) 2 (eS+1)) [x,y]:=xI [x,y] _ W
def aan(x:Int)(W:AW):lR (W.add (.cells [.af x])) (.slice (some ⟨W.next,0,none⟩) 1 1) [x]:=xI [x] _ W
def NE(x:Int)(W:AW):aN Tryz.prog (W.add (.cells [.af x])) #[64,64] (.slice none 0 0) (.slice (some ⟨W.next,0,none⟩) 1 1)=some (.slice (some ⟨(W.add (.cells [.af x])).next,0,none⟩) 1 (eS+1),(W.add (.cells [.af x])).add (.cells [.af x])):=
 wN Jr bO rfl rfl (by omega) rfl (by omega) (by omega)
def OK(a:Option Addr)(W:AW):aN Tryz.prog W #[64,64] (.slice a 1 1) (.slice none 0 0)=some (.slice a 1 1,W):=Ou Jr (by omega) (by omega) (by omega)
def UC(x y:Int){W:AW}{b c:Nat}(h:aH W b=some [.af y])(hb:b<W.next):aN Tryz.prog (W.add (.cells [.af x])) #[64,64] (.slice (some ⟨W.next,0,none⟩) 1 1) (.slice (some ⟨b,0,none⟩) 1 c)=some (.slice (some ⟨(W.add (.cells [.af x])).next,0,none⟩) 2 (eS+1),(W.add (.cells [.af x])).add (.cells [.af x,.af y])):=
 HE (n:=1) (m:=1) (o:=0) Jr (by rw[vI _ hb];exact h) rfl rfl (by omega) rfl bO rfl (by omega) (by omega) (by omega)
def Qr(v:ce)(s c:Int):d8 v 1 s c=[]:=by simp[d8]
def PT(v:ce)(s c:Int):d8 v 3 s c=(jK v c).1:=by simp[d8]
def P6(v:ce)(s c:Int):d8 v 4 s c=(if(bE v s).2=0 then [(fT v s).1,(eO v ((bE v s).1.1:Int)).1]else []):=by simp[d8]
def QM(v:ce)(s c:Int):d8 v 7 s c=(if(bE v s).2=0 then [(fT v s).1,(eO v ((bE v s).1.1:Int)).1]else []):=by simp[d8]
def OX(v:ce)(s c:Int):d8 v 8 s c=(if(bE v s).2=0 then [(fT v s).1,(eO v ((bE v s).1.1:Int)).1]else []):=by simp[d8]
def O2(v:ce)(s c:Int):d8 v 2 s c=(if(bE v s).2=0 then [(fT v s).1]else []):=by simp[d8]
def Qz(v:ce)(s c:Int):d8 v 5 s c=(if(bE v s).2=0 then [(fT v s).1]else []):=by simp[d8]
def QI(v:ce)(s c:Int):d8 v 6 s c=(if(bE v s).2=0 then [(fT v s).1]else []):=by simp[d8]
def OV(v:ce)(s c:Int):d8 v 9 s c=(if(bE v s).2=0 then [(fT v s).1]else []):=by simp[d8]
def LG(v:ce)(s c:Int):d8 v 10 s c=(if(eO v c).2=0 then [(eO v c).1]else []):=by simp[d8]
def Nl(v:ce)(s c:Int):d8 v 11 s c=(if(eO v c).2=0 then [(eO v c).1]else []):=by simp[d8]
def B1(n:Nat):List Int:=(List.range n).map λ(i:Nat)=>(i:Int)
def JF(n:Nat):B1 (n+1)=B1 n++[(n:Int)]:=by simp[B1,nv]
def Ed(n:Nat):(B1 n).length=n:=by simp[B1]
def Ms(v:ce)(s c:Int):d8 v 12 s c=B1 (v.sh.toNat+v.aB.length):=by simp[d8,B1]
def tX{v:ce}{o:t8}{sv:ae}{W:AW}(hs:eG W sv v.aB)(hv:v.aB.length<1000)(hG:GW W):
 ∃u W2,bD (.func (.func 101) #[] #[]) [jA v sv,KH o] W=some (.tuple #[u,.af (bW v o).2],W2)/\Le W W2/\lR W2 u (bW v o).1:=by
 refine HV ?_ xV;unfold vO bW;obtain⟨W1,hB,bk,hn,c4,c0,c3⟩:=lc v sv W;obtain⟨W2,b2,n2,l2,Wc,k0⟩:=NZ o W1;have oL:=bk.trans l2;have QN:=bk.next;have oS:=hs.mono oL;simp only[SX,hB,b2,c4 _ l2,mc oS hv];by_cases he:(iM v).2=0;case neg=>simp only[SX,he,cE,aq];exact⟨_,rfl,oL,Row.nil⟩
 simp only[SX,br he,ax he,Wc _ (.refl _),FT o (hG.mono oL)];by_cases ht:(wv o).2.2=0;case neg=>simp only[SX,ht,cE,aq];exact⟨_,rfl,oL,Row.nil⟩
 have hk:=Ga ht;simp only[SX,br ht,ax ht,aU,k0 _ (.refl _)];clear ht Wc k0 b2;generalize(wv o).1=s,(wv o).2.1=c,o.k=kk at *;have KZ:kk=1\/kk=3\/kk=12\/(kk=2\/kk=5\/kk=6\/kk=9)\/(kk=4\/kk=7\/kk=8)\/(kk=10\/kk=11):=by omega
 rcases KZ with rfl|rfl|rfl|KZ|KZ|KZ
 ·rw[Qr];simp only[SX,Int.reduceEq,aq];exact⟨_,rfl,oL,Row.nil⟩
 ·rw[PT];obtain⟨u,W4,q1,q2,q3⟩:=N1 (sec:=c) oS hv;simp only[SX,Int.reduceEq,c4 _ l2,q1];by_cases hc:(jK v c).2=0
  ·simp only[SX,br hc,aq];exact⟨_,rfl,oL.trans q2,q3⟩
  ·rw[F6 hc];simp only[SX,hc,aq];exact⟨_,rfl,oL.trans q2,Row.nil⟩
 ·rw[Ms];have OC:=ka he;have ea:∀W',az Tryz.prog .add 3 false false (.af v.sh) (.af (v.aB.length:Int)) W'=some (.af ((v.sh.toNat+v.aB.length:Nat):Int),W'):=λW'=>by rw[dg (by omega) (by omega)];congr 3;omega
  simp only[SX,c0 _ l2,c3 _ l2,oS.1.len Mu,ea];generalize hm:v.sh.toNat+v.aB.length=m at *;refine df m (by omega) (λi R W'=>Le W2 W'/\R 63=.af (m:Int)/\R 64=.af (i:Int)/\∃u,R 11=u/\wS W2.next W' 1 pi u (B1 i))
   (λr=>Le W2 r.2.2/\r.1=.exit 6/\∃u,r.2.1 11=u/\wS W2.next r.2.2 1 pi u (B1 m)) ⟨.refl _,rfl,rfl,_,rfl,.nil _ _ _ _⟩ ?_ ?_ ?_
  ·rintro i R W' hi ⟨hl,f63,f64,u,Q7,hL⟩;unfold lj;have e1:((i:Int)<(m:Int)):=by omega
   have eb:∀W',az Tryz.prog .add 3 false true (.af (i:Int)) (.af 1) W'=some (.af ((i+1:Nat):Int),W'):=λW'=>dg (by omega) (by omega)
   have hLm:=hL.mono ((Le.refl W').add (.cells [.af (i:Int)]));obtain⟨v',W3,q1,q2,q3,q4⟩:=wS.push (P:=Tryz.prog) (a:=(i:Int)) (b:=W'.next) (c:=1) Jr yg C0 hLm bO (by rw[Ed];omega) (by rw[Ed];omega) (by rw[AW.aJ];have:=hl.next;omega);simp only[SX,f63,f64,Q7,e1,KM,q1,eb,aq];exact .inl ⟨aF,q4 _ (hl.add _) (aS _),f63,rfl,_,rfl,by rw[JF];exact q2⟩
  ·rintro R W' ⟨hl,f63,f64,u,Q7,hL⟩;unfold lj;have e1:¬((m:Int)<(m:Int)):=by omega
   simp only[SX,f63,f64,e1,aq];exact⟨by simp,hl,aF,u,Q7,hL⟩
  ·rintro⟨x,R,W'⟩ ⟨hl,hx,u,Q7,hL⟩;simp only at hl hx Q7 hL;subst hx;simp only[SX,Q7,aq];exact⟨_,rfl,oL.trans hl,hL.ints⟩
 ·rcases KZ with rfl|rfl|rfl|rfl<;>(
   first|rw[O2]|rw[Qz]|rw[QI]|rw[OV]
   simp only[SX,Int.reduceEq,c4 _ l2,xL oS hv,mr]
   by_cases hp:(bE v s).2=0
   ·simp only[SX,br hp,ax hp,KM,OK,aq];exact⟨_,rfl,oL.add _,aan _ _⟩
   ·simp only[SX,hp,cE,aq];exact⟨_,rfl,oL,Row.nil⟩)
 ·obtain⟨W3,b3,n3,l3,r3⟩:=Rw W2;have VT:=l3.put (aS _) (.cells [.af ((bE v s).1.1:Int),.af ((bE v s).1.2.1:Int),.af ((bE v s).1.2.2:Int)]);have rX:=bt (W:=W3) (b:=W2.next) [.af ((bE v s).1.1:Int),.af ((bE v s).1.2.1:Int),.af ((bE v s).1.2.2:Int)];have hk4:d8 v kk s c=(if(bE v s).2=0 then [(fT v s).1,(eO v ((bE v s).1.1:Int)).1]else []):=by
   rcases KZ with rfl|rfl|rfl
   ·exact P6 _ _ _
   ·exact QM _ _ _
   ·exact OX _ _ _
  rw[hk4];rcases KZ with rfl|rfl|rfl<;>(
   simp only[SX,Int.reduceEq,c4 _ l2,LD oS hv,b3,MB r3]
   generalize W3.put W2.next (.cells [.af ((bE v s).1.1:Int),.af ((bE v s).1.2.1:Int),.af ((bE v s).1.2.2:Int)])=X at *
   by_cases hp:(bE v s).2=0
   ·simp only[SX,br hp,ax hp,c4 _ (l2.trans VT),aU,yz (o:=0) rX rfl,IA (oS.mono VT) hv,KM,NE];have lY:=(VT.add (.cells [.af (eO v ((bE v s).1.1:Int)).1])).add (.cells [.af (eO v ((bE v s).1.1:Int)).1]);have hY:aH ((X.add (.cells [.af (eO v ((bE v s).1.1:Int)).1])).add (.cells [.af (eO v ((bE v s).1.1:Int)).1])) (X.add (.cells [.af (eO v ((bE v s).1.1:Int)).1])).next=some [.af (eO v ((bE v s).1.1:Int)).1]:=bO;have hY2:(X.add (.cells [.af (eO v ((bE v s).1.1:Int)).1])).next<((X.add (.cells [.af (eO v ((bE v s).1.1:Int)).1])).add (.cells [.af (eO v ((bE v s).1.1:Int)).1])).next:=Nat.lt_of_lt_of_eq (Nat.lt_succ_self _) (AW.aJ _ _).symm;generalize(X.add (.cells [.af (eO v ((bE v s).1.1:Int)).1])).add (.cells [.af (eO v ((bE v s).1.1:Int)).1])=Y at *;simp only[SX,c4 _ (l2.trans lY),xL (oS.mono lY) hv,mr,br hp,KM,UC _ _ hY hY2,aq];exact⟨_,rfl,((oL.trans lY).add _).add _,WY _ _ _⟩
   ·simp only[SX,hp,cE,c4 _ (l2.trans VT),xL (oS.mono VT) hv,mr,aq];exact⟨_,rfl,oL.trans VT,Row.nil⟩)
 ·rcases KZ with rfl|rfl<;>(
   first|rw[LG]|rw[Nl]
   simp only[SX,Int.reduceEq,c4 _ l2,IA oS hv]
   by_cases hp:(eO v c).2=0
   ·simp only[SX,br hp,ax hp,KM,NE,aq];exact⟨_,rfl,(oL.add _).add _,abe _ _⟩
   ·simp only[SX,hp,cE,aq];exact⟨_,rfl,oL,Row.nil⟩)
def RX:((#[64]:Array ah)[0]?).bind Tryz.prog.underlying=some (.slice 3):=by kernel_rfl
def IV(v:ce)(he:(iM v).2=0)(k s c:Int):(d8 v k s c).length<=24:=by
 have OC:=ka he;have hg:=(hZ he).1.len;unfold d8;split
 ·rw[fW,List.length_range];omega
 split
 ·unfold jK;split
  ·rw[qI,pp];omega
  ·simp
 split
 ·split<;>simp
 split
 ·split<;>simp
 split
 ·split<;>simp
 ·simp
def rU(v:ce)(o:t8):(bW v o).1.length<=24:=by
 unfold bW;split
 ·rename_i he;split
  ·exact IV v he _ _ _
  ·simp
 ·simp
def g46:Tryz.prog.eqGuardType Tryz.prog.depth 135=false:=by kernel_rfl
def q46(a b a' b':Int):Gk Tryz.prog 8 135 (.agg #[.af a,.af b]) (.agg #[.af a',.af b'])=qZ [(a,a'),(b,b')]:=by kernel_rfl
def aa5(a b a' b':Int)(c d:Bool)(W:AW):az Tryz.prog .neq 135 c d (.agg #[.af a,.af b]) (.agg #[.af a',.af b']) W=some (.bool (!(a==a'&&b==b')),W):=by refine tz g46 ((q46 ..).trans ?_);rw[mQ];simp
abbrev Stp:=Int×Int
abbrev Cm(p:Stp):ae:=.agg #[.af p.1,.af p.2]
def Pq(a b:Int)(W:AW):cn Tryz.prog 135 [(0,.af a),(1,.af b)] W=some (Cm (a,b),W):=aL (by kernel_rfl) rfl
def Nw(a:Int)(W:AW):cn Tryz.prog 135 [(0,.af a)] W=some (Cm (a,0),W):=aL (by kernel_rfl) rfl
def Rg(W:AW):cn Tryz.prog 135 [] W=some (Cm (0,0),W):=aL (by kernel_rfl) rfl
def MP(W:AW):bh Tryz.prog 135 W=some (.pointer (some ⟨W.next,0,none⟩),W.add (.cells [.af 0,.af 0])):=aL (by kernel_rfl) rfl
def SN(x:ae)(W:AW):ic Tryz.prog 135 x W=b9 2 x W:=by kernel_rfl
def Yc(W:AW):∃W1,bh Tryz.prog 135 W=some (.pointer (some ⟨W.next,0,none⟩),W1)/\W1.next=W.next+1/\Le W W1/\aA W1 W.next=some [.af 0,.af 0]:=⟨_,MP W,AW.aJ _ _,(Le.refl W).add _,bz⟩
def X4{b:Nat}{x y:ae}{W:AW}(h:aA W b=some [x,y]):b9 2 (.pointer (some ⟨b,0,none⟩)) W=some (.agg #[x,y],W):=lW (ez h) rfl
def yE{b:Nat}{a c:Int}{x y:ae}{W:AW}(h:aA W b=some [x,y]):cS 2 (.pointer (some ⟨b,0,none⟩)) (.agg #[.af a,.af c]) W=some (ai,W.put b (.cells [.af a,.af c])):=by rw[qq,h,bl,ax ⟨rfl,by simp,by simp[oa]⟩];rfl
def cX(l:List Int)(i:Nat):Stp:=if i<l.length then(1,l.getD i 0)else if i=l.length then(2,0)else(3,l.getD (2*l.length-i) 0)
def nP(v:ce)(o:t8):Int×Int:=if(bW v o).2=0 then(2*((bW v o).1.length:Int)+1,0)else(0,(bW v o).2)
def i6(v:ce)(o:t8)(i:Int):Stp×Int:=if(bW v o).2=0 then(if 0<=i/\i<2*((bW v o).1.length:Int)+1 then(cX (bW v o).1 i.toNat,0)else((0,0),7))else((0,0),(bW v o).2)
def Cy{v:ce}{o:t8}{sv:ae}{W:AW}(hs:eG W sv v.aB)(hv:v.aB.length<1000)(hG:GW W):bD (.func (.func 77) #[] #[]) [jA v sv,KH o] W=some (.tuple #[.af (nP v o).1,.af (nP v o).2],W):=by
 refine cG rfl ?_ yD;unfold vw nP;obtain⟨W1,hB,bk,hn,c4,c0,c3⟩:=lc v sv W;obtain⟨W2,b2,n2,l2,Wc,k0⟩:=NZ o W1;have oL:=bk.trans l2;obtain⟨u,W3,q1,q2,q3⟩:=tX (o:=o) (hs.mono oL) hv (hG.mono oL);have dy:=rU v o;simp only[SX,hB,b2,c4 _ l2,Wc _ (.refl _),q1];by_cases he:(bW v o).2=0;case neg=>simp only[SX,he,cE,aq];exact⟨aF,oL.trans q2⟩
 have ea:∀W',az Tryz.prog .mul 3 true false (.af 2) (.af ((bW v o).1.length:Int)) W'=some (.af (2*((bW v o).1.length:Int)),W'):=λW'=>Dd (by omega) (by omega)
 have eb:∀W',az Tryz.prog .add 3 false true (.af (2*((bW v o).1.length:Int))) (.af 1) W'=some (.af (2*((bW v o).1.length:Int)+1),W'):=λW'=>dg (by omega) (by omega)
 simp only[SX,br he,ax he,q3.len RX,ea,eb,aq];exact⟨aF,oL.trans q2⟩
def Lq{l:List Int}{u f:ae}{bx:Nat}{W0 W:AW}(hu:lR W0 u l)(dy:l.length<=24)(hb:∀W',Le W0 W'->aY (.pointer (some ⟨bx,0,none⟩)) W'=some (u,W'))(I:Nat->AW->Prop)(Q:AW->Prop)
 (hI:I 0 W)(hS:∀i W',I i W'->Le W0 W')(hA:∀i W' cs,I i W'->I i (W'.add (.cells cs)))
 (step:∀i W',i<2*l.length+1->I i W'->∃b W2,bD f [.af (i:Int),Cm (cX l i)] W'=some (.bool b,W2)/\(b=true->I (i+1) W2)/\(b=false->Q W2)):
 ∃W2,bD (.func (.func 163) #[] #[.pointer (some ⟨bx,0,none⟩)]) [f] W=some (.tuple #[],W2)/\(I (2*l.length+1) W2\/Q W2):=by
 have nK:Ok (mF bD f (.pointer (some ⟨bx,0,none⟩)) W) λr=>r.1=.tuple #[]/\(I (2*l.length+1) r.2\/Q r.2):=by
  unfold mF;have ea:∀W',az Tryz.prog .mul 3 true false (.af 2) (.af (l.length:Int)) W'=some (.af (2*(l.length:Int)),W'):=λW'=>Dd (by omega) (by omega)
  have eb:∀W',az Tryz.prog .add 3 false true (.af (2*(l.length:Int))) (.af 1) W'=some (.af (2*(l.length:Int)+1),W'):=λW'=>dg (by omega) (by omega)
  have yA:∀(k:Nat) (W':AW),k<1000000->az Tryz.prog .add 3 false true (.af (k:Int)) (.af 1) W'=some (.af ((k+1:Nat):Int),W'):=λk W' hk=>dg (by omega) (by omega)
  simp only[SX,hb _ (hS _ _ hI),hu.len RX,ea,eb];refine df (2*l.length+1) (by omega) (λi R W'=>R 0=f/\R 1=.pointer (some ⟨bx,0,none⟩)/\R 3=.af (l.length:Int)/\R 10=.af (2*(l.length:Int)+1)/\R 11=.af (i:Int)/\I i W')
   (λr=>(r.1=.exit 0/\I (2*l.length+1) r.2.2)\/(r.1=.ret/\Q r.2.2)) ⟨rfl,rfl,rfl,rfl,rfl,hI⟩ ?_ ?_ ?_
  ·rintro i R W' hi ⟨h0,h1,h3,zy,Do,mJ⟩;unfold jc;have e1:((i:Int)<2*(l.length:Int)+1):=by omega
   have SG:=hA _ _ [.af (cX l i).1,.af (cX l i).2] mJ;have qN:=hS _ _ SG;obtain⟨c,W3,s1,s2,s3⟩:=step i _ hi SG;have GJ:∀a b:Int,b9 2 (.pointer (some ⟨W'.next,0,none⟩)) (W'.add (.cells [.af a,.af b]))=some (.agg #[.af a,.af b],W'.add (.cells [.af a,.af b])):=λa b=>X4 bz
   by_cases t1:i<l.length
   ·have t1':(i:Int)<(l.length:Int):=by omega
    have my:cX l i=(1,l[i]):=by unfold cX;rw[ax t1,jj,cx t1];rfl
    obtain⟨p,p1,p2⟩:=hu.get t1;rw[my]at s1 qN SG;have WT:Le W0 (W'.add (.cells [.af 2,.af 0])):=(hS _ _ mJ).add _;simp only[SX,h0,h1,h3,zy,Do,e1,Nw,MP,yE bz,du,br t1',hb _ WT,p1,p2 _ WT,Pq,GJ,s1];cases c
    ·simp only[SX,aq];exact .inr ⟨by simp,.inr ⟨aF,s3 rfl⟩⟩
    ·simp only[SX,yA i _ (by omega),aq];exact .inl ⟨aF,h0,h1,h3,zy,rfl,s2 rfl⟩
   have t1':¬((i:Int)<(l.length:Int)):=by omega
   by_cases t2:i=l.length
   ·have t2':¬((l.length:Int)<(i:Int)):=by omega
    have my:cX l i=(2,0):=by unfold cX;rw[ay t1,ax t2]
    rw[my]at s1 qN SG;simp only[SX,h0,h1,h3,zy,Do,e1,Nw,MP,yE bz,du,bK t1',bK t2',GJ,s1];cases c
    ·simp only[SX,aq];exact .inr ⟨by simp,.inr ⟨aF,s3 rfl⟩⟩
    ·simp only[SX,yA i _ (by omega),aq];exact .inl ⟨aF,h0,h1,h3,zy,rfl,s2 rfl⟩
   ·have t2':((l.length:Int)<(i:Int)):=by omega
    have hi2:2*l.length-i<l.length:=by omega
    have my:cX l i=(3,l[2*l.length-i]):=by unfold cX;rw[ay t1,ay t2,jj,cx hi2];rfl
    obtain⟨p,p1,p2⟩:=hu.get hi2;have p1':=λW'=>p1 W' .i64
    rw[show((2*l.length-i:Nat):Int)=2*(l.length:Int)-i by omega]at p1';rw[my]at s1 qN SG;have WT:Le W0 (W'.add (.cells [.af 2,.af 0])):=(hS _ _ mJ).add _;have es:∀W',az Tryz.prog .sub 3 false false (.af (2*(l.length:Int))) (.af (i:Int)) W'=some (.af (2*(l.length:Int)-i),W'):=λW'=>pz (by omega) (by omega)
    simp only[SX,h0,h1,h3,zy,Do,e1,Nw,MP,yE bz,du,bK t1',br t2',hb _ WT,ea,es,p1',p2 _ WT,Pq,GJ,s1];cases c
    ·simp only[SX,aq];exact .inr ⟨by simp,.inr ⟨aF,s3 rfl⟩⟩
    ·simp only[SX,yA i _ (by omega),aq];exact .inl ⟨aF,h0,h1,h3,zy,rfl,s2 rfl⟩
  ·rintro R W' ⟨h0,h1,h3,zy,Do,mJ⟩;unfold jc;have e1:¬(((2*l.length+1:Nat):Int)<2*(l.length:Int)+1):=by omega
   simp only[SX,zy,Do,e1,aq];exact⟨by simp,.inl ⟨aF,mJ⟩⟩
  ·rintro⟨x,R,W'⟩ hq;rcases hq with⟨rfl,mJ⟩|⟨rfl,hq⟩
   ·simp only[SX,aq];exact⟨aF,.inl mJ⟩
   ·simp only[SX,aq];exact⟨aF,.inr hq⟩
 obtain⟨⟨r,W'⟩,h1,h2,h3⟩:=nK;simp only at h2 h3;subst h2;exact⟨W',by rw[uo h1,uD rfl],h3⟩
def M3{l:List Int}{u:ae}{W:AW}(hu:lR W u l):∃W1,bD (.func (.func 137) #[] #[]) [u] W=some (.func (.func 163) #[] #[.pointer (some ⟨W.next,0,none⟩)],W1)/\Le W W1/\W1.next=W.next+1/\(∀W',Le W1 W'->aY (.pointer (some ⟨W.next,0,none⟩)) W'=some (u,W')):=by
 obtain⟨a,c,hc,h⟩:=hu;have hB:cN u W=some (.pointer (some ⟨W.next,0,none⟩),W.add (.cells [u])):=by rw[hc];exact yf _ _ _
 have kT:aH (W.add (.cells [u])) W.next=some [u]:=bO;have hn:W.next<(W.add (.cells [u])).next:=by rw[AW.aJ];omega
 refine⟨_,?_,(Le.refl W).add _,AW.aJ _ _,λW' k=>dN (by rw[k.aH hn];exact kT) rfl⟩;have:pv bD u W=some (.func (.func 163) #[] #[.pointer (some ⟨W.next,0,none⟩)],W.add (.cells [u])):=by unfold pv;simp only[SX,hB]
 rw[yW this,uD rfl]
def LA{l:List Int}{u:ae}{W0 W:AW}{bx nt:Nat}{R:Nat->ae}{ps:Array Tmp}{ac bd:Code}{ρ:Type}{K:X×AW->Option ρ}{G:ρ->Prop}(hu:lR W0 u l)(dy:l.length<=24)(hb:∀W',Le W0 W'->aY (.pointer (some ⟨bx,0,none⟩)) W'=some (u,W'))(hp:ps.size=2)
 (J:Nat->AW->Prop)(Q:X->AW->Prop)(h0:J 0 (W.add (.loop .ready none R nt ps ac bd)))
 (hS:∀i W',J i W'->Le W0 W')(hA:∀i W' cs,J i W'->W.next<W'.next->J i (W'.add (.cells cs)))(hP:∀i W' o,J i W'->J i (W'.put W.next o))(hQ:∀x W' o,Q x W'->Q x (W'.put W.next o))
 (d0 d:Nat)(has:∀(i:Nat) (p:Stp) W' R',R'=jZ ps.toList [.af (i:Int),Cm p] R->eZ Tryz.prog bD false nt ac LT R' W' j7=some (.normal,dw (dw R' (some d0) (.af (i:Int))) (some d) (.pointer (some ⟨W'.next,0,none⟩)),W'.add (.cells [.af p.1,.af p.2])))
 (step:∀(i:Nat) W' b R',R'=dw (dw (jZ ps.toList [.af (i:Int),Cm (cX l i)] R) (some d0) (.af (i:Int))) (some d) (.pointer (some ⟨b,0,none⟩))->i<2*l.length+1->J i W'->W.next<W'.next->aA W' b=some [.af (cX l i).1,.af (cX l i).2]->W.next<b->b<W'.next->
   Ok (eZ Tryz.prog bD false nt bd LT R' W' j7) λq=>W'.next<=q.2.2.next/\q.2.2.get W.next=W'.get W.next/\((q.1=.normal/\J (i+1) q.2.2)\/(q.1≠ .normal/\Q q.1 q.2.2)))
 (after:∀x W2,(x=.normal/\J (2*l.length+1) W2)\/(x≠ .normal/\Q x W2)->Ok (K (x,W2.kill W.next)) G):
 Ok (ak (gQ bD (.func (.func 163) #[] #[.pointer (some ⟨bx,0,none⟩)]) (.loop .ready none R nt ps ac bd) W) K) G:=by
 have nK:∃x W2,gQ bD (.func (.func 163) #[] #[.pointer (some ⟨bx,0,none⟩)]) (.loop .ready none R nt ps ac bd) W=some (x,W2.kill W.next)/\((x=.normal/\J (2*l.length+1) W2)\/(x≠ .normal/\Q x W2)):=by
  obtain⟨W2,h1,h2⟩:=Lq (f:=.func (.yield W.next) #[] #[]) (W:=W.add (.loop .ready none R nt ps ac bd)) hu dy hb
   (λi W'=>J i W'/\W.next<W'.next/\W'.get W.next=some (.loop .ready none R nt ps ac bd))
   (λW'=>∃x,x≠ .normal/\Q x W'/\W'.get W.next=some (.loop .done x.jump R nt ps ac bd))
   ⟨h0,by rw[AW.aJ];omega,AW.bf _ _⟩ (λi W' h=>hS _ _ h.1)
   (λi W' cs h=>⟨hA _ _ _ h.1 h.2.1,by rw[AW.aJ];omega,by rw[AW.aZ _ _ (by omega)];exact h.2.2⟩)
   (λi W' hi ⟨hJ,fy,dL⟩=>by
     have hJ2:=hP _ _ (.loop .busy none R nt ps ac bd) (hA _ _ [.af (cX l i).1,.af (cX l i).2] hJ fy);obtain⟨⟨x,R2,W3⟩,k1,k2,k3,k4⟩:=step i _ W'.next _ rfl hi hJ2 (by rw[AW.cu,AW.aJ];omega) (by rw[aW _ (by omega)];exact bz) fy (by rw[AW.cu,AW.aJ];omega);simp only at k1 k2 k3 k4;rw[AW.bH]at k3;have hy:=AS (P:=Tryz.prog) (args:=[.af (i:Int),Cm (cX l i)]) dL (by rw[hp];rfl) (has i (cX l i) W' _ rfl) (by rw[AW.aZ _ _ (by omega)];exact dL) k1 k3;have hn3:W.next<W3.next:=by rw[AW.cu,AW.aJ]at k2;omega
     rcases k4 with⟨rfl,k4⟩|⟨kx,k4⟩
     ·exact⟨true,_,hy,λ_=>⟨hP _ _ _ k4,by rw[AW.cu];exact hn3,AW.bH _ _ _⟩,λh=>by cases h⟩
     ·refine⟨false,W3.put W.next (.loop .done x.jump R nt ps ac bd),?_,λh=>by(cases h),λ_=>⟨x,kx,hQ _ _ _ k4,AW.bH _ _ _⟩⟩;refine hy.trans ?_;cases x with
      |normal=>exact absurd rfl kx
      |exit i=>rfl
      |ret=>rfl)
  rcases h2 with⟨h2,h3,h4⟩|⟨x,h2,h3,h4⟩
  ·exact⟨.normal,W2,t6 h1 h4 (by simp),.inl ⟨rfl,h2⟩⟩
  ·exact⟨x,W2,yu h1 h4,.inr ⟨h2,h3⟩⟩
 obtain⟨x,W2,h1,h2⟩:=nK;rw[h1,sL];exact after x W2 h2
def Df{v:ce}{o:t8}{sv:ae}{W:AW}{i0:Int}(hs:eG W sv v.aB)(hv:v.aB.length<1000)(hG:GW W):bD (.func (.func 100) #[] #[]) [jA v sv,KH o,.af i0] W=some (.tuple #[Cm (i6 v o i0).1,.af (i6 v o i0).2],W):=by
 refine cG rfl ?_ z8;unfold xw i6;obtain⟨W1,hB,bk,hn,c4,c0,c3⟩:=lc v sv W;obtain⟨W2,b2,n2,l2,Wc,k0⟩:=NZ o W1;obtain⟨K9,b2',n2',l2',r2'⟩:=UY i0 W2;obtain⟨W3,b3,n3,l3,r3⟩:=Yc K9;obtain⟨W4,b4,n4,l4,r4⟩:=Rp W3;have QN:=bk.next;have Ip:=(l2'.trans l3).trans l4;have Zl:=(bk.trans l2).trans l2';have l04:=(bk.trans l2).trans Ip;have aen:=l3.trans l4;obtain⟨u,W5,q1,q2,q3⟩:=tX (o:=o) (hs.mono l04) hv (hG.mono l04);have Yz:=aen.trans q2;have fk:aA W5 K9.next=some [.af 0,.af 0]:=by rw[q2.aA (by omega),l4.aA (by omega)];exact r3
 have iS:aA W5 W3.next=some [.af 0]:=by rw[q2.aA (by omega)];exact r4
 have ri5:aA W5 W2.next=some [.af i0]:=by rw[Yz.aA (by omega)];exact r2'
 have n5:=q2.next;have e3:∀(W':AW) a,aA (W'.put K9.next a) W3.next=aA W' W3.next:=λW' a=>aW _ (by omega)
 have e2:∀(W':AW) a b,aA ((W'.put K9.next (.cells a)).put W3.next b) K9.next=some a:=λW' a b=>by rw[aW _ (by omega)];exact bt _
 simp only[SX,hB,b2,b2',b3,b4,c4 _ (l2.trans Ip),Wc _ Ip,q1];have dy:=rU v o;by_cases he:(bW v o).2=0;case neg=>simp only[SX,he,cE,Rg,yE fk,FC ((e3 _ _).trans iS),qn,SN,Jp,X4 (e2 _ _ _),zD (bt _),bl,aq];exact⟨aF,((l04.trans q2).put (by omega) _).put (by omega) _⟩
 generalize(bW v o).1=l at *;obtain⟨W6,s1,s2,s3,s4⟩:=M3 q3;simp only[SX,br he,ax he,s1];have gh:aA W6 K9.next=some [.af 0,.af 0]:=by rw[s2.aA (by omega)];exact fk
 have ns:aA W6 W3.next=some [.af 0]:=by rw[s2.aA (by omega)];exact iS
 have ri6:aA W6 W2.next=some [.af i0]:=by rw[s2.aA (by omega)];exact ri5
 have ZV:=Yz.trans s2;refine LA (q3.mono s2) dy s4 rfl (λk W'=>Le W6 W'/\∀j:Nat,j<k->(j:Int)≠i0)
  (λx W'=>x=.ret/\Le K9 W'/\∃k:Nat,k<2*l.length+1/\(k:Int)=i0/\aA W' K9.next=some [.af (cX l k).1,.af (cX l k).2]/\aA W' W3.next=some [.af 0])
  ⟨(Le.refl W6).add _,λj hj=>by omega⟩ (λ_ _ h=>h.1) (λi W' cs h hl=>⟨h.1.add _,h.2⟩) (λi W' o h=>⟨h.1.put (aS _) _,h.2⟩)
  (λx W' o ⟨h1,h2,k,h3,h4,h5,h6⟩=>⟨h1,h2.put (by omega) _,k,h3,h4,by rw[aW _ (by omega)];exact h5,by rw[aW _ (by omega)];exact h6⟩) 10 11 ?_ ?_ ?_
 ·intro i p W' R' hR;have ej:R' 24=.af (i:Int):=by rw[hR];rfl
  have dZ:R' 25=Cm p:=by rw[hR];rfl
  rw[tV];unfold pK;simp only[SX,MP,ej,dZ,yE bz,du];try rfl
 ·intro i W' b R' hR hi ⟨h1,h2⟩ hl hb KP gW;have f5:R' 5=.pointer (some ⟨W2.next,0,none⟩):=by rw[hR];rfl
  have f6:R' 6=.pointer (some ⟨K9.next,0,none⟩):=by rw[hR];rfl
  have f7:R' 7=.pointer (some ⟨W3.next,0,none⟩):=by rw[hR];rfl
  have f10:R' 10=.af (i:Int):=by rw[hR];rfl
  have Q7:R' 11=.pointer (some ⟨b,0,none⟩):=by rw[hR];rfl
  clear hR;rw[sY];unfold oY;have ri:aA W' W2.next=some [.af i0]:=by rw[h1.aA (by omega)];exact ri6
  have rr:aA W' K9.next=some [.af 0,.af 0]:=by rw[h1.aA (by omega)];exact gh
  have re:aA W' W3.next=some [.af 0]:=by rw[h1.aA (by omega)];exact ns
  simp only[SX,f5,f10,zD ri];by_cases t:(i:Int)=i0
  ·simp only[SX,br t,f6,f7,Q7,X4 hb,yE rr,FC ((e3 _ _).trans re),aq];refine⟨aS _,by rw[AW.aE _ _ (by omega),AW.aE _ _ (by omega)],.inr ⟨by simp,aF,((ZV.trans h1).put (by omega) _).put (by omega) _,i,hi,t,e2 _ _ _,bt _⟩⟩
  ·simp only[SX,bK t,aq];refine⟨aS _,aF,.inl ⟨aF,h1,λj hj=>?_⟩⟩;by_cases hji:j<i
   ·exact h2 j hji
   ·obtain rfl:j=i:=by omega
    exact t
 ·rintro x W7 (⟨rfl,h1,h2⟩|⟨_,rfl,h1,k,h2,h3,h4,h5⟩)
  ·have XE:¬(0<=i0/\i0<2*(l.length:Int)+1):=λh=>h2 i0.toNat (by omega) (by omega)
   have n7:=h1.next;have k2:aA (W7.kill W6.next) K9.next=some [.af 0,.af 0]:=by rw[ju (by omega),h1.aA (by omega)];exact gh
   have k3:aA (W7.kill W6.next) W3.next=some [.af 0]:=by rw[ju (by omega),h1.aA (by omega)];exact ns
   simp only[SX,ay XE,Rg,yE k2,FC ((e3 _ _).trans k3),qn,SN,Jp,X4 (e2 _ _ _),zD (bt _),bl,aq];exact⟨aF,((((Zl.trans ZV).trans h1).kill (by omega)).put (by omega) _).put (by omega) _⟩
  ·have hp1:0<=i0/\i0<2*(l.length:Int)+1:=by omega
   have hk:i0.toNat=k:=by omega
   have k2:aA (W7.kill W6.next) K9.next=some [.af (cX l k).1,.af (cX l k).2]:=by rw[ju (by omega)];exact h4
   have k3:aA (W7.kill W6.next) W3.next=some [.af 0]:=by rw[ju (by omega)];exact h5
   simp only[SX,ax hp1,hk,qn,SN,Jp,X4 k2,zD k3,bl,aq];exact⟨aF,(Zl.trans h1).kill (by omega)⟩
structure FV where
 er:Int
 se:Int
 n:Int
 dl:Int
 t1:Int
 t2:Int
 t3:Int
 t4:Int
 pl:Int
structure Jn where
 se:Int
 sr:Int
 ep:Int
 ga:Int
 ti:Int
structure cC where
 k:Int
 tn:Int
 wk:Int
 id:Int
 lk:Int
 op:t8
 rp:FV
 en:Jn
structure lJ where
 id:Int
 wk:Int
 op:t8
 rp:FV
 ar:Int
 co:Int
 an:Int
def Fu:t8:=⟨0,0,0,0,0,0,0,0,0,0,0,0⟩
def Aa:FV:=⟨0,0,0,0,0,0,0,0,0⟩
def Bg:Jn:=⟨0,0,0,0,0⟩
def Zi:cC:=⟨0,0,0,0,0,Fu,Aa,Bg⟩
def Om:lJ:=⟨0,0,Fu,Aa,0,0,0⟩
abbrev rpC(r:FV):List ae:=[.af r.er,.af r.se,.af r.n,.af r.dl,.int .u32 r.t1,.int .u32 r.t2,.int .u64 r.t3,.int .u64 r.t4,.af r.pl]
abbrev PO(g:Jn):List ae:=[.int .u32 g.se,.int .u64 g.sr,.int .u64 g.ep,.af g.ga,.af g.ti]
abbrev eA(e:cC):List ae:=[.af e.k,.af e.tn,.af e.wk,.af e.id,.af e.lk,.af e.op.k,.int .u32 e.op.ow,.af e.op.un,.af e.op.se,.af e.op.sc,.af e.op.n,.int .u32 e.op.to,.int .u32 e.op.t1,.int .u32 e.op.t2,.int .u64 e.op.t3,.int .u64 e.op.t4,.af e.op.nw,
 .af e.rp.er,.af e.rp.se,.af e.rp.n,.af e.rp.dl,.int .u32 e.rp.t1,.int .u32 e.rp.t2,.int .u64 e.rp.t3,.int .u64 e.rp.t4,.af e.rp.pl,.int .u32 e.en.se,.int .u64 e.en.sr,.int .u64 e.en.ep,.af e.en.ga,.af e.en.ti]
abbrev gT(e:lJ):List ae:=[.af e.id,.af e.wk,.af e.op.k,.int .u32 e.op.ow,.af e.op.un,.af e.op.se,.af e.op.sc,.af e.op.n,.int .u32 e.op.to,.int .u32 e.op.t1,.int .u32 e.op.t2,.int .u64 e.op.t3,.int .u64 e.op.t4,.af e.op.nw,
 .af e.rp.er,.af e.rp.se,.af e.rp.n,.af e.rp.dl,.int .u32 e.rp.t1,.int .u32 e.rp.t2,.int .u64 e.rp.t3,.int .u64 e.rp.t4,.af e.rp.pl,.af e.ar,.af e.co,.af e.an]
abbrev OF(r:FV):ae:=.agg (rpC r).toArray
abbrev VL(g:Jn):ae:=.agg (PO g).toArray
abbrev zI(e:cC):ae:=.agg (eA e).toArray
abbrev clV(e:lJ):ae:=.agg (gT e).toArray
abbrev dd(b:Nat):ae:=.pointer (some ⟨b,0,none⟩)
def jE{b o:Nat}{cs:List ae}{x:ae}{W:AW}(h:W.get b=some (.cells cs))(hv:cs[o]? =some x):aY (.pointer (some ⟨b,o,none⟩)) W=some (x,W):=dN (bw h) hv
def KG{W:AW}{b:Nat}{cs:List ae}(h:W.get b=some (.cells cs)):aA W b=some cs:=by unfold aA;rw[h]
def Ma{cs vs:List ae}(h:cs.length=vs.length):fh cs 0 vs=vs:=by unfold fh;rw[oZ,mB,aU,<-h,List.drop_length,jY]
def vH{n b:Nat}{cs:List ae}{vs:Array ae}{W:AW}(h:W.get b=some (.cells cs))(h1:cs.length=n)(h2:vs.size=n)(h3:vs.toList.all Eng.one=true):cS n (.pointer (some ⟨b,0,none⟩)) (.agg vs) W=some (ai,W.put b (.cells vs.toList)):=by have hl:=Array.length_toList (xs:=vs);rw[qq,KG h,bl,ax ⟨h2,by omega,h3⟩,Ma (by omega)]
def TZ(W:AW):bh Tryz.prog 98 W=some (dd W.next,W.add (.cells (eA Zi))):=aL (by kernel_rfl) rfl
def aeD(W:AW):bh Tryz.prog 45 W=some (dd W.next,W.add (.cells (gT Om))):=aL (by kernel_rfl) rfl
def adn(W:AW):bh Tryz.prog 39 W=some (dd W.next,W.add (.cells [.int .u32 0,.int .u32 0,.int .u64 0,.int .u64 0])):=aL (by kernel_rfl) rfl
def aeG(W:AW):bh Tryz.prog 60 W=some (dd W.next,W.add (.cells (PO Bg))):=aL (by kernel_rfl) rfl
def vC(e:cC)(W:AW):cN (zI e) W=some (dd W.next,W.add (.cells (eA e))):=gH _
def L4(e:cC)(W:AW):cS 31 (dd W.next) (zI e) (W.add (.cells (eA Zi)))=some (ai,W.add (.cells (eA e))):=by have:=vH (n:=31) (vs:=(eA e).toArray) (AW.bf W (.cells (eA Zi))) rfl rfl rfl;rwa [sN]at this
def abt(e:lJ)(W:AW):cS 26 (dd W.next) (clV e) (W.add (.cells (gT Om)))=some (ai,W.add (.cells (gT e))):=by have:=vH (n:=26) (vs:=(gT e).toArray) (AW.bf W (.cells (gT Om))) rfl rfl rfl;rwa [sN]at this
def Vh(k tn wk id:Int)(W:AW):cn Tryz.prog 98 [(0,.af k),(1,.af tn),(2,.af wk),(3,.af id)] W=some (zI ⟨k,tn,wk,id,0,Fu,Aa,Bg⟩,W):=aL (by kernel_rfl) rfl
section
variable {W:AW} {b:Nat} {e:cC} {c:lJ}
def nH(x:W.get b=some (.cells (eA e))):b9 31 (dd b) W=some (zI e,W):=fJ (bw x) rfl
def Di(x:W.get b=some (.cells (eA e))):aY (dd b) W=some (.af e.k,W):=jE x rfl
def CF(x:W.get b=some (.cells (eA e))):aY (.pointer (some ⟨b,1,none⟩)) W=some (.af e.tn,W):=jE x rfl
def iq(x:W.get b=some (.cells (eA e))):aY (.pointer (some ⟨b,2,none⟩)) W=some (.af e.wk,W):=jE x rfl
def pd(x:W.get b=some (.cells (eA e))):aY (.pointer (some ⟨b,3,none⟩)) W=some (.af e.id,W):=jE x rfl
def vl(x:W.get b=some (.cells (eA e))):aY (.pointer (some ⟨b,4,none⟩)) W=some (.af e.lk,W):=jE x rfl
def Bc(x:W.get b=some (.cells (eA e))):b9 12 (.pointer (some ⟨b,5,none⟩)) W=some (KH e.op,W):=fJ (bw x) rfl
def F4(x:W.get b=some (.cells (eA e))):b9 9 (.pointer (some ⟨b,17,none⟩)) W=some (OF e.rp,W):=fJ (bw x) rfl
def Gi(x:W.get b=some (.cells (eA e))):b9 5 (.pointer (some ⟨b,26,none⟩)) W=some (VL e.en,W):=fJ (bw x) rfl
end
def iD{α:Type}(z:Nat)(f:α->List ae)(cs:List ae)(p:Nat)(e:α):Prop:=(cs.drop p).take z=f e
def nI{α:Type}{z:Nat}{f:α->List ae}{cs:List ae}{p:Nat}{e:α}(h:iD z f cs p e){j:Nat}(hj:j<z):cs[p+j]? =(f e)[j]? :=by unfold iD at h;rw[<-h,jg,ax hj,pk]
def mY{α:Type}{z:Nat}{f:α->List ae}(hf:∀a,(f a).length=z)(a:α)(pre post:List ae):iD z f (pre++(f a++post)) pre.length a:=by unfold iD;rw[List.drop_left,<-hf a,tj]
abbrev Rx(W:AW)(v:ae)(l:List cC):Prop:=Row W 31 (iD 31 eA) v l
abbrev We(W:AW)(v:ae)(l:List lJ):Prop:=Row W 26 (iD 26 gT) v l
def tx(e:cC):(eA e).length=31:=rfl
def eX(e:lJ):(gT e).length=26:=rfl
def PH(e:cC):(eA e).all Eng.one=true:=rfl
def Px(e:lJ):(gT e).all Eng.one=true:=rfl
def DJ:((#[25]:Array ah)[0]?).bind Tryz.prog.underlying=some (.slice 98):=by kernel_rfl
def Ly:((#[33]:Array ah)[0]?).bind Tryz.prog.underlying=some (.slice 45):=by kernel_rfl
def Rx.get{W:AW}{v:ae}{l:List cC}(h:Rx W v l){i:Nat}(hi:i<l.length):
 ∃p,(∀W' k,j0 31 v (.int k (i:Int)) W'=some (p,W'))/\∀W',Le W W'->b9 31 p W'=some (zI l[i],W'):=by
 obtain⟨b,o,cs,h1,h2,h3,h4⟩:=h.elem hi;refine⟨_,h1,λW' bk=>?_⟩;have e0:(cs.drop o).take 31=eA l[i]:=h4;have:=fJ (n:=31) (o:=o) (W:=W') (by rw[bk.aH h2];exact h3) (by rw[e0];rfl);rw[e0]at this;exact this
def g98:Tryz.prog.eqGuardType Tryz.prog.depth 98=false:=by kernel_rfl
def opQ(x y:t8):Option Bool:=vu (match qZ [(x.t1,y.t1),(x.t2,y.t2),(x.t3,y.t3),(x.t4,y.t4)]with|some true=>qZ [(x.nw,y.nw)]|some false=>some false|none=>none) [(x.k,y.k),(x.ow,y.ow),(x.un,y.un),(x.se,y.se),(x.sc,y.sc),(x.n,y.n),(x.to,y.to)]
def rpQ(x y:FV):Option Bool:=vu (match qZ [(x.t1,y.t1),(x.t2,y.t2),(x.t3,y.t3),(x.t4,y.t4)]with|some true=>qZ [(x.pl,y.pl)]|some false=>some false|none=>none) [(x.er,y.er),(x.se,y.se),(x.n,y.n),(x.dl,y.dl)]
def gtQ(x y:Jn):Option Bool:=qZ [(x.se,y.se),(x.sr,y.sr),(x.ep,y.ep),(x.ga,y.ga),(x.ti,y.ti)]
def Pw(o r:Option Bool):Option Bool:=match o with|some true=>r|some false=>some false|none=>none
def q98(x y:cC):Gk Tryz.prog 8 98 (zI x) (zI y)=vu (Pw (opQ x.op y.op) (Pw (rpQ x.rp y.rp) (Pw (gtQ x.en y.en) (some true)))) [(x.k,y.k),(x.tn,y.tn),(x.wk,y.wk),(x.id,y.id),(x.lk,y.lk)]:=by kernel_rfl
def RD{r:Option Bool}{rb:Bool}(hr:r=some rb)(l:List (Int×Int)):(match qZ l with|some true=>r|some false=>some false|none=>none)=some ((l.all λp=>p.1==p.2)&&rb):=by
 rw[mQ];cases l.all λp=>p.1==p.2 with
 |true=>rw[nW];exact hr
 |false=>rfl
def Ct(a b:Bool):Pw (some a) (some b)=some (a&&b):=by cases a<;>rfl
def t8.lB{x y:t8}:x=y<->x.k=y.k/\x.ow=y.ow/\x.un=y.un/\x.se=y.se/\x.sc=y.sc/\x.n=y.n/\x.to=y.to/\x.t1=y.t1/\x.t2=y.t2/\x.t3=y.t3/\x.t4=y.t4/\x.nw=y.nw:=by cases x;cases y;simp
def FV.lB{x y:FV}:x=y<->x.er=y.er/\x.se=y.se/\x.n=y.n/\x.dl=y.dl/\x.t1=y.t1/\x.t2=y.t2/\x.t3=y.t3/\x.t4=y.t4/\x.pl=y.pl:=by cases x;cases y;simp
def Jn.lB{x y:Jn}:x=y<->x.se=y.se/\x.sr=y.sr/\x.ep=y.ep/\x.ga=y.ga/\x.ti=y.ti:=by cases x;cases y;simp
def cC.lB{x y:cC}:x=y<->x.k=y.k/\x.tn=y.tn/\x.wk=y.wk/\x.id=y.id/\x.lk=y.lk/\x.op=y.op/\x.rp=y.rp/\x.en=y.en:=by cases x;cases y;simp
open Classical in
def Sy(x y:t8):opQ x y=some (decide (x=y)):=by unfold opQ;rw[RD (mQ _),qm];congr 1;rw[o7];simp only[fa,qf,ov,bm,lZ,oq,t8.lB,and_assoc]
open Classical in
def Vq(x y:FV):rpQ x y=some (decide (x=y)):=by unfold rpQ;rw[RD (mQ _),qm];congr 1;rw[o7];simp only[fa,qf,ov,bm,lZ,oq,FV.lB,and_assoc]
open Classical in
def VE(x y:Jn):gtQ x y=some (decide (x=y)):=by unfold gtQ;rw[mQ];congr 1;rw[o7];simp only[fa,qf,ov,bm,lZ,oq,Jn.lB]
open Classical in
open Classical in
open Classical in
open Classical in
def Xk(x y:cC)(c d:Bool)(W:AW):az Tryz.prog .neq 98 c d (zI x) (zI y) W=some (.bool (!decide (x=y)),W):=by refine tz g98 ((q98 x y).trans ?_);rw[Sy,Vq,VE,Ct,Ct,Ct,qm];congr 1;rw[o7];simp only[fa,qf,ov,bm,lZ,oq,cC.lB,and_assoc]
def XW(o:t8):Int:=wK o.k o.ow o.un o.se o.sc o.n o.to o.t1 o.t2 o.t3 o.t4 o.nw
def Kz(o:t8){W:AW}(h:GW W):bD (.func (.func 75) #[] #[]) [KH o] W=some (.af (XW o),W):=tO _ _ _ _ _ _ _ _ _ _ _ _ h
structure fY where
 c:Nat
 s:Nat
 e:Bool
structure RS where
 cl:List lJ
 of:Int->Option fY
 lk:Int->Option Int
 tn:Int
 st:Int
def RS.init:RS:=⟨[],λ_=>none,λ_=>none,0,-1⟩
def oW(x:cC):Bool:=decide (2<=x.k)&&decide (x.k<=4)
def iW(x:cC):cC:=⟨x.k,x.tn,x.wk,x.id,if x.k=2\/x.k=4 then x.lk else 0,if x.k=1 then x.op else Fu,if x.k=3 then x.rp else Aa,if x.k=6 then x.en else Bg⟩
open Classical in
def dO(s:RS)(x:cC):Int:=
 if x.k<1\/6<x.k then 2 else
 if x≠iW x then 2 else
 if x.tn<0\/1000000000<x.tn\/x.wk<1\/64<x.wk then 7 else
 if x.tn<s.tn\/(oW x=true/\x.tn<=s.st)then 18 else 0
def a6(s:RS)(c:Nat):lJ:=s.cl.getD c Om
def iw(k:Int):Int:=if k=2 then 1 else if k=3 then 2 else 3
def ES(c:lJ)(o:fY)(y:Jn):Prop:=
 c.op.k=9/\0<=c.co/\c.rp.er=0/\o.e=false/\y.se=c.op.t1/\y.sr=c.op.t3/\y.ep=c.op.t4/\0<=y.ga/\y.ga<8/\0<=y.ti
open Classical in
def zw(v:ce)(s:RS)(x:cC):Int:=
 if dO s x≠0 then dO s x else
 if x.k=1 then
  (if(s.of x.wk).isSome=true then 8 else if s.cl.length=200 then 3 else if x.id≠(s.cl.length:Int)+1 then 6 else XW x.op)
 else match s.of x.wk with
  |none=>4
  |some o=>
   if(a6 s o.c).id≠x.id then 4 else
   if x.k=5 then(if(o.s:Int)<(nP v (a6 s o.c).op).1 then 6 else 0)else
   if x.k=6 then(if ES (a6 s o.c) o x.en then 0 else 6)else
   if i6 v (a6 s o.c).op o.s≠((iw x.k,x.lk),0)then 6 else
   if x.k=2/\(s.lk x.lk).isSome=true then 20 else 0
def nj(l:List lJ)(c:Nat)(f:lJ->lJ):List lJ:=match l[c]? with
 |some x=>l.set c (f x)
 |none=>l
def S6(s:RS)(i:Nat)(x:cC):RS:=
 let t:=if oW x=true then x.tn else s.st
 if x.k=1 then⟨s.cl++[⟨x.id,x.wk,x.op,Aa,i,-1,-1⟩],λw=>if w=x.wk then some ⟨s.cl.length,0,false⟩else s.of w,s.lk,x.tn,t⟩
 else match s.of x.wk with
  |none=>s
  |some o=>
   if x.k=5 then⟨nj s.cl o.c λc=>{c with an:=i},λw=>if w=x.wk then none else s.of w,s.lk,x.tn,t⟩else
   if x.k=6 then⟨s.cl,λw=>if w=x.wk then some ⟨o.c,o.s,true⟩else s.of w,s.lk,x.tn,t⟩else
   ⟨if x.k=3 then nj s.cl o.c λc=>{c with co:=i,rp:=x.rp}else s.cl,λw=>if w=x.wk then some ⟨o.c,o.s+1,o.e⟩else s.of w,
     λk=>if k=x.lk then(if x.k=2 then some x.id else if x.k=4 then none else s.lk k)else s.lk k,x.tn,t⟩
inductive eT (v:ce) (l:List cC):Nat->RS->Prop
 |zero:eT v l 0 RS.init
 |succ {k:Nat} {s:RS} {x:cC}:eT v l k s->l[k]? =some x->zw v s x=0->eT v l (k+1) (S6 s k x)
def eT.Qa{v:ce}{l:List cC}{k:Nat}{s s':RS}(h:eT v l k s)(h':eT v l k s'):s=s':=by
 induction h generalizing s' with
 |zero=>cases h';rfl
 |succ h hx _ ih=>
  cases h' with
  |succ h2 VX _=>rw[hx]at VX;injection VX with VX;subst VX;rw[ih h2]
def eT.prev{v:ce}{l:List cC}{k:Nat}{s:RS}(h:eT v l (k+1) s):∃s0 x,eT v l k s0/\l[k]? =some x/\zw v s0 x=0/\s=S6 s0 k x:=by
 cases h with
 |succ h hx he=>exact⟨_,_,h,hx,he,rfl⟩
def eT.pre{v:ce}{l:List cC}{k:Nat}{s:RS}(h:eT v l k s):∀j,j<=k->∃s',eT v l j s':=by
 induction h with
 |zero=>intro j hj;obtain rfl:j=0:=by omega
        exact⟨_,.zero⟩
 | @succ k s x h hx he ih=>
  intro j hj;by_cases e:j=k+1
  ·subst e;exact⟨_,.succ h hx he⟩
  ·exact ih j (by omega)
structure lN (s:RS):Prop where
 ids:∀(j:Nat) (c:lJ),s.cl[j]? =some c->c.id=(j:Int)+1
 of:∀(w:Int) (o:fY),s.of w=some o->o.c<s.cl.length
 len:s.cl.length<=200
 wk:∀(w:Int) (o:fY),s.of w=some o->1<=w/\w<=64
 steps:∀(w:Int) (o:fY),s.of w=some o->o.s<=49
def kZ(l:List lJ)(c:Nat)(f:lJ->lJ):(nj l c f).length=l.length:=by
 unfold nj;split
 ·exact jP
 ·rfl
def xp(l:List lJ)(c:Nat)(f:lJ->lJ)(j:Nat):(nj l c f)[j]? =(l[j]?).map λx=>if j=c then f x else x:=by
 unfold nj;by_cases e:c=j
 ·subst e;cases h:l[c]? with
  |none=>simp only[h,Option.map_none]
  |some o=>have:=(cr.1 h).1;simp only[nY,bc,this,bR]
 ·cases h:l[c]? with
  |none=>simp only[ay (bL e),Option.map_id']
  |some o=>simp only[nY,ay e,ay (bL e),Option.map_id']
def rY{s:RS}{x:cC}(h:dO s x=0):(1<=x.k/\x.k<=6)/\x=iW x/\(0<=x.tn/\x.tn<=1000000000)/\(1<=x.wk/\x.wk<=64)/\s.tn<=x.tn/\(oW x=true->s.st<x.tn):=by
 unfold dO at h;split at h
 ·omega
 rename_i h1;split at h
 ·omega
 rename_i h2;split at h
 ·omega
 rename_i h3;split at h
 ·omega
 rename_i h4;refine⟨by omega,rE.1 h2,by omega,by omega,by omega,λho=>?_⟩;simp only[not_or,not_and]at h4;have:=h4.2 ho;omega
def pS{v:ce}{o:t8}{i:Nat}{a b:Int}(h:i6 v o i=((a,b),0)):i<2*(bW v o).1.length+1/\(bW v o).2=0:=by
 unfold i6 at h;by_cases c1:(bW v o).2=0
 ·rw[ax c1]at h;by_cases c2:0<=(i:Int)/\(i:Int)<2*((bW v o).1.length:Int)+1
  ·exact⟨by omega,c1⟩
  ·rw[ay c2]at h;simp at h
 ·rw[ay c1]at h;simp at h;exact absurd h.2 c1
def eT.inv{v:ce}{l:List cC}{k:Nat}{s:RS}(h:eT v l k s):lN s:=by
 induction h with
 |zero=>exact⟨by simp[RS.init],by simp[RS.init],by simp[RS.init],by simp[RS.init],by simp[RS.init]⟩
 | @succ k s x da hx he ih=>
  unfold zw at he;by_cases c0:dO s x=0;case neg=>rw[ax c0]at he;exact absurd he c0
  rw[ay (by simpa using c0)]at he;obtain⟨hk,hb,ht,hw,-,-⟩:=rY c0;unfold S6;by_cases c1:x.k=1
  ·rw[ax c1]at he;simp only[ax c1];split at he
   ·omega
   split at he
   ·omega
   split at he
   ·omega
   rename_i h1 h2 h3;refine⟨λj c hc=>?_,λw o ho=>?_,by simp;have:=ih.len;omega,λw o ho=>?_,λw o ho=>?_⟩
   ·simp only[sf]at hc;split at hc
    ·exact ih.ids j c hc
    ·rename_i hj;have:j=s.cl.length:=by
      by_cases e:j-s.cl.length=0
      ·omega
      ·rw[nB (by simp;omega)]at hc;cases hc
     subst this;simp at hc;subst hc;exact rE.1 h3
   ·simp only at ho;split at ho
    ·injection ho with ho;subst ho;simp
    ·have:=ih.of w o ho;simp;omega
   ·simp only at ho;split at ho
    ·omega
    ·exact ih.wk w o ho
   ·simp only at ho;split at ho
    ·injection ho with ho;subst ho;simp
    ·exact ih.steps w o ho
  ·rw[ay c1]at he;simp only[ay c1];cases ho:s.of x.wk with
   |none=>rw[ho]at he;exact absurd (show(4:Int)=0 from he) (by decide)
   |some o=>
    rw[ho]at he;simp only at he|-;have pa:=ih.of _ _ ho;split at he
    ·omega
    by_cases c5:x.k=5
    ·simp only[ax c5];refine⟨λj c hc=>?_,λw o' fP=>?_,by simp only[kZ];exact ih.len,λw o' fP=>?_,λw o' fP=>?_⟩
     ·rw[xp]at hc;cases hj:s.cl[j]? with
      |none=>rw[hj]at hc;cases hc
      |some y=>rw[hj]at hc;simp only[bR,fb]at hc;have:=ih.ids j y hj;subst hc;split<;>exact this
     ·simp only[kZ]at fP|-;split at fP
      ·cases fP
      ·exact ih.of w o' fP
     ·simp only at fP;split at fP
      ·cases fP
      ·exact ih.wk w o' fP
     ·simp only at fP;split at fP
      ·cases fP
      ·exact ih.steps w o' fP
    ·rw[ay c5]at he;simp only[ay c5];by_cases c6:x.k=6
     ·simp only[ax c6];refine⟨ih.ids,λw o' fP=>?_,ih.len,λw o' fP=>?_,λw o' fP=>?_⟩
      ·simp only at fP;split at fP
       ·injection fP with fP;subst fP;exact pa
       ·exact ih.of w o' fP
      ·simp only at fP;split at fP
       ·omega
       ·exact ih.wk w o' fP
      ·simp only at fP;split at fP
       ·injection fP with fP;subst fP;exact(ih.steps _ _ ho:o.s<=49)
       ·exact ih.steps w o' fP
     ·rw[ay c6]at he;simp only[ay c6];split at he
      ·omega
      rename_i my;have fy:=(pS (rE.1 my)).1;have bk:=rU v (a6 s o.c).op;refine⟨λj c hc=>?_,λw o' fP=>?_,?_,λw o' fP=>?_,λw o' fP=>?_⟩
      ·split at hc
       ·rw[xp]at hc;cases hj:s.cl[j]? with
        |none=>rw[hj]at hc;cases hc
        |some y=>rw[hj]at hc;simp only[bR,fb]at hc;have:=ih.ids j y hj;subst hc;split<;>exact this
       ·exact ih.ids j c hc
      ·simp only at fP|-;split at fP
       ·injection fP with fP;subst fP;split
        ·rw[kZ];exact pa
        ·exact pa
       ·split
        ·rw[kZ];exact ih.of w o' fP
        ·exact ih.of w o' fP
      ·simp only;split
       ·rw[kZ];exact ih.len
       ·exact ih.len
      ·simp only at fP;split at fP
       ·omega
       ·exact ih.wk w o' fP
      ·simp only at fP;split at fP
       ·injection fP with fP;subst fP;simp only;omega
       ·exact ih.steps w o' fP
inductive rq (v:ce) (l:List cC):Int->Int->Prop
 |Ty:(iM v).2≠0->rq v l (-1) (iM v).2
 |len:(iM v).2=0->2000<l.length->rq v l (-1) 3
 |bad {k:Nat} {s:RS} {x:cC}:(iM v).2=0->l.length<=2000->eT v l k s->l[k]? =some x->zw v s x≠0->rq v l (k:Int) (zw v s x)
 |ok {s:RS}:(iM v).2=0->l.length<=2000->eT v l l.length s->rq v l 0 0
def eT.Qp{v:ce}{l:List cC}{k k':Nat}{s s':RS}{x x':cC}(h:eT v l k s)(hx:l[k]? =some x)(he:zw v s x≠0)(h':eT v l k' s')(Fo:l[k']? =some x')(he':zw v s' x'≠0):k=k'/\s=s'/\x=x':=by
 have key:∀{k k':Nat} {s s':RS} {x:cC},eT v l k s->l[k]? =some x->zw v s x≠0->eT v l k' s'->k<k'->False:=λ{k k' s s' x} h hx he h' fy=>by obtain⟨s1,h1⟩:=h'.pre (k+1) fy;obtain⟨s0,y,h2,h3,h4,-⟩:=h1.prev;rw[hx]at h3;injection h3 with h3;subst h3;rw[h.Qa h2]at he;exact he h4
 rcases Nat.lt_trichotomy k k' with e|e|e
 ·exact(key h hx he h' e).elim
 ·subst e;rw[hx]at Fo;injection Fo with Fo;exact⟨rfl,h.Qa h',Fo⟩
 ·exact(key h' Fo he' h e).elim
def eT.Eb{v:ce}{l:List cC}{k:Nat}{s s':RS}{x:cC}(h:eT v l k s)(hx:l[k]? =some x)(he:zw v s x≠0)(h':eT v l l.length s'):False:=by have fy:=(cr.1 hx).1;obtain⟨s1,h1⟩:=h'.pre (k+1) fy;obtain⟨s0,y,h2,h3,h4,-⟩:=h1.prev;rw[hx]at h3;injection h3 with h3;subst h3;rw[h.Qa h2]at he;exact he h4
def rq.Qa{v:ce}{l:List cC}{a e a' e':Int}(h:rq v l a e)(h':rq v l a' e'):a=a'/\e=e':=by
 cases h with
 |Ty h1=>
  cases h' with
  |Ty _=>exact⟨rfl,rfl⟩
  |len k1 _=>exact absurd k1 h1
  |bad k1 _ _ _ _=>exact absurd k1 h1
  |ok k1 _ _=>exact absurd k1 h1
 |len h1 h2=>
  cases h' with
  |Ty k1=>exact absurd h1 k1
  |len _ _=>exact⟨rfl,rfl⟩
  |bad _ k2 _ _ _=>omega
  |ok _ k2 _=>omega
 |bad h1 h2 h3 h4 h5=>
  cases h' with
  |Ty k1=>exact absurd h1 k1
  |len _ k2=>omega
  |bad _ _ k3 k4 k5=>obtain⟨rfl,rfl,rfl⟩:=h3.Qp h4 h5 k3 k4 k5;exact⟨rfl,rfl⟩
  |ok _ _ k3=>exact(h3.Eb h4 h5 k3).elim
 |ok h1 h2 h3=>
  cases h' with
  |Ty k1=>exact absurd h1 k1
  |len _ k2=>omega
  |bad _ _ k3 k4 k5=>exact(k3.Eb k4 k5 h3).elim
  |ok _ _ _=>exact⟨rfl,rfl⟩
def rq.QF{v:ce}{l:List cC}{a:Int}(h:rq v l a 0):a=0/\(iM v).2=0/\l.length<=2000/\∃s,eT v l l.length s:=by
 generalize he:(0:Int)=e at h;cases h with
 |Ty h1=>exact absurd he.symm h1
 |len _ _=>exact absurd he (by decide)
 |bad _ _ _ _ h5=>exact absurd he.symm h5
 |ok h1 h2 h3=>exact⟨rfl,h1,h2,_,h3⟩
def IQ(sh fi:Int)(m k:Nat):(pc sh fi m k).Pairwise λa b=>a<b:=by unfold pc;rw[w8];exact(w9.filter _).imp λh=>by omega
def VH(v:ce)(c:Int):(jK v c).1.Pairwise λa b=>a<b:=by
 unfold jK;by_cases h:(vr v c).2.2=0
 ·rw[ax h];obtain⟨b1,b2,b3,b4⟩:=Ad h;obtain⟨h1,-⟩:=tW h;have e:=Pa (sh:=v.sh) (fi:=(vr v c).1) (m:=(vr v c).2.1.toNat) (ka h1).1 b1;rw[xl (by omega)]at e;simp only;rw[<-e];exact IQ ..
 ·rw[ay h];exact .nil
def IT{v:ce}{s:Int}(h:(bE v s).2=0):(vr v ((bE v s).1.1:Int)).2.2=0:=by
 unfold bE at h|-;by_cases hf:(dW v s).2=0
 ·rw[ax hf];obtain⟨h1,h2,-⟩:=rR hf;have hs:dG ((dW v s).1.sec:Int) (dW v s).1=true:=br rfl;have hm:(dW v s).1∈(cM v.aB).filter (dG ((dW v s).1.sec:Int)):=oc.2 ⟨h2,hs⟩;have hg:=(hZ h1).1;have hp:=nc (l:=(cM v.aB).filter (dG ((dW v s).1.sec:Int))) (λx hx=>((kU (oc.1 hx).1).many hg).1);have hl:=List.length_pos_of_mem hm;unfold vr;rw[ax h1];simp only;rw[bX]
 ·rw[ay hf]at h;exact absurd h hf
def Nb{v:ce}(h1:(iM v).2=0)(k s c:Int):(d8 v k s c).Pairwise λa b=>a<b:=by
 unfold d8;split
 ·rw[w8];exact w9.imp λh=>by omega
 split
 ·exact VH v c
 split
 ·split
  ·rename_i hp;have hs:=mr v s;rw[hp]at hs;have e1:(fT v s).1=s % v.sh:=by
    unfold fT at hs|-;split
    ·rfl
    ·rename_i hn;rw[ay hn]at hs;exact absurd hs hn
   have e2:(eO v ((bE v s).1.1:Int)).1=v.sh+((bE v s).1.1:Int):=by unfold eO;rw[ax (IT hp)]
   have:=(ka h1).1;have:=Int.emod_lt_of_pos s (by omega:0<v.sh);rw[e1,e2];exact List.Pairwise.cons (λa ha=>by rw[kX]at ha;omega) (wT _ _)
  ·exact .nil
 split
 ·split
  ·exact wT _ _
  ·exact .nil
 split
 ·split
  ·exact wT _ _
  ·exact .nil
 ·exact .nil
def KK(v:ce)(o:t8):(bW v o).1.Pairwise λa b=>a<b:=by
 unfold bW;split
 ·rename_i h1;split
  ·exact Nb h1 _ _ _
  ·exact .nil
 ·exact .nil
def GH{L:List Int}(h:L.Pairwise λa b=>a<b){i j:Nat}{a b:Int}(hi:L[i]? =some a)(hj:L[j]? =some b)(hij:i<j):a<b:=by obtain⟨h1,h2⟩:=cr.1 hi;obtain⟨h3,h4⟩:=cr.1 hj;have:=List.pairwise_iff_getElem.1 h i j h1 h3 hij;rw[h2,h4]at this;exact this
def PC{L:List Int}(h:L.Pairwise λa b=>a<b){i j:Nat}{a:Int}(hi:L[i]? =some a)(hj:L[j]? =some a):i=j:=by
 rcases Nat.lt_trichotomy i j with e|e|e
 ·have:=GH h hi hj e;omega
 ·exact e
 ·have:=GH h hj hi e;omega
structure jo where
 id:Int
 fr:Int
 to:Int
def Xi(m:List jo)(t:Int):List jo:=match m[m.length-1]? with
 |some y=>m.set (m.length-1) ⟨y.id,y.fr,t⟩
 |none=>m
def vX(k:Int)(m:List jo)(x:cC):List jo:=if x.k=2/\x.lk=k then m++[⟨x.id,x.tn,-1⟩]else if x.k=4/\x.lk=k then Xi m x.tn else m
def pG(k:Int)(l:List cC):List jo:=l.foldl (vX k) []
def sM{k:Int}{l:List cC}{i:Nat}{x:cC}(h:l[i]? =some x):pG k (l.take (i+1))=vX k (pG k (l.take i)) x:=by unfold pG;rw[qi,h,qK,List.foldl_append];rfl
def EF(m:List jo)(y:jo)(t:Int):Xi (m++[y]) t=m++[⟨y.id,y.fr,t⟩]:=by
 unfold Xi;have e:(m++[y]).length-1=m.length:=by simp
 rw[e,ir (aS _),mp];simp
def BF(st:Int)(m:List jo):Prop:=m.Pairwise (λa b=>a.to<b.fr)/\∀y∈m,0<=y.fr/\y.fr<y.to/\y.to<=st
def Hc(st:Int)(m:List jo):Option Int->Prop
 |none=>BF st m
 |some id=>∃m' f,m=m'++[⟨id,f,-1⟩]/\BF st m'/\(∀y∈m',y.to<f)/\0<=f/\f<=st
def BF.mono{st Pt:Int}{m:List jo}(h:BF st m)(hs:st<=Pt):BF Pt m:=⟨h.1,λy hy=>by have:=h.2 y hy;omega⟩
def Hc.mono{st Pt:Int}{m:List jo}{o:Option Int}(h:Hc st m o)(hs:st<=Pt):Hc Pt m o:=by
 cases o with
 |none=>exact BF.mono h hs
 |some id=>obtain⟨m',f,e,h1,h2,h3,h4⟩:=h;exact⟨m',f,e,h1.mono hs,h2,h3,by omega⟩
def Hc.fr{st:Int}{m:List jo}{o:Option Int}(h:Hc st m o){y:jo}(hy:y∈m):0<=y.fr/\y.fr<=st:=by
 cases o with
 |none=>have:=h.2 y hy;omega
 |some id=>
  obtain⟨m',f,rfl,h1,h2,h3,h4⟩:=h;rcases mC.1 hy with hy|hy
  ·have:=h1.2 y hy;omega
  ·rw[kX]at hy;subst hy;exact⟨h3,h4⟩
def py(L:List Int)(n:Nat)(k:Int):Prop:=∃j,L[j]? =some k/\j<n/\n<=2*L.length-j
structure kj (v:ce) (s:RS) (sp:Int->List jo):Prop where
 TC:∀w o,s.of w=some o->(a6 s o.c).wk=w/\(a6 s o.c).an= -1
 V8:∀k id,s.lk k=some id<->∃w o,s.of w=some o/\id=(o.c:Int)+1/\py (bW v (a6 s o.c).op).1 o.s k
 LU:∀k,Hc s.st (sp k) (s.lk k)
 RO:∀k y,y∈sp k->1<=y.id/\y.id<=s.cl.length
 NF:∀w o k y,s.of w=some o->y∈sp k->y.id=(o.c:Int)+1->∃j,j<o.s/\(bW v (a6 s o.c).op).1[j]? =some k
 Gv:∀k k' y y',y∈sp k->y'∈sp k'->k<k'->y.id=y'.id->y.fr<y'.fr
def kj.inj{v:ce}{s:RS}{sp:Int->List jo}(h:kj v s sp){w w':Int}{o o':fY}(ho:s.of w=some o)(fP:s.of w'=some o')(hc:o.c=o'.c):w=w':=by rw[<-(h.TC _ _ ho).1,<-(h.TC _ _ fP).1,hc]
def kj.lkO{v:ce}{s:RS}{sp:Int->List jo}(h:kj v s sp){w:Int}{o:fY}(ho:s.of w=some o)(k:Int):s.lk k=some ((o.c:Int)+1)<->py (bW v (a6 s o.c).op).1 o.s k:=by
 rw[h.V8];constructor
 ·rintro⟨w',o',h1,h2,h3⟩;have:=h.inj ho h1 (by omega);subst this;rw[ho]at h1;injection h1 with h1;rw[h1];exact h3
 ·intro h3;exact⟨w,o,ho,rfl,h3⟩
def Ae(l:List lJ)(c:Nat)(f:lJ->lJ){j:Nat}(hj:j<l.length):(nj l c f).getD j Om=if j=c then f (l.getD j Om)else l.getD j Om:=by rw[jj,xp,jj,cx hj];rfl
def NO(l:List lJ)(a:lJ){j:Nat}(hj:j<l.length):(l++[a]).getD j Om=l.getD j Om:=by rw[jj,jj,o6 hj]
def kj.step{v:ce}{s s':RS}{sp Wa:Int->List jo}(h:kj v s sp)(hI:lN s){w0:Int}{o:fY}(ho:s.of w0=some o)(n':Nat)(e':Bool)
 (rN:∀w,s'.of w=if w=w0 then some ⟨o.c,n',e'⟩else s.of w)
 (oI:∀c,c<s.cl.length->(a6 s' c).op=(a6 s c).op/\(a6 s' c).wk=(a6 s c).wk/\(a6 s' c).an=(a6 s c).an)
 (hlk:∀k id,s'.lk k=some id<->if id=(o.c:Int)+1 then py (bW v (a6 s o.c).op).1 n' k else s.lk k=some id)
 (mb:∀k,Hc s'.st (Wa k) (s'.lk k))(Bw:∀k y,y∈Wa k->1<=y.id/\y.id<=s'.cl.length)
 (Cn:∀k y,y∈Wa k->if y.id=(o.c:Int)+1 then∃j,j<n'/\(bW v (a6 s o.c).op).1[j]? =some k else∃y0,y0∈sp k/\y0.id=y.id)
 (acr:∀k k' y y',y∈Wa k->y'∈Wa k'->k<k'->y.id=y'.id->y.fr<y'.fr):kj v s' Wa:=by
 refine⟨λw o1 h1=>?_,λk id=>?_,mb,Bw,λw o1 k y h1 hy he=>?_,acr⟩
 ·rw[rN]at h1;split at h1
  ·rename_i e;subst e;injection h1 with h1;subst h1;obtain⟨a,b,c⟩:=oI _ (hI.of _ _ ho);have:=h.TC _ _ ho;simp only;rw[b,c];exact this
  ·obtain⟨a,b,c⟩:=oI _ (hI.of _ _ h1);rw[b,c];exact h.TC _ _ h1
 ·rw[hlk];constructor
  ·intro h1;split at h1
   ·rename_i e;exact⟨w0,⟨o.c,n',e'⟩,by rw[rN,ax rfl],e,by simp only;rw[(oI _ (hI.of _ _ ho)).1];exact h1⟩
   ·rename_i e;obtain⟨w,o1,h2,h3,h4⟩:=(h.V8 k id).1 h1;have dQ:¬w=w0:=λe2=>by subst e2;rw[ho]at h2;injection h2 with h2;subst h2;exact e h3
    exact⟨w,o1,by rw[rN,ay dQ];exact h2,h3,by rw[(oI _ (hI.of _ _ h2)).1];exact h4⟩
  ·rintro⟨w,o1,h2,h3,h4⟩;rw[rN]at h2;split at h2
   ·injection h2 with h2;subst h2;rw[ax h3];rw[(oI _ (hI.of _ _ ho)).1]at h4;exact h4
   ·rename_i e;have:¬id=(o.c:Int)+1:=λe2=>e (h.inj h2 ho (by omega))
    rw[ay this];rw[(oI _ (hI.of _ _ h2)).1]at h4;exact(h.V8 k id).2 ⟨w,o1,h2,h3,h4⟩
 ·have hw:=Cn k y hy;rw[rN]at h1;split at h1
  ·injection h1 with h1;subst h1;rw[ax he]at hw;simp only;rw[(oI _ (hI.of _ _ ho)).1];exact hw
  ·rename_i e;have:¬y.id=(o.c:Int)+1:=λe2=>e (h.inj h1 ho (by omega))
   rw[ay this]at hw;obtain⟨y0,h2,h3⟩:=hw;rw[(oI _ (hI.of _ _ h1)).1];exact h.NF w o1 k y0 h1 h2 (by omega)
def Ds{L:List Int}{n:Nat}{k:Int}(h:cX L n=(1,k)):n<L.length/\L[n]? =some k:=by
 unfold cX at h;split at h
 ·rename_i hn;injection h with h1 h2;rw[jj,cx hn]at h2;exact⟨hn,by rw[cx hn];exact cg some h2⟩
 ·split at h
  ·injection h with h1;exact absurd h1 (by decide)
  ·injection h with h1;exact absurd h1 (by decide)
def zR{L:List Int}{n:Nat}{k:Int}(h:cX L n=(2,k)):n=L.length:=by
 unfold cX at h;split at h
 ·injection h with h1;exact absurd h1 (by decide)
 ·split at h
  ·rename_i e;exact e
  ·injection h with h1;exact absurd h1 (by decide)
def vD{L:List Int}{n:Nat}{k:Int}(h:cX L n=(3,k))(hn:n<2*L.length+1):L.length<n/\L[2*L.length-n]? =some k:=by
 unfold cX at h;split at h
 ·injection h with h1;exact absurd h1 (by decide)
 ·split at h
  ·injection h with h1;exact absurd h1 (by decide)
  ·have fy:2*L.length-n<L.length:=by omega
   injection h with h1 h2;rw[jj,cx fy]at h2;exact⟨by omega,by rw[cx fy];exact cg some h2⟩
def Hm{L:List Int}(hL:L.Pairwise λa b=>a<b){n:Nat}{k:Int}(hn:n<L.length)(hk:L[n]? =some k)(k':Int):py L (n+1) k'<->(k'=k\/py L n k'):=by
 constructor
 ·rintro⟨j,h1,h2,h3⟩;by_cases e:j=n
  ·subst e;rw[hk]at h1;injection h1 with h1;exact .inl h1.symm
  ·exact .inr ⟨j,h1,by omega,by omega⟩
 ·rintro(rfl|⟨j,h1,h2,h3⟩)
  ·exact⟨n,hk,by omega,by omega⟩
  ·exact⟨j,h1,by omega,by omega⟩
def CC{L:List Int}{n:Nat}(hn:n=L.length)(k':Int):py L (n+1) k'<->py L n k':=by
 constructor
 ·rintro⟨j,h1,h2,h3⟩;have:=(cr.1 h1).1;exact⟨j,h1,by omega,by omega⟩
 ·rintro⟨j,h1,h2,h3⟩;exact⟨j,h1,by omega,by omega⟩
def G5{L:List Int}(hL:L.Pairwise λa b=>a<b){n:Nat}{k:Int}(hn:L.length<n)(hk:L[2*L.length-n]? =some k)(hn2:n<2*L.length+1)(k':Int):py L (n+1) k'<->(k'≠k/\py L n k'):=by
 constructor
 ·rintro⟨j,h1,h2,h3⟩;have:=(cr.1 h1).1;refine⟨λe=>?_,j,h1,by omega,by omega⟩;subst e;have:=PC hL h1 hk;omega
 ·rintro⟨h0,j,h1,h2,h3⟩;have:=(cr.1 h1).1;refine⟨j,h1,by omega,?_⟩;by_cases e:j=2*L.length-n
  ·subst e;rw[hk]at h1;injection h1 with h1;exact absurd h1.symm h0
  ·omega
def Kh{L:List Int}{n:Nat}(hn:2*L.length<n)(k:Int):¬py L n k:=by rintro⟨j,h1,h2,h3⟩;have:=(cr.1 h1).1;omega
def G3{v:ce}{o:t8}(h:(bW v o).2≠0):(bW v o).1=[]:=by
 unfold bW at h|-;split
 ·split
  ·rename_i h1 h2;rw[ax h1,ax h2]at h;exact absurd rfl h
  ·rfl
 ·rfl
def Qf{s:RS}(hI:lN s){c:Nat}(hc:c<s.cl.length):(a6 s c).id=(c:Int)+1:=by
 have e:a6 s c=s.cl[c]:=by simp[a6,List.getD,hc]
 rw[e];exact hI.ids c _ (cx hc)
def kj.init(v:ce):kj v RS.init λ_=>[]:=
 ⟨λw o h=>(by cases h),λk id=>⟨λh=>(by cases h),λ⟨w,o,h,_⟩=>(by cases h)⟩,λk=>⟨.nil,λy hy=>(by cases hy)⟩,λk y hy=>(by cases hy),λw o k y h=>(by cases h),λk k' y y' hy=>(by cases hy)⟩
def B3{k:Int}{m:List jo}{x:cC}(h2:x.k≠2)(h4:x.k≠4):vX k m x=m:=by unfold vX;rw[ay λe=>h2 e.1,ay λe=>h4 e.1]
def kj.SH{v:ce}{s:RS}{sp:Int->List jo}(h:kj v s sp)(hI:lN s){x:cC}{i:Nat}(hn:s.of x.wk=none)(st:Int)(c:lJ)(h1:c.wk=x.wk)(h2:c.an= -1)(tn:Int)(my:s.st<=st):
 kj v ⟨s.cl++[c],λw=>if w=x.wk then some ⟨s.cl.length,0,false⟩else s.of w,s.lk,tn,st⟩ sp:=by
 have lI:∀{j},j<s.cl.length->a6 ⟨s.cl++[c],λw=>if w=x.wk then some ⟨s.cl.length,0,false⟩else s.of w,s.lk,tn,st⟩ j=a6 s j:=λhj=>NO _ _ hj
 have new:a6 ⟨s.cl++[c],λw=>if w=x.wk then some ⟨s.cl.length,0,false⟩else s.of w,s.lk,tn,st⟩ s.cl.length=c:=by show(s.cl++[c]).getD s.cl.length Om=c;rw[jj,ir (aS _),mp];rfl
 refine⟨λw o ho=>?_,λk id=>?_,λk=>(h.LU k).mono my,λk y hy=>?_,λw o k y ho hy he=>?_,h.Gv⟩
 ·simp only at ho;split at ho
  ·rename_i e;injection ho with ho;subst ho;simp only;rw[new,h1,h2];exact⟨e.symm,rfl⟩
  ·rw[lI (hI.of _ _ ho)];exact h.TC _ _ ho
 ·simp only;rw[h.V8];constructor
  ·rintro⟨w,o,a,b,d⟩;refine⟨w,o,?_,b,by rw[lI (hI.of _ _ a)];exact d⟩;rw[ay]
   ·exact a
   ·intro e;subst e;rw[hn]at a;cases a
  ·rintro⟨w,o,a,b,d⟩;split at a
   ·injection a with a;subst a;obtain⟨j,_,hj,_⟩:=d;exact absurd hj (by simp)
   ·rw[lI (hI.of _ _ a)]at d;exact⟨w,o,a,b,d⟩
 ·have:=h.RO k y hy;simp only[dj,dB,xg];omega
 ·simp only at ho;split at ho
  ·injection ho with ho;subst ho;have:=h.RO k y hy;simp only at he;omega
  ·rw[lI (hI.of _ _ ho)];exact h.NF w o k y ho hy he
def kj.answer{v:ce}{s:RS}{sp:Int->List jo}(h:kj v s sp)(hI:lN s){x:cC}{o:fY}(ho:s.of x.wk=some o)(rj:∀k,¬py (bW v (a6 s o.c).op).1 o.s k)(f:lJ->lJ)(tn st:Int)(my:s.st<=st):
 kj v ⟨nj s.cl o.c f,λw=>if w=x.wk then none else s.of w,s.lk,tn,st⟩ sp:=by
 have lI:∀{w o1},s.of w=some o1->w≠x.wk->a6 ⟨nj s.cl o.c f,λw=>if w=x.wk then none else s.of w,s.lk,tn,st⟩ o1.c=a6 s o1.c:=λ{w o1} h1 dQ=>by show(nj s.cl o.c f).getD o1.c Om=_;rw[Ae _ _ _ (hI.of _ _ h1),ay (λe=>dQ (h.inj h1 ho e))];rfl
 refine⟨λw o1 h1=>?_,λk id=>?_,λk=>(h.LU k).mono my,λk y hy=>?_,λw o1 k y h1 hy he=>?_,h.Gv⟩
 ·simp only at h1;split at h1
  ·cases h1
  ·rename_i e;rw[lI h1 e];exact h.TC _ _ h1
 ·simp only;rw[h.V8];constructor
  ·rintro⟨w,o1,a,b,d⟩;by_cases e:w=x.wk
   ·subst e;rw[ho]at a;injection a with a;subst a;exact absurd d (rj k)
   ·exact⟨w,o1,by rw[ay e];exact a,b,by rw[lI a e];exact d⟩
  ·rintro⟨w,o1,a,b,d⟩;split at a
   ·cases a
   ·rename_i e;rw[lI a e]at d;exact⟨w,o1,a,b,d⟩
 ·have:=h.RO k y hy;simp only[kZ];exact this
 ·simp only at h1;split at h1
  ·cases h1
  ·rename_i e;rw[lI h1 e];exact h.NF w o1 k y h1 hy he
def kj.next{v:ce}{s:RS}{sp:Int->List jo}{x:cC}{i:Nat}(h:kj v s sp)(hI:lN s)(he:zw v s x=0):kj v (S6 s i x) λk=>vX k (sp k) x:=by
 unfold zw at he;by_cases c0:dO s x=0;case neg=>rw[ax c0]at he;exact absurd he c0
 rw[ay (by simpa using c0)]at he;obtain⟨hk,hb,ht,hw,hmt,Cn⟩:=rY c0;have my:s.st<=(if oW x=true then x.tn else s.st):=by
  split
  ·rename_i e;have:=Cn e;omega
  ·exact Int.le_refl _
 unfold S6;by_cases c1:x.k=1
 ·rw[ax c1]at he;simp only[ax c1];split at he
  ·omega
  rename_i hn;have mb:(λk=>vX k (sp k) x)=sp:=funext λk=>B3 (by omega) (by omega)
  rw[mb];refine h.SH (i:=i) hI (by cases hq:s.of x.wk with|none=>rfl|some _=>rw[hq]at hn;exact absurd rfl hn) _ _ rfl rfl _ my
 rw[ay c1]at he;simp only[ay c1];cases ho:s.of x.wk with
 |none=>rw[ho]at he;exact absurd (show(4:Int)=0 from he) (by decide)
 |some o=>
 rw[ho]at he;simp only at he|-;have pa:=hI.of _ _ ho;split at he
 ·omega
 rename_i Bw;have hxi:x.id=(o.c:Int)+1:=by rw[<-rE.1 Bw,Qf hI pa]
 by_cases c5:x.k=5
 ·rw[ax c5]at he;simp only[ax c5];have mb:(λk=>vX k (sp k) x)=sp:=funext λk=>B3 (by omega) (by omega)
  rw[mb];refine h.answer hI ho (λk=>?_) _ _ _ my;by_cases hl:(bW v (a6 s o.c).op).2=0
  ·have e:(nP v (a6 s o.c).op).1=2*((bW v (a6 s o.c).op).1.length:Int)+1:=by unfold nP;rw[ax hl]
   rw[e]at he;split at he
   ·omega
   exact Kh (by omega) k
  ·rw[G3 hl];rintro⟨j,hj,_⟩;cases hj
 rw[ay c5]at he;simp only[ay c5];by_cases c6:x.k=6
 ·simp only[ax c6];have mb:(λk=>vX k (sp k) x)=sp:=funext λk=>B3 (by omega) (by omega)
  rw[mb];refine h.step hI ho o.s true (λw=>rfl) (λc _=>⟨rfl,rfl,rfl⟩) (λk id=>?_) (λk=>(h.LU k).mono my) h.RO (λk y hy=>?_) h.Gv
  ·show s.lk k=some id<->_;by_cases e:id=(o.c:Int)+1
   ·rw[ax e,e];exact h.lkO ho k
   ·rw[ay e]
  ·split
   ·rename_i e;exact h.NF _ _ k y ho hy e
   ·exact⟨y,hy,rfl⟩
 rw[ay c6]at he;simp only[ay c6];split at he
 ·omega
 rename_i rC;have rC:=rE.1 rC;have fy:=(pS rC).1;have hL:=KK v (a6 s o.c).op;have ko:cX (bW v (a6 s o.c).op).1 o.s=(iw x.k,x.lk):=by unfold i6 at rC;rw[ax (pS rC).2,ax ⟨by omega,by omega⟩]at rC;injection rC
 have Yj:oW x=true:=by unfold oW;simp;omega
 have hx:=Cn Yj;rw[ax Yj];have oI:∀(of':Int->Option fY) (lk':Int->Option Int) (t1 t2:Int) c,c<s.cl.length->(a6 ⟨if x.k=3 then nj s.cl o.c λc=>{c with co:=i,rp:=x.rp}else s.cl,of',lk',t1,t2⟩ c).op=(a6 s c).op/\(a6 ⟨if x.k=3 then nj s.cl o.c λc=>{c with co:=i,rp:=x.rp}else s.cl,of',lk',t1,t2⟩ c).wk=(a6 s c).wk/\(a6 ⟨if x.k=3 then nj s.cl o.c λc=>{c with co:=i,rp:=x.rp}else s.cl,of',lk',t1,t2⟩ c).an=(a6 s c).an:=λof' lk' t1 t2 c hc=>by
  by_cases c3:x.k=3
  ·simp only[ax c3];unfold a6;simp only;rw[Ae _ _ _ hc];split<;>exact⟨rfl,rfl,rfl⟩
  ·simp only[ay c3];exact⟨rfl,rfl,rfl⟩
 have dy:(if x.k=3 then nj s.cl o.c λc=>{c with co:=i,rp:=x.rp}else s.cl).length=s.cl.length:=by split<;>simp only[kZ]
 generalize Rz:(bW v (a6 s o.c).op).1=L at *;have OT:=λk=>Rz▸h.lkO ho k
 have Ic:=λk y hy e=>Rz▸h.NF _ _ k y ho hy e
 rcases(by omega:x.k=2\/x.k=3\/x.k=4)with c2|c3|c4
 ·
  have hq:¬(s.lk x.lk).isSome=true:=λe=>by rw[ax ⟨c2,e⟩]at he;omega
  have CJ:s.lk x.lk=none:=by cases e:s.lk x.lk with|none=>rfl|some _=>rw[e]at hq;exact absurd rfl hq
  rw[show iw x.k=1 by unfold iw;rw[ax c2]]at ko;obtain⟨hn,Ei⟩:=Ds ko;have hH:=Hm hL hn Ei;have YO:∀k,vX k (sp k) x=if k=x.lk then sp k++[⟨x.id,x.tn,-1⟩]else sp k:=λk=>by
   unfold vX;by_cases e:k=x.lk
   ·rw[ax ⟨c2,e.symm⟩,ax e]
   ·rw[ay λq=>e q.2.symm,ay λq=>e q.2.symm,ay e]
  have iU:∀k y,y∈vX k (sp k) x->y∈sp k\/(k=x.lk/\y=⟨x.id,x.tn,-1⟩):=λk y hy=>by
   rw[YO]at hy;split at hy
   ·rename_i e;rcases mC.1 hy with a|a
    ·exact .inl a
    ·exact .inr ⟨e,kX.1 a⟩
   ·exact .inl hy
  refine h.step hI ho (o.s+1) o.e (λw=>rfl) (λc hc=>oI _ _ _ _ c hc) (λk id=>?_) (λk=>?_) (λk y hy=>?_) (λk y hy=>?_) (λk k' y y' hy Lt KZ hyy=>?_)
  ·rw[Rz,hH];simp only[ax c2];by_cases e:k=x.lk
   ·rw[ax e];subst e;rw[hxi];constructor
    ·intro q;injection q with q;rw[ax q.symm];exact .inl rfl
    ·intro q;split at q
     ·rename_i e;rw[e]
     ·rw[CJ]at q;cases q
   ·rw[ay e];split
    ·rename_i e2;subst e2;rw[OT];constructor
     ·exact .inr
     ·rintro(q|q)
      ·exact absurd q e
      ·exact q
    ·exact Iff.rfl
  ·simp only[ax c2];rw[YO];by_cases e:k=x.lk
   ·rw[ax e,ax e];have:=h.LU k;rw[e,CJ]at this;rw[e];exact⟨_,_,rfl,BF.mono this (by omega),λy hy=>by have:=this.2 y hy;omega,by omega,Int.le_refl _⟩
   ·rw[ay e,ay e];exact(h.LU k).mono (by omega)
  ·simp only;rw[dy];rcases iU k y hy with a|⟨-,rfl⟩
   ·exact h.RO k y a
   ·simp only;omega
  ·rw[Rz];rcases iU k y hy with a|⟨rfl,rfl⟩
   ·split
    ·rename_i e;obtain⟨j,h1,h2⟩:=Ic k y a e;exact⟨j,by omega,h2⟩
    ·exact⟨y,a,rfl⟩
   ·simp only;rw[ax hxi];exact⟨o.s,by omega,Ei⟩
  ·rcases iU k y hy with a|⟨rfl,rfl⟩
   ·rcases iU k' y' Lt with b|⟨rfl,rfl⟩
    ·exact h.Gv k k' y y' a b KZ hyy
    ·have:=(h.LU k).fr a;simp only;omega
   ·rcases iU k' y' Lt with b|⟨rfl,rfl⟩
    ·obtain⟨j,h1,h2⟩:=Ic k' y' b (by simp only at hyy;omega);have:=GH hL h2 Ei h1;omega
    ·omega
 ·
  rw[show iw x.k=2 by unfold iw;rw[bX,ax c3]]at ko;have hH:=CC (zR ko);have mb:(λk=>vX k (sp k) x)=sp:=funext λk=>B3 (by omega) (by omega)
  rw[mb];have aaw:∀k,(if k=x.lk then(if x.k=2 then some x.id else if x.k=4 then none else s.lk k)else s.lk k)=s.lk k:=λk=>by rw[ay (by omega:¬x.k=2),ay (by omega:¬x.k=4)];split<;>rfl
  refine h.step hI ho (o.s+1) o.e (λw=>rfl) (λc hc=>oI _ _ _ _ c hc) (λk id=>?_) (λk=>?_) (λk y hy=>?_) (λk y hy=>?_) h.Gv
  ·simp only;rw[aaw,Rz,hH];split
   ·rename_i e;subst e;exact OT k
   ·exact Iff.rfl
  ·simp only;rw[aaw];exact(h.LU k).mono (by omega)
  ·simp only;rw[dy];exact h.RO k y hy
  ·rw[Rz];split
   ·rename_i e;obtain⟨j,h1,h2⟩:=Ic k y hy e;exact⟨j,by omega,h2⟩
   ·exact⟨y,hy,rfl⟩
 ·
  rw[show iw x.k=3 by unfold iw;rw[bX,bX]]at ko;obtain⟨hn,Ei⟩:=vD ko fy;have hH:=G5 hL hn Ei fy;have sz:s.lk x.lk=some ((o.c:Int)+1):=(OT x.lk).2 ⟨_,Ei,by omega,by omega⟩;obtain⟨m',f,e1,e2,e3,e4,e5⟩:∃m' f,sp x.lk=m'++[⟨(o.c:Int)+1,f,-1⟩]/\BF s.st m'/\(∀y∈m',y.to<f)/\0<=f/\f<=s.st:=by have:=h.LU x.lk;rw[sz]at this;exact this
  have YO:∀k,vX k (sp k) x=if k=x.lk then m'++[⟨(o.c:Int)+1,f,x.tn⟩]else sp k:=λk=>by
   unfold vX;rw[ay (by omega:¬(x.k=2/\x.lk=k))];by_cases e:k=x.lk
   ·rw[ax ⟨c4,e.symm⟩,ax e,e,e1,EF]
   ·rw[ay λq=>e q.2.symm,ay e]
  have iU:∀k y,y∈vX k (sp k) x->∃y0,y0∈sp k/\y0.id=y.id/\y0.fr=y.fr:=λk y hy=>by
   rw[YO]at hy;split at hy
   ·rename_i e;subst e;rw[e1];rcases mC.1 hy with a|a
    ·exact⟨y,List.mem_append_left _ a,rfl,rfl⟩
    ·rw[kX]at a;subst a;exact⟨_,List.mem_append_right _ (kX.2 rfl),rfl,rfl⟩
   ·exact⟨y,hy,rfl,rfl⟩
  refine h.step hI ho (o.s+1) o.e (λw=>rfl) (λc hc=>oI _ _ _ _ c hc) (λk id=>?_) (λk=>?_) (λk y hy=>?_) (λk y hy=>?_) (λk k' y y' hy Lt KZ hyy=>?_)
  ·rw[Rz,hH];simp only[ay (by omega:¬x.k=2),ax c4];by_cases e:k=x.lk
   ·rw[ax e];subst e;constructor
    ·intro q;cases q
    ·intro q;split at q
     ·exact absurd rfl q.1
     ·rename_i e2;rw[sz]at q;injection q with q;exact absurd q.symm e2
   ·rw[ay e];split
    ·rename_i e2;subst e2;rw[OT];exact⟨λq=>⟨e,q⟩,λq=>q.2⟩
    ·exact Iff.rfl
  ·simp only[ay (by omega:¬x.k=2),ax c4];rw[YO];by_cases e:k=x.lk
   ·rw[ax e,ax e];refine⟨List.pairwise_append.2 ⟨e2.1,wT _ _,λa ha b hb=>?_⟩,λy hy=>?_⟩
    ·rw[kX]at hb;subst hb;exact e3 a ha
    ·rcases mC.1 hy with a|a
     ·have:=e2.2 y a;omega
     ·rw[kX]at a;subst a;simp only;omega
   ·rw[ay e,ay e];exact(h.LU k).mono (by omega)
  ·simp only;rw[dy];obtain⟨y0,a,b,-⟩:=iU k y hy;rw[<-b];exact h.RO k y0 a
  ·rw[Rz];obtain⟨y0,a,b,-⟩:=iU k y hy;split
   ·rename_i e;obtain⟨j,h1,h2⟩:=Ic k y0 a (by omega);exact⟨j,by omega,h2⟩
   ·exact⟨y0,a,b⟩
  ·obtain⟨y0,a,b,c⟩:=iU k y hy;obtain⟨y1,a',b',c'⟩:=iU k' y' Lt;have:=h.Gv k k' y0 y1 a a' KZ (by omega);omega
def eT.Q4{v:ce}{l:List cC}{k:Nat}{s:RS}(h:eT v l k s):kj v s λq=>pG q (l.take k):=by
 induction h with
 |zero=>exact kj.init v
 | @succ k s x da hx he ih=>
  have e:(λq=>pG q (l.take (k+1)))=λq=>vX q (pG q (l.take k)) x:=funext λq=>sM hx
  rw[e];exact ih.next da.inv he
def eT.aeZ{v:ce}{l:List cC}{k:Nat}{s:RS}{x:cC}(h:eT v l k s)(he:zw v s x=0)(h4:x.k=4):∃m y,pG x.lk (l.take k)=m++[y]:=by
 have hL:=h.Q4;have hI:=h.inv;unfold zw at he;by_cases c0:dO s x=0;case neg=>rw[ax c0]at he;exact absurd he c0
 rw[ay (by simpa using c0),bX]at he;cases ho:s.of x.wk with
 |none=>rw[ho]at he;exact absurd (show(4:Int)=0 from he) (by decide)
 |some o=>
 rw[ho]at he;simp only at he;split at he
 ·omega
 rw[bX,bX]at he;split at he
 ·omega
 rename_i rC;have rC:=rE.1 rC;have fy:=(pS rC).1;have ko:cX (bW v (a6 s o.c).op).1 o.s=(iw x.k,x.lk):=by unfold i6 at rC;rw[ax (pS rC).2,ax ⟨by omega,by omega⟩]at rC;injection rC
 rw[show iw x.k=3 by unfold iw;rw[bX,bX]]at ko;obtain⟨hn,Ei⟩:=vD ko fy;have sz:s.lk x.lk=some ((o.c:Int)+1):=(hL.lkO ho x.lk).2 ⟨_,Ei,by omega,by omega⟩;have:=hL.LU x.lk;rw[sz]at this;obtain⟨m',f,e1,-⟩:=this;exact⟨m',_,e1⟩
def eT.beg{v:ce}{l:List cC}{n k:Nat}{s:RS}(h:eT v l k s)(hk:k<=n):eT v (l.take n) k s:=by
 induction h with
 |zero=>exact .zero
 | @succ k s x da hx he ih=>exact .succ (ih (by omega)) (by rw[jg,oM];exact hx) he
def eC(call:Eng.Callee)(R:Nat->ae)(W:AW):Option LT:=ak (aD Tryz.prog .len #[33] 3 #[false] [(R 11)] W) λj5=>ak (az Tryz.prog .lss 3 false false (R 14) j5.1 j5.2) λkH=>bp kH.1 (ak (a8 (bi (R 13) false) (i8 (R 11) kH.2) (some (ai,kH.2))) λiS=>ak (a8 (bi (R 13) false) (i8 (R 14) iS.2) (some (ai,iS.2))) λns=>ak (a8 (bi (R 13) false) (j0 26 iS.1 ns.1 ns.2) (some (ai,ns.2))) λqs=>ak (a8 (bi (R 13) false) (bq 25 qs.1 qs.2) (some (ai,qs.2))) λqD=>ak (a8 (bi (R 13) false) (aY qD.1 qD.2) (some (ai,qD.2))) λrD=>ak (a8 (bi (R 13) false) (az Tryz.prog .lss 3 false true rD.1 (.af 0) rD.2) (some (ai,rD.2))) λrB=>ak (bU (R 13) (.bool true) rB.1 rB.2) λtd=>ak (az Tryz.prog .add 3 false true (R 14) (.af 1) td.2) λzM=>some (X.normal,(bN R [(70,(R 14)),(71,(R 11)),(72,j5.1),(73,kH.1),(76,(R 13)),(77,(R 13)),(78,iS.1),(79,ns.1),(80,qs.1),(81,qD.1),(82,rD.1),(83,rB.1),(84,td.1),(13,td.1),(74,(R 14)),(75,zM.1),(14,zM.1)]),zM.2)) (some (X.exit 0,(bN R [(70,(R 14)),(71,(R 11)),(72,j5.1),(73,kH.1)]),kH.2))
def dF(call:Eng.Callee)(R:Nat->ae)(W:AW):Option LT:=ak (aD Tryz.prog .len #[49] 3 #[false] [(R 17)] W) λCN=>ak (az Tryz.prog .lss 3 false false (R 19) CN.1 CN.2) λCR=>bp CR.1 (ak (j0 3 (R 17) (R 19) CR.2) λtD=>ak (bq 2 tD.1 tD.2) λzx=>ak (aY zx.1 zx.2) λFi=>ak (az Tryz.prog .lss 3 false true Fi.1 (.af 0) Fi.2) λue=>ak (a8 (bi ue.1 true) (i8 (R 19) ue.2) (some (ai,ue.2))) λFt=>ak (a8 (bi ue.1 true) (i8 (R 17) Ft.2) (some (ai,Ft.2))) λDy=>ak (a8 (bi ue.1 true) (aD Tryz.prog .len #[49] 3 #[false] [Dy.1] Dy.2) (some (ai,Dy.2))) λEm=>ak (a8 (bi ue.1 true) (az Tryz.prog .sub 3 false true Em.1 (.af 1) Em.2) (some (ai,Em.2))) λFk=>ak (a8 (bi ue.1 true) (az Tryz.prog .lss 3 false false Ft.1 Fk.1 Fk.2) (some (ai,Fk.2))) λHa=>ak (a8 (bi ue.1 true) (i8 Ha.1 Ha.2) (some (ai,Ha.2))) λFg=>ak (a8 (bi Fg.1 false) (i8 (R 13) Fg.2) (some (ai,Fg.2))) λI2=>ak (a8 (bi Fg.1 false) (IE Tryz.prog .not I2.1 I2.2) (some (ai,I2.2))) λIq=>ak (a8 (bi ue.1 true) (bU Fg.1 (.bool true) Iq.1 Iq.2) (some (ai,Iq.2))) λKW=>ak (bU ue.1 KW.1 (.bool false) KW.2) λxf=>ak (a8 (bi xf.1 false) (i8 (R 17) xf.2) (some (ai,xf.2))) λH4=>ak (a8 (bi xf.1 false) (i8 (R 19) H4.2) (some (ai,H4.2))) λKY=>ak (a8 (bi xf.1 false) (j0 3 H4.1 KY.1 KY.2) (some (ai,KY.2))) λKc=>ak (a8 (bi xf.1 false) (bq 2 Kc.1 Kc.2) (some (ai,Kc.2))) λFF=>ak (a8 (bi xf.1 false) (aY FF.1 FF.2) (some (ai,FF.2))) λKS=>ak (a8 (bi xf.1 false) (az Tryz.prog .geq 3 false true KS.1 (.af 0) KS.2) (some (ai,KS.2))) λJt=>ak (a8 (bi xf.1 false) (i8 Jt.1 Jt.2) (some (ai,Jt.2))) λze=>ak (a8 (bi ze.1 true) (i8 (R 17) ze.2) (some (ai,ze.2))) λLr=>ak (a8 (bi ze.1 true) (i8 (R 19) Lr.2) (some (ai,Lr.2))) λKt=>ak (a8 (bi ze.1 true) (j0 3 Lr.1 Kt.1 Kt.2) (some (ai,Kt.2))) λEQ=>ak (a8 (bi ze.1 true) (bq 2 EQ.1 EQ.2) (some (ai,EQ.2))) λJG=>ak (a8 (bi ze.1 true) (aY JG.1 JG.2) (some (ai,JG.2))) λGp=>ak (a8 (bi ze.1 true) (i8 (R 17) Gp.2) (some (ai,Gp.2))) λKV=>ak (a8 (bi ze.1 true) (i8 (R 19) KV.2) (some (ai,KV.2))) λIJ=>ak (a8 (bi ze.1 true) (j0 3 KV.1 IJ.1 IJ.2) (some (ai,IJ.2))) λMQ=>ak (a8 (bi ze.1 true) (bq 1 MQ.1 MQ.2) (some (ai,MQ.2))) λuM=>ak (a8 (bi ze.1 true) (aY uM.1 uM.2) (some (ai,uM.2))) λuB=>ak (a8 (bi ze.1 true) (az Tryz.prog .leq 3 false false Gp.1 uB.1 uB.2) (some (ai,uB.2))) λwA=>ak (a8 (bi xf.1 false) (bU ze.1 wA.1 (.bool false) wA.2) (some (ai,wA.2))) λzt=>ak (bU xf.1 (.bool true) zt.1 zt.2) λnR=>ak (a8 (bi nR.1 false) (i8 (R 19) nR.2) (some (ai,nR.2))) λwx=>ak (a8 (bi nR.1 false) (az Tryz.prog .gtr 3 false true wx.1 (.af 0) wx.2) (some (ai,wx.2))) λuG=>ak (a8 (bi nR.1 false) (i8 uG.1 uG.2) (some (ai,uG.2))) λkz=>ak (a8 (bi kz.1 true) (i8 (R 17) kz.2) (some (ai,kz.2))) λyL=>ak (a8 (bi kz.1 true) (i8 (R 19) yL.2) (some (ai,yL.2))) λs7=>ak (a8 (bi kz.1 true) (j0 3 yL.1 s7.1 s7.2) (some (ai,s7.2))) λwC=>ak (a8 (bi kz.1 true) (bq 1 wC.1 wC.2) (some (ai,wC.2))) λwm=>ak (a8 (bi kz.1 true) (aY wm.1 wm.2) (some (ai,wm.2))) λsu=>ak (a8 (bi kz.1 true) (i8 (R 17) su.2) (some (ai,su.2))) λyc=>ak (a8 (bi kz.1 true) (i8 (R 19) yc.2) (some (ai,yc.2))) λrP=>ak (a8 (bi kz.1 true) (az Tryz.prog .sub 3 false true rP.1 (.af 1) rP.2) (some (ai,rP.2))) λwI=>ak (a8 (bi kz.1 true) (j0 3 yc.1 wI.1 wI.2) (some (ai,wI.2))) λCq=>ak (a8 (bi kz.1 true) (bq 2 Cq.1 Cq.2) (some (ai,Cq.2))) λzV=>ak (a8 (bi kz.1 true) (aY zV.1 zV.2) (some (ai,zV.2))) λBH=>ak (a8 (bi kz.1 true) (az Tryz.prog .leq 3 false false su.1 BH.1 BH.2) (some (ai,BH.2))) λBi=>ak (a8 (bi nR.1 false) (bU kz.1 Bi.1 (.bool false) Bi.2) (some (ai,Bi.2))) λyR=>ak (bU nR.1 (.bool true) yR.1 yR.2) λBN=>bp BN.1 (some (X.ret,(bN R [(105,(R 19)),(106,(R 17)),(107,CN.1),(108,CR.1),(111,(R 17)),(112,(R 19)),(113,tD.1),(114,zx.1),(115,Fi.1),(116,ue.1),(117,ue.1),(118,Ft.1),(119,Dy.1),(120,Em.1),(121,Fk.1),(122,Ha.1),(123,Fg.1),(124,I2.1),(125,Iq.1),(126,KW.1),(127,xf.1),(128,xf.1),(129,H4.1),(130,KY.1),(131,Kc.1),(132,FF.1),(133,KS.1),(134,Jt.1),(135,ze.1),(136,Lr.1),(137,Kt.1),(138,EQ.1),(139,JG.1),(140,Gp.1),(141,KV.1),(142,IJ.1),(143,MQ.1),(144,uM.1),(145,uB.1),(146,wA.1),(147,zt.1),(148,nR.1),(149,nR.1),(150,wx.1),(151,uG.1),(152,kz.1),(153,yL.1),(154,s7.1),(155,wC.1),(156,wm.1),(157,su.1),(158,yc.1),(159,rP.1),(160,wI.1),(161,Cq.1),(162,zV.1),(163,BH.1),(164,Bi.1),(165,yR.1),(166,BN.1),(4,(.bool false))]),BN.2)) (ak (j0 3 (R 17) (R 19) BN.2) λEs=>ak (bq 0 Es.1 Es.2) λHl=>ak (aY Hl.1 Hl.2) λpT=>ak (az Tryz.prog .lss 3 false true pT.1 (.af 1) pT.2) λrZ=>ak (a8 (bi rZ.1 false) (i8 pT.1 rZ.2) (some (ai,rZ.2))) λE2=>ak (a8 (bi rZ.1 false) (i8 (R 11) E2.2) (some (ai,E2.2))) λDM=>ak (a8 (bi rZ.1 false) (aD Tryz.prog .len #[33] 3 #[false] [DM.1] DM.2) (some (ai,DM.2))) λCu=>ak (a8 (bi rZ.1 false) (az Tryz.prog .gtr 3 false false E2.1 Cu.1 Cu.2) (some (ai,Cu.2))) λHe=>ak (bU rZ.1 (.bool true) He.1 He.2) λuw=>ak (a8 (bi uw.1 false) (i8 pT.1 uw.2) (some (ai,uw.2))) λEa=>ak (a8 (bi uw.1 false) (az Tryz.prog .gtr 3 false true Ea.1 (.af 200) Ea.2) (some (ai,Ea.2))) λHs=>ak (bU uw.1 (.bool true) Hs.1 Hs.2) λlS=>ak (a8 (bi lS.1 false) (i8 pT.1 lS.2) (some (ai,lS.2))) λDC=>ak (a8 (bi lS.1 false) (Ik 201 1 (R 15) DC.1 DC.2) (some (ai,DC.2))) λEf=>ak (a8 (bi lS.1 false) (aY Ef.1 Ef.2) (some (ai,Ef.2))) λBf=>ak (a8 (bi lS.1 false) (i8 (R 17) Bf.2) (some (ai,Bf.2))) λEy=>ak (a8 (bi lS.1 false) (i8 (R 19) Ey.2) (some (ai,Ey.2))) λCw=>ak (a8 (bi lS.1 false) (j0 3 Ey.1 Cw.1 Cw.2) (some (ai,Cw.2))) λEV=>ak (a8 (bi lS.1 false) (bq 1 EV.1 EV.2) (some (ai,EV.2))) λEA=>ak (a8 (bi lS.1 false) (aY EA.1 EA.2) (some (ai,EA.2))) λBT=>ak (a8 (bi lS.1 false) (az Tryz.prog .geq 3 false false Bf.1 BT.1 BT.2) (some (ai,BT.2))) λEI=>ak (a8 (bi lS.1 false) (i8 EI.1 EI.2) (some (ai,EI.2))) λwF=>ak (a8 (bi wF.1 true) (i8 pT.1 wF.2) (some (ai,wF.2))) λxY=>ak (a8 (bi wF.1 true) (Ik 201 1 (R 15) xY.1 xY.2) (some (ai,xY.2))) λDN=>ak (a8 (bi wF.1 true) (aY DN.1 DN.2) (some (ai,DN.2))) λB6=>ak (a8 (bi wF.1 true) (az Tryz.prog .gtr 3 false true B6.1 (.af 0) B6.2) (some (ai,B6.2))) λDn=>ak (a8 (bi lS.1 false) (bU wF.1 Dn.1 (.bool false) Dn.2) (some (ai,Dn.2))) λFG=>ak (bU lS.1 (.bool true) FG.1 FG.2) λCb=>bp Cb.1 (some (X.ret,(bN R [(105,(R 19)),(106,(R 17)),(107,CN.1),(108,CR.1),(111,(R 17)),(112,(R 19)),(113,tD.1),(114,zx.1),(115,Fi.1),(116,ue.1),(117,ue.1),(118,Ft.1),(119,Dy.1),(120,Em.1),(121,Fk.1),(122,Ha.1),(123,Fg.1),(124,I2.1),(125,Iq.1),(126,KW.1),(127,xf.1),(128,xf.1),(129,H4.1),(130,KY.1),(131,Kc.1),(132,FF.1),(133,KS.1),(134,Jt.1),(135,ze.1),(136,Lr.1),(137,Kt.1),(138,EQ.1),(139,JG.1),(140,Gp.1),(141,KV.1),(142,IJ.1),(143,MQ.1),(144,uM.1),(145,uB.1),(146,wA.1),(147,zt.1),(148,nR.1),(149,nR.1),(150,wx.1),(151,uG.1),(152,kz.1),(153,yL.1),(154,s7.1),(155,wC.1),(156,wm.1),(157,su.1),(158,yc.1),(159,rP.1),(160,wI.1),(161,Cq.1),(162,zV.1),(163,BH.1),(164,Bi.1),(165,yR.1),(166,BN.1),(167,(R 17)),(168,(R 19)),(169,Es.1),(170,Hl.1),(171,pT.1),(20,pT.1),(172,pT.1),(173,rZ.1),(174,rZ.1),(175,E2.1),(176,DM.1),(177,Cu.1),(178,He.1),(179,uw.1),(180,uw.1),(181,Ea.1),(182,Hs.1),(183,lS.1),(184,lS.1),(185,DC.1),(186,Ef.1),(187,Bf.1),(188,Ey.1),(189,Cw.1),(190,EV.1),(191,EA.1),(192,BT.1),(193,EI.1),(194,wF.1),(195,xY.1),(196,DN.1),(197,B6.1),(198,Dn.1),(199,FG.1),(200,Cb.1),(4,(.bool false))]),Cb.2)) (ak (j0 3 (R 17) (R 19) Cb.2) λIW=>ak (bq 1 IW.1 IW.2) λJ7=>ak (aY J7.1 J7.2) λG2=>ak (Ik 201 1 (R 15) pT.1 G2.2) λJK=>ak (cS 1 JK.1 G2.1 JK.2) λN3=>ak (az Tryz.prog .add 3 false true (R 19) (.af 1) N3.2) λKk=>some (X.normal,(bN R [(105,(R 19)),(106,(R 17)),(107,CN.1),(108,CR.1),(111,(R 17)),(112,(R 19)),(113,tD.1),(114,zx.1),(115,Fi.1),(116,ue.1),(117,ue.1),(118,Ft.1),(119,Dy.1),(120,Em.1),(121,Fk.1),(122,Ha.1),(123,Fg.1),(124,I2.1),(125,Iq.1),(126,KW.1),(127,xf.1),(128,xf.1),(129,H4.1),(130,KY.1),(131,Kc.1),(132,FF.1),(133,KS.1),(134,Jt.1),(135,ze.1),(136,Lr.1),(137,Kt.1),(138,EQ.1),(139,JG.1),(140,Gp.1),(141,KV.1),(142,IJ.1),(143,MQ.1),(144,uM.1),(145,uB.1),(146,wA.1),(147,zt.1),(148,nR.1),(149,nR.1),(150,wx.1),(151,uG.1),(152,kz.1),(153,yL.1),(154,s7.1),(155,wC.1),(156,wm.1),(157,su.1),(158,yc.1),(159,rP.1),(160,wI.1),(161,Cq.1),(162,zV.1),(163,BH.1),(164,Bi.1),(165,yR.1),(166,BN.1),(167,(R 17)),(168,(R 19)),(169,Es.1),(170,Hl.1),(171,pT.1),(20,pT.1),(172,pT.1),(173,rZ.1),(174,rZ.1),(175,E2.1),(176,DM.1),(177,Cu.1),(178,He.1),(179,uw.1),(180,uw.1),(181,Ea.1),(182,Hs.1),(183,lS.1),(184,lS.1),(185,DC.1),(186,Ef.1),(187,Bf.1),(188,Ey.1),(189,Cw.1),(190,EV.1),(191,EA.1),(192,BT.1),(193,EI.1),(194,wF.1),(195,xY.1),(196,DN.1),(197,B6.1),(198,Dn.1),(199,FG.1),(200,Cb.1),(201,pT.1),(202,(R 17)),(203,(R 19)),(204,IW.1),(205,J7.1),(206,G2.1),(207,JK.1),(109,(R 19)),(110,Kk.1),(19,Kk.1)]),Kk.2)))) (some (X.exit 4,(bN R [(105,(R 19)),(106,(R 17)),(107,CN.1),(108,CR.1)]),CR.2))
def fV(call:Eng.Callee)(R:Nat->ae)(W:AW):Option LT:=ak (bq 0 (R 2) W) λAB=>ak (bq 0 AB.1 AB.2) λyy=>ak (aY yy.1 yy.2) λEK=>ak (bq 0 (R 2) EK.2) λAi=>ak (bq 3 Ai.1 Ai.2) λCv=>ak (aY Cv.1 Cv.2) λCK=>ak (aD Tryz.prog .len #[22] 3 #[false] [CK.1] CK.2) λCM=>ak (az Tryz.prog .add 3 false false EK.1 CM.1 CM.2) λG1=>ak (az Tryz.prog .lss 3 false false (R 16) G1.1 G1.2) λHr=>bp Hr.1 (ak (b9 5 (R 2) Hr.2) λAz=>ak (call (cV 13) [Az.1,(R 16)] Az.2) λCO=>ak (au CO.1 0 CO.2) λFj=>ak (au CO.1 1 Fj.2) λDw=>ak (az Tryz.prog .neq 30 false true Dw.1 (.af 0) Dw.2) λza=>bp za.1 (some (X.ret,(bN R [(85,(R 16)),(86,AB.1),(87,yy.1),(88,EK.1),(89,Ai.1),(90,Cv.1),(91,CK.1),(92,CM.1),(93,G1.1),(94,Hr.1),(98,Az.1),(99,(R 16)),(100,CO.1),(97,CO.1),(101,Fj.1),(102,Dw.1),(17,Fj.1),(18,Dw.1),(103,Dw.1),(104,za.1),(4,(.bool false))]),za.2)) (ak (dP (dF call) (bN R [(85,(R 16)),(86,AB.1),(87,yy.1),(88,EK.1),(89,Ai.1),(90,Cv.1),(91,CK.1),(92,CM.1),(93,G1.1),(94,Hr.1),(98,Az.1),(99,(R 16)),(100,CO.1),(97,CO.1),(101,Fj.1),(102,Dw.1),(17,Fj.1),(18,Dw.1),(103,Dw.1),(104,za.1),(19,(.af 0))]) za.2) λyT=>eQ 4 yT.1 (ak (az Tryz.prog .add 3 false true (yT.2.1 16) (.af 1) yT.2.2) λG7=>some (X.normal,(bN yT.2.1 [(95,(yT.2.1 16)),(96,G7.1),(16,G7.1)]),G7.2)) (jG yT.1 (some (X.ret,yT.2.1,yT.2.2))))) (some (X.exit 2,(bN R [(85,(R 16)),(86,AB.1),(87,yy.1),(88,EK.1),(89,Ai.1),(90,Cv.1),(91,CK.1),(92,CM.1),(93,G1.1),(94,Hr.1)]),Hr.2))
def mq(call:Eng.Callee)(x0 x1:ae)(W:AW):Option (ae×AW):=ak (cN x0 W) λr1=>ak (b9 5 r1.1 r1.2) λr2=>ak (call (cV 6) [r2.1] r2.2) λr3=>ak (a8 (bi r3.1 false) (bq 4 r1.1 r3.2) (some (ai,r3.2))) λr4=>ak (a8 (bi r3.1 false) (aY r4.1 r4.2) (some (ai,r4.2))) λr5=>ak (a8 (bi r3.1 false) (aD Tryz.prog .len #[25] 3 #[false] [r5.1] r5.2) (some (ai,r5.2))) λr6=>ak (a8 (bi r3.1 false) (az Tryz.prog .gtr 3 false true r6.1 (.af 200) r6.2) (some (ai,r6.2))) λr7=>ak (bU r3.1 (.bool true) r7.1 r7.2) λr8=>bp r8.1 (ak (call (cV 7) [] r8.2) λr9=>aG Tryz.prog [(r9.1,none)] r9.2) (ak (b9 5 r1.1 r8.2) λcd=>ak (call (cV 8) [cd.1] cd.2) λbF=>ak (au bF.1 0 bF.2) λdr=>ak (au bF.1 1 dr.2) λcq=>ak (az Tryz.prog .neq 30 false true cq.1 (.af 0) cq.2) λdi=>bp di.1 (ak (call (cV 7) [] di.2) λbQ=>aG Tryz.prog [(bQ.1,none)] bQ.2) (ak (b9 5 r1.1 di.2) λcK=>ak (wg Tryz.prog 5 3 x1 cK.2) λcT=>ak (bq 4 r1.1 cT.2) λdC=>ak (aY dC.1 dC.2) λcL=>ak (aD Tryz.prog .len #[25] 3 #[false] [cL.1] cL.2) λdq=>ak (az Tryz.prog .add 3 false true dq.1 (.af 1) dq.2) λd9=>ak (az Tryz.prog .rem 3 false false cT.1 d9.1 d9.2) λeK=>ak (bh Tryz.prog 27 eK.2) λeP=>ak (call (cV 12) [cK.1,eK.1] eP.2) λej=>ak (au ej.1 0 ej.2) λdZ=>ak (au ej.1 1 dZ.2) λgi=>ak (cS 5 eP.1 dZ.1 gi.2) λgf=>ak (b9 5 eP.1 gf.2) λgL=>ak (call (cV 8) [gL.1] gL.2) λfz=>ak (au fz.1 0 fz.2) λie=>ak (au fz.1 1 ie.2) λgq=>ak (b9 5 r1.1 gq.2) λig=>ak (call (cV 10) [ig.1] ig.2) λeU=>ak (au eU.1 0 eU.2) λeE=>ak (au eU.1 1 eE.2) λfk=>ak (az Tryz.prog .neq 30 false true gi.1 (.af 0) fk.2) λgh=>ak (a8 (bi gh.1 false) (i8 gq.1 gh.2) (some (ai,gh.2))) λii=>ak (a8 (bi gh.1 false) (az Tryz.prog .neq 30 false true ii.1 (.af 0) ii.2) (some (ai,ii.2))) λkA=>ak (bU gh.1 (.bool true) kA.1 kA.2) λkm=>ak (a8 (bi km.1 false) (i8 fk.1 km.2) (some (ai,km.2))) λkv=>ak (a8 (bi km.1 false) (az Tryz.prog .neq 30 false true kv.1 (.af 0) kv.2) (some (ai,kv.2))) λk9=>ak (bU km.1 (.bool true) k9.1 k9.2) λlO=>bp lO.1 (aG Tryz.prog [((.bool false),none)] lO.2) (ak (dP (eC call) (bN (eD 0 [x0,x1] aj.blank) [(2,r1.1),(4,(.bool false)),(21,r2.1),(22,r3.1),(23,r3.1),(24,r4.1),(25,r5.1),(26,r6.1),(27,r7.1),(28,r8.1),(31,cd.1),(32,bF.1),(30,bF.1),(33,dr.1),(34,cq.1),(5,dr.1),(6,cq.1),(35,cq.1),(36,di.1),(39,cK.1),(40,x1),(41,cT.1),(42,dC.1),(43,cL.1),(44,dq.1),(45,d9.1),(46,eK.1),(7,eP.1),(47,ej.1),(38,ej.1),(48,dZ.1),(49,gi.1),(8,gi.1),(51,gL.1),(52,fz.1),(50,fz.1),(53,ie.1),(54,gq.1),(9,ie.1),(10,gq.1),(56,ig.1),(57,eU.1),(55,eU.1),(58,eE.1),(59,fk.1),(11,eE.1),(12,fk.1),(60,gi.1),(61,gh.1),(62,gh.1),(63,ii.1),(64,kA.1),(65,km.1),(66,km.1),(67,kv.1),(68,k9.1),(69,lO.1),(13,(.bool false)),(14,(.af 0))]) lO.2) λAM=>eQ 0 AM.1 (ak (bh Tryz.prog 48 AM.2.2) λzJ=>ak (dP (fV call) (bN AM.2.1 [(15,zJ.1),(16,(.af 0))]) zJ.2) λDF=>eQ 2 DF.1 (ak (call (cV 7) [] DF.2.2) λML=>aG Tryz.prog [(ML.1,none)] ML.2) (jG DF.1 (aG Tryz.prog [((DF.2.1 4),none)] DF.2.2))) (none))))
def pO{x0 x1:ae}{W:AW}{r:ae×AW}(h:mq bD x0 x1 W=some r):bD (.func (.func 4) #[] #[]) [x0,x1] W=some (gc W r):=b8 (nt:=209) (n:=2) (by kernel_rfl) (by kernel_rfl) rfl (aL (by kernel_rfl) h)
def jI(call:Eng.Callee)(R:Nat->ae)(W:AW):Option LT:=ak (bq 0 (R 1) W) λgi=>ak (bq 3 gi.1 gi.2) λgf=>ak (aY gf.1 gf.2) λgL=>ak (j0 3 gL.1 (R 4) gL.2) λfz=>ak (bq 1 fz.1 fz.2) λie=>ak (aY ie.1 ie.2) λgq=>ak (aD Tryz.prog .len #[64] 3 #[false] [gq.1] gq.2) λig=>ak (az Tryz.prog .lss 3 false false (R 5) ig.1 ig.2) λeU=>bp eU.1 (ak (bq 0 (R 1) eU.2) λeE=>ak (bq 3 eE.1 eE.2) λfk=>ak (aY fk.1 fk.2) λgh=>ak (j0 3 gh.1 (R 4) gh.2) λii=>ak (bq 1 ii.1 ii.2) λkA=>ak (aY kA.1 kA.2) λkm=>ak (j0 1 km.1 (R 5) km.2) λkv=>ak (aY kv.1 kv.2) λk9=>ak (aD Tryz.prog .min #[3,3] 3 #[false,true] [k9.1,(.af 100)] k9.2) λlO=>ak (aD Tryz.prog .max #[3,3] 3 #[true,false] [(.af 0),lO.1] lO.2) λj5=>ak (az Tryz.prog .add 3 false false (R 3) j5.1 j5.2) λkH=>ak (az Tryz.prog .add 3 false true (R 5) (.af 1) kH.2) λiS=>some (X.normal,(bN R [(35,(R 5)),(36,gi.1),(37,gf.1),(38,gL.1),(39,(R 4)),(40,fz.1),(41,ie.1),(42,gq.1),(43,ig.1),(44,eU.1),(47,(R 3)),(48,eE.1),(49,fk.1),(50,gh.1),(51,(R 4)),(52,ii.1),(53,kA.1),(54,km.1),(55,(R 5)),(56,kv.1),(57,k9.1),(58,lO.1),(59,j5.1),(60,kH.1),(3,kH.1),(45,(R 5)),(46,iS.1),(5,iS.1)]),iS.2)) (some (X.exit 2,(bN R [(35,(R 5)),(36,gi.1),(37,gf.1),(38,gL.1),(39,(R 4)),(40,fz.1),(41,ie.1),(42,gq.1),(43,ig.1),(44,eU.1)]),eU.2))
def j8(call:Eng.Callee)(R:Nat->ae)(W:AW):Option LT:=ak (bq 0 (R 1) W) λd9=>ak (bq 3 d9.1 d9.2) λeK=>ak (aY eK.1 eK.2) λeP=>ak (aD Tryz.prog .len #[22] 3 #[false] [eP.1] eP.2) λej=>ak (az Tryz.prog .lss 3 false false (R 4) ej.1 ej.2) λdZ=>bp dZ.1 (ak (dP (jI call) (bN R [(27,(R 4)),(28,d9.1),(29,eK.1),(30,eP.1),(31,ej.1),(32,dZ.1),(5,(.af 0))]) dZ.2) λns=>eQ 2 ns.1 (ak (az Tryz.prog .add 3 false true (ns.2.1 4) (.af 1) ns.2.2) λqs=>some (X.normal,(bN ns.2.1 [(33,(ns.2.1 4)),(34,qs.1),(4,qs.1)]),qs.2)) (none)) (some (X.exit 0,(bN R [(27,(R 4)),(28,d9.1),(29,eK.1),(30,eP.1),(31,ej.1),(32,dZ.1)]),dZ.2))
def uk(call:Eng.Callee)(x0:ae)(W:AW):Option (ae×AW):=ak (cN x0 W) λr1=>ak (bq 0 r1.1 r1.2) λr2=>ak (b9 4 r2.1 r2.2) λr3=>ak (call (cV 20) [r3.1] r3.2) λr4=>ak (a8 (bi r4.1 false) (bq 4 r1.1 r4.2) (some (ai,r4.2))) λr5=>ak (a8 (bi r4.1 false) (aY r5.1 r5.2) (some (ai,r5.2))) λr6=>ak (a8 (bi r4.1 false) (aD Tryz.prog .len #[25] 3 #[false] [r6.1] r6.2) (some (ai,r6.2))) λr7=>ak (a8 (bi r4.1 false) (az Tryz.prog .gtr 3 false true r7.1 (.af 200) r7.2) (some (ai,r7.2))) λr8=>ak (a8 (bi r4.1 false) (i8 r8.1 r8.2) (some (ai,r8.2))) λr9=>ak (a8 (bi r9.1 true) (bq 4 r1.1 r9.2) (some (ai,r9.2))) λcd=>ak (a8 (bi r9.1 true) (aY cd.1 cd.2) (some (ai,cd.2))) λbF=>ak (a8 (bi r9.1 true) (aD Tryz.prog .len #[25] 3 #[false] [bF.1] bF.2) (some (ai,bF.2))) λdr=>ak (a8 (bi r9.1 true) (az Tryz.prog .leq 3 false true dr.1 (.af 2000) dr.2) (some (ai,dr.2))) λcq=>ak (a8 (bi r4.1 false) (bU r9.1 cq.1 (.bool false) cq.2) (some (ai,cq.2))) λdi=>ak (bU r4.1 (.bool true) di.1 di.2) λbQ=>ak (a8 (bi bQ.1 false) (bq 4 r1.1 bQ.2) (some (ai,bQ.2))) λcK=>ak (a8 (bi bQ.1 false) (aY cK.1 cK.2) (some (ai,cK.2))) λcT=>ak (a8 (bi bQ.1 false) (aD Tryz.prog .len #[25] 3 #[false] [cT.1] cT.2) (some (ai,cT.2))) λdC=>ak (a8 (bi bQ.1 false) (az Tryz.prog .gtr 3 false true dC.1 (.af 2010) dC.2) (some (ai,dC.2))) λcL=>ak (bU bQ.1 (.bool true) cL.1 cL.2) λdq=>bp dq.1 (aG Tryz.prog [((.bool true),none)] dq.2) (ak (dP (j8 call) (bN (eD 0 [x0] aj.blank) [(1,r1.1),(2,(.bool false)),(6,r2.1),(7,r3.1),(8,r4.1),(9,r4.1),(10,r5.1),(11,r6.1),(12,r7.1),(13,r8.1),(14,r9.1),(15,cd.1),(16,bF.1),(17,dr.1),(18,cq.1),(19,di.1),(20,bQ.1),(21,bQ.1),(22,cK.1),(23,cT.1),(24,dC.1),(25,cL.1),(26,dq.1),(3,(.af 0)),(4,(.af 0))]) dq.2) λqD=>eQ 0 qD.1 (ak (az Tryz.prog .gtr 3 false true (qD.2.1 3) (.af 60) qD.2.2) λrD=>aG Tryz.prog [(rD.1,none)] rD.2) (none))
def Bv{x0:ae}{W:AW}{r:ae×AW}(h:uk bD x0 W=some r):bD (.func (.func 6) #[] #[]) [x0] W=some (gc W r):=b8 (nt:=63) (n:=1) (by kernel_rfl) (by kernel_rfl) rfl (aL (by kernel_rfl) h)
def sI(call:Eng.Callee)(x0:ae)(W:AW):Option (ae×AW):=ak (cN x0 W) λr1=>ak (b9 5 r1.1 r1.2) λr2=>ak (call (cV 24) [r2.1] r2.2) λr3=>ak (au r3.1 0 r3.2) λr4=>ak (au r3.1 1 r4.2) λr5=>ak (au r3.1 2 r5.2) λr6=>aG Tryz.prog [(r5.1,none),(r6.1,none)] r6.2
def ww{x0:ae}{W:AW}{r:ae×AW}(h:sI bD x0 W=some r):bD (.func (.func 8) #[] #[]) [x0] W=some (gc W r):=b8 (nt:=12) (n:=1) (by kernel_rfl) (by kernel_rfl) rfl (aL (by kernel_rfl) h)
def nF(call:Eng.Callee)(x0:ae)(W:AW):Option (ae×AW):=ak (cN x0 W) λr1=>ak (b9 5 r1.1 r1.2) λr2=>ak (call (cV 24) [r2.1] r2.2) λr3=>ak (au r3.1 0 r3.2) λr4=>ak (au r3.1 1 r4.2) λr5=>ak (au r3.1 2 r5.2) λr6=>ak (az Tryz.prog .neq 30 false true r6.1 (.af 0) r6.2) λr7=>bp r7.1 (aG Tryz.prog [((.slice none 0 0),none),(r6.1,none)] r7.2) (ak (aR r4.1 r7.2) λr8=>ak (bq 5 r8.1 r8.2) λr9=>ak (aY r9.1 r9.2) λcd=>aG Tryz.prog [(cd.1,none),((.af 0),none)] cd.2)
def wz{x0:ae}{W:AW}{r:ae×AW}(h:nF bD x0 W=some r):bD (.func (.func 10) #[] #[]) [x0] W=some (gc W r):=b8 (nt:=20) (n:=1) (by kernel_rfl) (by kernel_rfl) rfl (aL (by kernel_rfl) h)
def x8(call:Eng.Callee)(x0 x1:ae)(W:AW):Option (ae×AW):=ak (cN x0 W) λr1=>ak (bh Tryz.prog 27 r1.2) λr2=>ak (b9 5 r1.1 r2.2) λr3=>ak (call (cV 8) [r3.1] r3.2) λr4=>ak (au r4.1 0 r4.2) λr5=>ak (au r4.1 1 r5.2) λr6=>ak (az Tryz.prog .neq 30 false true r6.1 (.af 0) r6.2) λr7=>bp r7.1 (ak (cn Tryz.prog 27 [] r7.2) λr8=>ak (cS 5 r2.1 r8.1 r8.2) λr9=>aG Tryz.prog [(r2.1,some 27),(r6.1,none)] r9.2) (ak (az Tryz.prog .lss 3 false true x1 (.af 0) r7.2) λcd=>ak (a8 (bi cd.1 false) (i8 x1 cd.2) (some (ai,cd.2))) λbF=>ak (a8 (bi cd.1 false) (bq 4 r1.1 bF.2) (some (ai,bF.2))) λdr=>ak (a8 (bi cd.1 false) (aY dr.1 dr.2) (some (ai,dr.2))) λcq=>ak (a8 (bi cd.1 false) (aD Tryz.prog .len #[25] 3 #[false] [cq.1] cq.2) (some (ai,cq.2))) λdi=>ak (a8 (bi cd.1 false) (az Tryz.prog .gtr 3 false false bF.1 di.1 di.2) (some (ai,di.2))) λbQ=>ak (bU cd.1 (.bool true) bQ.1 bQ.2) λcK=>bp cK.1 (ak (cn Tryz.prog 27 [] cK.2) λcT=>ak (cS 5 r2.1 cT.1 cT.2) λdC=>aG Tryz.prog [(r2.1,some 27),((.af 7),none)] dC.2) (ak (bq 0 r1.1 cK.2) λcL=>ak (b9 4 cL.1 cL.2) λdq=>ak (bq 4 r1.1 dq.2) λd9=>ak (aY d9.1 d9.2) λeK=>ak (dX Tryz.prog 25 eK.1 none (some x1) none eK.2) λeP=>ak (call (cV 26) [dq.1] eP.2) λej=>a8 (Oy true (aY d9.1 ej.2) eK.1&&true) (ak (call (cV 27) [eP.1] ej.2) λdZ=>ak (cn Tryz.prog 27 [(0,ej.1),(1,dZ.1)] dZ.2) λgi=>ak (cS 5 r2.1 gi.1 gi.2) λgf=>aG Tryz.prog [(r2.1,some 27),((.af 0),none)] gf.2) none))
def zH{x0 x1:ae}{W:AW}{r:ae×AW}(h:x8 bD x0 x1 W=some r):bD (.func (.func 12) #[] #[]) [x0,x1] W=some (gc W r):=b8 (nt:=36) (n:=2) (by kernel_rfl) (by kernel_rfl) rfl (aL (by kernel_rfl) h)
def lC(call:Eng.Callee)(R:Nat->ae)(W:AW):Option LT:=ak (az Tryz.prog .lss 3 false false (R 36) (R 35) W) λeK=>bp eK.1 (ak (j0 31 (R 34) (R 36) eK.2) λeP=>ak (b9 31 eP.1 eP.2) λej=>ak (bh Tryz.prog 98 ej.2) λdZ=>ak (cS 31 dZ.1 ej.1 dZ.2) λgi=>ak (bq 0 dZ.1 gi.2) λgf=>ak (aY gf.1 gf.2) λgL=>ak (az Tryz.prog .eql 3 false true gL.1 (.af 2) gL.2) λfz=>ak (a8 (bi fz.1 true) (bq 4 dZ.1 fz.2) (some (ai,fz.2))) λie=>ak (a8 (bi fz.1 true) (aY ie.1 ie.2) (some (ai,ie.2))) λgq=>ak (a8 (bi fz.1 true) (i8 (R 1) gq.2) (some (ai,gq.2))) λig=>ak (a8 (bi fz.1 true) (az Tryz.prog .eql 3 false false gq.1 ig.1 ig.2) (some (ai,ig.2))) λeU=>ak (bU fz.1 eU.1 (.bool false) eU.2) λeE=>bp eE.1 (ak (bq 3 dZ.1 eE.2) λfk=>ak (aY fk.1 fk.2) λgh=>ak (bq 1 dZ.1 gh.2) λii=>ak (aY ii.1 ii.2) λkA=>ak (cn Tryz.prog 53 [(0,gh.1),(1,kA.1),(2,(.af (-1)))] kA.2) λkm=>ak (aC Tryz.prog 49 1 [(0,km.1)] km.2) λkv=>ak (aN Tryz.prog kv.2 #[49,49] (R 8) kv.1) λk9=>ak (az Tryz.prog .add 3 false true (R 36) (.af 1) k9.2) λlO=>some (X.normal,(bN R [(37,eK.1),(38,eP.1),(39,ej.1),(10,dZ.1),(41,gf.1),(42,gL.1),(43,fz.1),(44,fz.1),(45,ie.1),(46,gq.1),(47,ig.1),(48,eU.1),(49,eE.1),(40,eE.1),(50,(R 8)),(51,fk.1),(52,gh.1),(53,ii.1),(54,kA.1),(55,km.1),(56,kv.1),(57,k9.1),(8,k9.1),(76,lO.1),(36,lO.1)]),lO.2)) (ak (bq 0 dZ.1 eE.2) λj5=>ak (aY j5.1 j5.2) λkH=>ak (az Tryz.prog .eql 3 false true kH.1 (.af 4) kH.2) λiS=>ak (a8 (bi iS.1 true) (bq 4 dZ.1 iS.2) (some (ai,iS.2))) λns=>ak (a8 (bi iS.1 true) (aY ns.1 ns.2) (some (ai,ns.2))) λqs=>ak (a8 (bi iS.1 true) (i8 (R 1) qs.2) (some (ai,qs.2))) λqD=>ak (a8 (bi iS.1 true) (az Tryz.prog .eql 3 false false qs.1 qD.1 qD.2) (some (ai,qD.2))) λrD=>ak (bU iS.1 rD.1 (.bool false) rD.2) λrB=>bp rB.1 (ak (aD Tryz.prog .len #[49] 3 #[false] [(R 8)] rB.2) λtd=>ak (az Tryz.prog .sub 3 false true td.1 (.af 1) td.2) λzM=>ak (bq 1 dZ.1 zM.2) λAM=>ak (aY AM.1 AM.2) λzJ=>ak (j0 3 (R 8) zM.1 zJ.2) λAB=>ak (bq 2 AB.1 AB.2) λyy=>ak (cS 1 yy.1 zJ.1 yy.2) λEK=>ak (az Tryz.prog .add 3 false true (R 36) (.af 1) EK.2) λAi=>some (X.normal,(bN R [(37,eK.1),(38,eP.1),(39,ej.1),(10,dZ.1),(41,gf.1),(42,gL.1),(43,fz.1),(44,fz.1),(45,ie.1),(46,gq.1),(47,ig.1),(48,eU.1),(49,eE.1),(40,eE.1),(59,j5.1),(60,kH.1),(61,iS.1),(62,iS.1),(63,ns.1),(64,qs.1),(65,qD.1),(66,rD.1),(67,rB.1),(58,rB.1),(68,(R 8)),(69,(R 8)),(70,td.1),(71,zM.1),(72,AM.1),(73,zJ.1),(74,AB.1),(75,yy.1),(76,Ai.1),(36,Ai.1)]),Ai.2)) (ak (az Tryz.prog .add 3 false true (R 36) (.af 1) rB.2) λCv=>some (X.normal,(bN R [(37,eK.1),(38,eP.1),(39,ej.1),(10,dZ.1),(41,gf.1),(42,gL.1),(43,fz.1),(44,fz.1),(45,ie.1),(46,gq.1),(47,ig.1),(48,eU.1),(49,eE.1),(40,eE.1),(59,j5.1),(60,kH.1),(61,iS.1),(62,iS.1),(63,ns.1),(64,qs.1),(65,qD.1),(66,rD.1),(67,rB.1),(58,rB.1),(76,Cv.1),(36,Cv.1)]),Cv.2)))) (some (X.exit 0,(dw R (some 37) eK.1),eK.2))
def wb(call:Eng.Callee)(x0 x1:ae)(W:AW):Option (ae×AW):=ak (cN x0 W) λr1=>ak (b9 5 r1.1 r1.2) λr2=>ak (call (cV 8) [r2.1] r2.2) λr3=>ak (au r3.1 0 r3.2) λr4=>ak (au r3.1 1 r4.2) λr5=>ak (az Tryz.prog .neq 30 false true r5.1 (.af 0) r5.2) λr6=>bp r6.1 (aG Tryz.prog [((.slice none 0 0),none),(r5.1,none)] r6.2) (ak (az Tryz.prog .lss 3 false true x1 (.af 0) r6.2) λr7=>ak (a8 (bi r7.1 false) (i8 x1 r7.2) (some (ai,r7.2))) λr8=>ak (a8 (bi r7.1 false) (bq 0 r1.1 r8.2) (some (ai,r8.2))) λr9=>ak (a8 (bi r7.1 false) (bq 0 r9.1 r9.2) (some (ai,r9.2))) λcd=>ak (a8 (bi r7.1 false) (aY cd.1 cd.2) (some (ai,cd.2))) λbF=>ak (a8 (bi r7.1 false) (bq 0 r1.1 bF.2) (some (ai,bF.2))) λdr=>ak (a8 (bi r7.1 false) (bq 3 dr.1 dr.2) (some (ai,dr.2))) λcq=>ak (a8 (bi r7.1 false) (aY cq.1 cq.2) (some (ai,cq.2))) λdi=>ak (a8 (bi r7.1 false) (aD Tryz.prog .len #[22] 3 #[false] [di.1] di.2) (some (ai,di.2))) λbQ=>ak (a8 (bi r7.1 false) (az Tryz.prog .add 3 false false bF.1 bQ.1 bQ.2) (some (ai,bQ.2))) λcK=>ak (a8 (bi r7.1 false) (az Tryz.prog .geq 3 false false r8.1 cK.1 cK.2) (some (ai,cK.2))) λcT=>ak (bU r7.1 (.bool true) cT.1 cT.2) λdC=>bp dC.1 (aG Tryz.prog [((.slice none 0 0),none),((.af 4),none)] dC.2) (ak (bq 4 r1.1 dC.2) λcL=>ak (aY cL.1 cL.2) λdq=>ak (aD Tryz.prog .len #[25] 3 #[false] [dq.1] dq.2) λd9=>ak (dP (lC call) (bN (eD 0 [x0,x1] aj.blank) [(2,r1.1),(4,(.slice none 0 0)),(5,(.af 0)),(12,r2.1),(13,r3.1),(11,r3.1),(14,r4.1),(15,r5.1),(6,r4.1),(7,r5.1),(16,r5.1),(17,r6.1),(19,x1),(20,r7.1),(21,r7.1),(22,r8.1),(23,r9.1),(24,cd.1),(25,bF.1),(26,dr.1),(27,cq.1),(28,di.1),(29,bQ.1),(30,cK.1),(31,cT.1),(32,dC.1),(8,(.slice none 0 0)),(33,cL.1),(34,dq.1),(35,d9.1),(36,(.af 0))]) d9.2) λCK=>eQ 0 CK.1 (aG Tryz.prog [((CK.2.1 8),none),((.af 0),none)] CK.2.2) (none)))
def xO{x0 x1:ae}{W:AW}{r:ae×AW}(h:wb bD x0 x1 W=some r):bD (.func (.func 13) #[] #[]) [x0,x1] W=some (gc W r):=b8 (nt:=78) (n:=2) (by kernel_rfl) (by kernel_rfl) rfl (aL (by kernel_rfl) h)
def jR(call:Eng.Callee)(R:Nat->ae)(W:AW):Option LT:=ak (bq 1 (R 5) W) λdZ=>ak (aY dZ.1 dZ.2) λgi=>ak (aD Tryz.prog .len #[64] 3 #[false] [gi.1] gi.2) λgf=>ak (az Tryz.prog .lss 3 false false (R 6) gf.1 gf.2) λgL=>bp gL.1 (ak (bq 1 (R 5) gL.2) λfz=>ak (aY fz.1 fz.2) λie=>ak (j0 1 ie.1 (R 6) ie.2) λgq=>ak (aY gq.1 gq.2) λig=>ak (az Tryz.prog .gtr 3 false true ig.1 (.af 0) ig.2) λeU=>ak (a8 (bi eU.1 true) (bq 1 (R 5) eU.2) (some (ai,eU.2))) λeE=>ak (a8 (bi eU.1 true) (aY eE.1 eE.2) (some (ai,eE.2))) λfk=>ak (a8 (bi eU.1 true) (i8 (R 6) fk.2) (some (ai,fk.2))) λgh=>ak (a8 (bi eU.1 true) (j0 1 fk.1 gh.1 gh.2) (some (ai,gh.2))) λii=>ak (a8 (bi eU.1 true) (aY ii.1 ii.2) (some (ai,ii.2))) λkA=>ak (a8 (bi eU.1 true) (az Tryz.prog .leq 3 false true kA.1 (.af 100) kA.2) (some (ai,kA.2))) λkm=>ak (bU eU.1 km.1 (.bool false) km.2) λkv=>bp kv.1 (ak (bq 1 (R 5) kv.2) λk9=>ak (aY k9.1 k9.2) λlO=>ak (j0 1 lO.1 (R 6) lO.2) λj5=>ak (aY j5.1 j5.2) λkH=>ak (az Tryz.prog .add 3 false false (R 3) kH.1 kH.2) λiS=>ak (az Tryz.prog .add 3 false true (R 6) (.af 1) iS.2) λns=>some (X.normal,(bN R [(33,(R 6)),(34,dZ.1),(35,gi.1),(36,gf.1),(37,gL.1),(40,fz.1),(41,ie.1),(42,(R 6)),(43,gq.1),(44,ig.1),(45,eU.1),(46,eU.1),(47,eE.1),(48,fk.1),(49,gh.1),(50,ii.1),(51,kA.1),(52,km.1),(53,kv.1),(54,(R 3)),(55,k9.1),(56,lO.1),(57,(R 6)),(58,j5.1),(59,kH.1),(60,iS.1),(3,iS.1),(38,(R 6)),(39,ns.1),(6,ns.1)]),ns.2)) (ak (az Tryz.prog .add 3 false true (R 6) (.af 1) kv.2) λqs=>some (X.normal,(bN R [(33,(R 6)),(34,dZ.1),(35,gi.1),(36,gf.1),(37,gL.1),(40,fz.1),(41,ie.1),(42,(R 6)),(43,gq.1),(44,ig.1),(45,eU.1),(46,eU.1),(47,eE.1),(48,fk.1),(49,gh.1),(50,ii.1),(51,kA.1),(52,km.1),(53,kv.1),(38,(R 6)),(39,qs.1),(6,qs.1)]),qs.2))) (some (X.exit 2,(bN R [(33,(R 6)),(34,dZ.1),(35,gi.1),(36,gf.1),(37,gL.1)]),gL.2))
def nM(call:Eng.Callee)(R:Nat->ae)(W:AW):Option LT:=ak (bq 3 (R 1) W) λr6=>ak (aY r6.1 r6.2) λr7=>ak (aD Tryz.prog .len #[22] 3 #[false] [r7.1] r7.2) λr8=>ak (az Tryz.prog .lss 3 false false (R 4) r8.1 r8.2) λr9=>bp r9.1 (ak (bq 3 (R 1) r9.2) λcd=>ak (aY cd.1 cd.2) λbF=>ak (j0 3 bF.1 (R 4) bF.2) λdr=>ak (b9 3 dr.1 dr.2) λcq=>ak (bh Tryz.prog 66 cq.2) λdi=>ak (cS 3 di.1 cq.1 di.2) λbQ=>ak (bq 1 di.1 bQ.2) λcK=>ak (aY cK.1 cK.2) λcT=>ak (aD Tryz.prog .len #[64] 3 #[false] [cT.1] cT.2) λdC=>ak (az Tryz.prog .gtr 3 false true dC.1 (.af 20) dC.2) λcL=>ak (a8 (bi cL.1 false) (bq 0 di.1 cL.2) (some (ai,cL.2))) λdq=>ak (a8 (bi cL.1 false) (aY dq.1 dq.2) (some (ai,dq.2))) λd9=>ak (a8 (bi cL.1 false) (aD Tryz.prog .len #[9] 3 #[false] [d9.1] d9.2) (some (ai,d9.2))) λeK=>ak (a8 (bi cL.1 false) (az Tryz.prog .gtr 3 false true eK.1 (.af 100) eK.2) (some (ai,eK.2))) λeP=>ak (bU cL.1 (.bool true) eP.1 eP.2) λej=>bp ej.1 (some (X.ret,(bN R [(11,(R 4)),(12,r6.1),(13,r7.1),(14,r8.1),(15,r9.1),(18,cd.1),(19,bF.1),(20,(R 4)),(21,dr.1),(22,cq.1),(5,di.1),(23,cK.1),(24,cT.1),(25,dC.1),(26,cL.1),(27,cL.1),(28,dq.1),(29,d9.1),(30,eK.1),(31,eP.1),(32,ej.1),(2,(.bool true))]),ej.2)) (ak (dP (jR call) (bN R [(11,(R 4)),(12,r6.1),(13,r7.1),(14,r8.1),(15,r9.1),(18,cd.1),(19,bF.1),(20,(R 4)),(21,dr.1),(22,cq.1),(5,di.1),(23,cK.1),(24,cT.1),(25,dC.1),(26,cL.1),(27,cL.1),(28,dq.1),(29,d9.1),(30,eK.1),(31,eP.1),(32,ej.1),(6,(.af 0))]) ej.2) λqD=>eQ 2 qD.1 (ak (az Tryz.prog .add 3 false true (qD.2.1 4) (.af 1) qD.2.2) λrD=>some (X.normal,(bN qD.2.1 [(16,(qD.2.1 4)),(17,rD.1),(4,rD.1)]),rD.2)) (none))) (some (X.exit 0,(bN R [(11,(R 4)),(12,r6.1),(13,r7.1),(14,r8.1),(15,r9.1)]),r9.2))
def uH(call:Eng.Callee)(x0:ae)(W:AW):Option (ae×AW):=ak (cN x0 W) λr1=>ak (bq 3 r1.1 r1.2) λr2=>ak (aY r2.1 r2.2) λr3=>ak (aD Tryz.prog .len #[22] 3 #[false] [r3.1] r3.2) λr4=>ak (az Tryz.prog .gtr 3 false true r4.1 (.af 10) r4.2) λr5=>bp r5.1 (aG Tryz.prog [((.bool true),none)] r5.2) (ak (dP (nM call) (bN (eD 0 [x0] aj.blank) [(1,r1.1),(2,(.bool false)),(7,r2.1),(8,r3.1),(9,r4.1),(10,r5.1),(3,(.af 0)),(4,(.af 0))]) r5.2) λrB=>eQ 0 rB.1 (ak (az Tryz.prog .gtr 3 false true (rB.2.1 3) (.af 200) rB.2.2) λtd=>aG Tryz.prog [(td.1,none)] td.2) (jG rB.1 (aG Tryz.prog [((rB.2.1 2),none)] rB.2.2)))
def AX{x0:ae}{W:AW}{r:ae×AW}(h:uH bD x0 W=some r):bD (.func (.func 20) #[] #[]) [x0] W=some (gc W r):=b8 (nt:=63) (n:=1) (by kernel_rfl) (by kernel_rfl) rfl (aL (by kernel_rfl) h)
def fQ(call:Eng.Callee)(JR:Nat->ae)(J9 Y8 J37:ae)(W:AW):Option LT:=ak (az Tryz.prog .neq 30 false true Y8 (.af 0) W) λfk=>bp fk.1 (some (X.ret,(bN JR [(58,Y8),(59,fk.1),(60,J9),(61,Y8),(2,(.pointer none)),(3,J9),(4,Y8)]),fk.2)) (ak (az Tryz.prog .add 3 false true J37 (.af 1) fk.2) λgh=>some (X.normal,(bN JR [(58,Y8),(59,fk.1),(62,gh.1),(37,gh.1)]),gh.2))
def iI(call:Eng.Callee)(R:Nat->ae)(W:AW):Option LT:=ak (az Tryz.prog .lss 3 false false (R 37) (R 36) W) λdZ=>bp dZ.1 (ak (j0 31 (R 35) (R 37) dZ.2) λgi=>ak (b9 31 gi.1 gi.2) λgf=>ak (bh Tryz.prog 98 gf.2) λgL=>ak (cS 31 gL.1 gf.1 gL.2) λfz=>ak (aR (R 7) fz.2) λie=>ak (bq 10 ie.1 ie.2) λgq=>ak (cS 1 gq.1 (R 37) gq.2) λig=>ak (b9 31 gL.1 ig.2) λeU=>ak (call (cV 35) [(R 7),eU.1] eU.2) λeE=>ak (az Tryz.prog .eql 30 false true eE.1 (.af 0) eE.2) λii=>bp ii.1 (ak (bq 0 gL.1 ii.2) λkA=>ak (aY kA.1 kA.2) λkm=>ak (Ik 7 1 (R 8) km.1 km.2) λkv=>ak (aY kv.1 kv.2) λk9=>ak (b9 31 gL.1 k9.2) λlO=>ak (call k9.1 [(R 7),lO.1] lO.2) λj5=>fQ call (bN R [(38,dZ.1),(39,(R 37)),(40,gi.1),(41,gf.1),(10,gL.1),(9,(R 37)),(42,(R 7)),(43,(R 37)),(44,ie.1),(45,gq.1),(46,(R 7)),(47,eU.1),(48,eE.1),(11,eE.1),(49,eE.1),(50,ii.1),(51,kA.1),(52,km.1),(53,kv.1),(54,k9.1),(55,(R 7)),(56,lO.1),(57,j5.1),(11,j5.1)]) (R 37) j5.1 (R 37) j5.2) (fQ call (bN R [(38,dZ.1),(39,(R 37)),(40,gi.1),(41,gf.1),(10,gL.1),(9,(R 37)),(42,(R 7)),(43,(R 37)),(44,ie.1),(45,gq.1),(46,(R 7)),(47,eU.1),(48,eE.1),(11,eE.1),(49,eE.1),(50,ii.1)]) (R 37) eE.1 (R 37) ii.2)) (some (X.exit 0,(dw R (some 38) dZ.1),dZ.2))
def px(call:Eng.Callee)(x0:ae)(W:AW):Option (ae×AW):=ak (cN x0 W) λr1=>ak (bq 0 r1.1 r1.2) λr2=>ak (b9 4 r2.1 r2.2) λr3=>ak (call (cV 33) [r3.1] r3.2) λr4=>ak (au r4.1 0 r4.2) λr5=>ak (au r4.1 1 r5.2) λr6=>ak (az Tryz.prog .neq 30 false true r6.1 (.af 0) r6.2) λr7=>bp r7.1 (aG Tryz.prog [((.pointer none),none),((.af (-1)),none),(r6.1,none)] r7.2) (ak (bq 4 r1.1 r7.2) λr8=>ak (aY r8.1 r8.2) λr9=>ak (aD Tryz.prog .len #[25] 3 #[false] [r9.1] r9.2) λcd=>ak (az Tryz.prog .gtr 3 false true cd.1 (.af 2000) cd.2) λbF=>bp bF.1 (aG Tryz.prog [((.pointer none),none),((.af (-1)),none),((.af 3),none)] bF.2) (ak (b9 5 r1.1 bF.2) λdr=>ak (kI Tryz.prog 91 none dr.2) λcq=>ak (kI Tryz.prog 92 none cq.2) λdi=>ak (cn Tryz.prog 94 [(0,dr.1),(2,cq.1),(3,di.1),(5,(.af (-1)))] di.2) λbQ=>ak (cN bQ.1 bQ.2) λcK=>ak (call (cV 34) [] cK.2) λcT=>ak (bh Tryz.prog 110 cT.2) λdC=>ak (cS 7 dC.1 cT.1 dC.2) λcL=>ak (aR cK.1 cL.2) λdq=>ak (bq 0 dq.1 dq.2) λd9=>ak (bq 4 d9.1 d9.2) λeK=>ak (aY eK.1 eK.2) λeP=>ak (aD Tryz.prog .len #[25] 3 #[false] [eP.1] eP.2) λej=>ak (dP (iI call) (bN (eD 0 [x0] aj.blank) [(1,r1.1),(2,(.pointer none)),(3,(.af 0)),(4,(.af 0)),(13,r2.1),(14,r3.1),(15,r4.1),(12,r4.1),(16,r5.1),(17,r6.1),(5,r5.1),(6,r6.1),(18,r6.1),(19,r7.1),(21,r8.1),(22,r9.1),(23,cd.1),(24,bF.1),(25,dr.1),(26,cq.1),(27,di.1),(28,bQ.1),(29,cK.1),(7,cK.1),(30,cT.1),(8,dC.1),(31,cK.1),(32,dq.1),(33,d9.1),(34,eK.1),(35,eP.1),(36,ej.1),(37,(.af 0))]) ej.2) λkH=>eQ 0 kH.1 (aG Tryz.prog [((kH.2.1 7),none),((.af 0),none),((.af 0),none)] kH.2.2) (jG kH.1 (aG Tryz.prog [((kH.2.1 2),none),((kH.2.1 3),none),((kH.2.1 4),none)] kH.2.2))))
def zu{x0:ae}{W:AW}{r:ae×AW}(h:px bD x0 W=some r):bD (.func (.func 24) #[] #[]) [x0] W=some (gc W r):=b8 (nt:=64) (n:=1) (by kernel_rfl) (by kernel_rfl) rfl (aL (by kernel_rfl) h)
def jT(call:Eng.Callee)(R:Nat->ae)(W:AW):Option LT:=ak (az Tryz.prog .lss 3 false false (R 11) (R 10) W) λbF=>bp bF.1 (ak (bq 3 (R 1) bF.2) λdr=>ak (aY dr.1 dr.2) λcq=>ak (bq 3 (R 1) cq.2) λdi=>ak (aY di.1 di.2) λbQ=>ak (j0 3 bQ.1 (R 11) bQ.2) λcK=>ak (bq 1 cK.1 cK.2) λcT=>ak (aY cT.1 cT.2) λdC=>ak (call (cV 40) [dC.1] dC.2) λcL=>a8 (Oy true (aY dr.1 cL.2) cq.1&&true) (ak (j0 3 cq.1 (R 11) cL.2) λdq=>ak (bq 1 dq.1 dq.2) λd9=>ak (cS 1 d9.1 cL.1 d9.2) λeK=>ak (az Tryz.prog .add 3 false true (R 11) (.af 1) eK.2) λeP=>some (X.normal,(bN R [(12,bF.1),(13,(R 11)),(3,(R 11)),(14,dr.1),(15,cq.1),(16,(R 11)),(17,di.1),(18,bQ.1),(19,(R 11)),(20,cK.1),(21,cT.1),(22,dC.1),(23,cL.1),(24,dq.1),(25,d9.1),(26,eP.1),(11,eP.1)]),eP.2)) none) (some (X.exit 0,(dw R (some 12) bF.1),bF.2))
def sQ(call:Eng.Callee)(x0:ae)(W:AW):Option (ae×AW):=ak (cN x0 W) λr1=>ak (bh Tryz.prog 24 r1.2) λr2=>ak (bq 3 r1.1 r2.2) λr3=>ak (aY r3.1 r3.2) λr4=>ak (call (cV 39) [r4.1] r4.2) λr5=>ak (bq 3 r1.1 r5.2) λr6=>ak (cS 1 r6.1 r5.1 r6.2) λr7=>ak (bq 3 r1.1 r7.2) λr8=>ak (aY r8.1 r8.2) λr9=>ak (aD Tryz.prog .len #[22] 3 #[false] [r9.1] r9.2) λcd=>ak (dP (jT call) (bN (eD 0 [x0] aj.blank) [(1,r1.1),(2,r2.1),(4,r3.1),(5,r4.1),(6,r5.1),(7,r6.1),(8,r8.1),(9,r9.1),(10,cd.1),(11,(.af 0))]) cd.2) λej=>eQ 0 ej.1 (ak (b9 4 (ej.2.1 1) ej.2.2) λdZ=>ak (cS 4 (ej.2.1 2) dZ.1 dZ.2) λgi=>aG Tryz.prog [((ej.2.1 2),some 24)] gi.2) (none)
def wn{x0:ae}{W:AW}{r:ae×AW}(h:sQ bD x0 W=some r):bD (.func (.func 26) #[] #[]) [x0] W=some (gc W r):=b8 (nt:=28) (n:=1) (by kernel_rfl) (by kernel_rfl) rfl (aL (by kernel_rfl) h)
def dS(call:Eng.Callee)(x0:ae)(W:AW):Option (ae×AW):=ak (az Tryz.prog .eql 25 false true x0 (.slice none 0 0) W) λr1=>bp r1.1 (aG Tryz.prog [((.slice none 0 0),none)] r1.2) (ak (aC Tryz.prog 25 0 [] r1.2) λr2=>ak (aN Tryz.prog r2.2 #[25,25] r2.1 x0) λr3=>aG Tryz.prog [(r3.1,none)] r3.2)
def gl{x0:ae}{W:AW}{r:ae×AW}(h:dS bD x0 W=some r):bD (.func (.func 27) #[] #[]) [x0] W=some (gc W r):=b8 (nt:=8) (n:=1) (by kernel_rfl) (by kernel_rfl) rfl (aL (by kernel_rfl) h)
def nC(call:Eng.Callee)(W:AW):Option (ae×AW):=ak (bh Tryz.prog 110 W) λr1=>ak (cn Tryz.prog 110 [(0,.nilFunc),(1,(cV 48)),(2,(cV 49)),(3,(cV 50)),(4,(cV 51)),(5,(cV 52)),(6,(cV 53))] r1.2) λr2=>ak (cS 7 r1.1 r2.1 r2.2) λr3=>aG Tryz.prog [(r1.1,some 110)] r3.2
def wt{W:AW}{r:ae×AW}(h:nC bD W=some r):bD (.func (.func 34) #[] #[]) [] W=some (gc W r):=b8 (nt:=2) (n:=0) (by kernel_rfl) (by kernel_rfl) rfl (aL (by kernel_rfl) h)
def eI(call:Eng.Callee)(J0 J3:ae)(W:AW):Option (ae×AW):=ak (aR J0 W) λCK=>ak (bq 6 CK.1 CK.2) λCM=>ak (aY CM.1 CM.2) λG1=>ak (bq 2 J3 G1.2) λHr=>ak (aY Hr.1 Hr.2) λAz=>ak (fO Tryz.prog 91 G1.1 Az.1 false Az.2) λCO=>ak (bq 0 J3 CO.2) λFj=>ak (aY Fj.1 Fj.2) λDw=>ak (az Tryz.prog .neq 3 false true Dw.1 (.af 1) Dw.2) λza=>ak (a8 (bi za.1 true) (i8 CO.1 za.2) (some (ai,za.2))) λCN=>ak (a8 (bi za.1 true) (az Tryz.prog .eql 123 false true CN.1 (.pointer none) CN.2) (some (ai,CN.2))) λCR=>ak (a8 (bi za.1 true) (i8 CR.1 CR.2) (some (ai,CR.2))) λtD=>ak (a8 (bi tD.1 false) (i8 J0 tD.2) (some (ai,tD.2))) λzx=>ak (a8 (bi tD.1 false) (aR zx.1 zx.2) (some (ai,zx.2))) λFi=>ak (a8 (bi tD.1 false) (bq 5 Fi.1 Fi.2) (some (ai,Fi.2))) λue=>ak (a8 (bi tD.1 false) (aY ue.1 ue.2) (some (ai,ue.2))) λFt=>ak (a8 (bi tD.1 false) (i8 CO.1 Ft.2) (some (ai,Ft.2))) λDy=>ak (a8 (bi tD.1 false) (aR Dy.1 Dy.2) (some (ai,Dy.2))) λEm=>ak (a8 (bi tD.1 false) (bq 0 Em.1 Em.2) (some (ai,Em.2))) λFk=>ak (a8 (bi tD.1 false) (aY Fk.1 Fk.2) (some (ai,Fk.2))) λHa=>ak (a8 (bi tD.1 false) (j0 26 Ft.1 Ha.1 Ha.2) (some (ai,Ha.2))) λFg=>ak (a8 (bi tD.1 false) (bq 0 Fg.1 Fg.2) (some (ai,Fg.2))) λI2=>ak (a8 (bi tD.1 false) (aY I2.1 I2.2) (some (ai,I2.2))) λIq=>ak (a8 (bi tD.1 false) (bq 3 J3 Iq.2) (some (ai,Iq.2))) λKW=>ak (a8 (bi tD.1 false) (aY KW.1 KW.2) (some (ai,KW.2))) λxf=>ak (a8 (bi tD.1 false) (az Tryz.prog .neq 3 false false Iq.1 xf.1 xf.2) (some (ai,xf.2))) λH4=>ak (a8 (bi za.1 true) (bU tD.1 (.bool true) H4.1 H4.2) (some (ai,H4.2))) λKY=>ak (bU za.1 KY.1 (.bool false) KY.2) λKc=>bp Kc.1 (aG Tryz.prog [((.af 4),none)] Kc.2) (aG Tryz.prog [((.af 0),none)] Kc.2)
def bT(call:Eng.Callee)(J0 J3 J5 J6:ae)(W:AW):Option (ae×AW):=ak (b9 31 J3 W) λdq=>ak (b9 31 J5 dq.2) λd9=>ak (az Tryz.prog .neq 98 false false dq.1 d9.1 d9.2) λeK=>bp eK.1 (aG Tryz.prog [((.af 2),none)] eK.2) (ak (bq 1 J3 eK.2) λeP=>ak (aY eP.1 eP.2) λej=>ak (az Tryz.prog .lss 3 false true ej.1 (.af 0) ej.2) λdZ=>ak (a8 (bi dZ.1 false) (bq 1 J3 dZ.2) (some (ai,dZ.2))) λgi=>ak (a8 (bi dZ.1 false) (aY gi.1 gi.2) (some (ai,gi.2))) λgf=>ak (a8 (bi dZ.1 false) (az Tryz.prog .gtr 3 false true gf.1 (.af 1000000000) gf.2) (some (ai,gf.2))) λgL=>ak (bU dZ.1 (.bool true) gL.1 gL.2) λfz=>ak (a8 (bi fz.1 false) (bq 2 J3 fz.2) (some (ai,fz.2))) λie=>ak (a8 (bi fz.1 false) (aY ie.1 ie.2) (some (ai,ie.2))) λgq=>ak (a8 (bi fz.1 false) (az Tryz.prog .lss 3 false true gq.1 (.af 1) gq.2) (some (ai,gq.2))) λig=>ak (bU fz.1 (.bool true) ig.1 ig.2) λeU=>ak (a8 (bi eU.1 false) (bq 2 J3 eU.2) (some (ai,eU.2))) λeE=>ak (a8 (bi eU.1 false) (aY eE.1 eE.2) (some (ai,eE.2))) λfk=>ak (a8 (bi eU.1 false) (az Tryz.prog .gtr 3 false true fk.1 (.af 64) fk.2) (some (ai,fk.2))) λgh=>ak (bU eU.1 (.bool true) gh.1 gh.2) λii=>bp ii.1 (aG Tryz.prog [((.af 7),none)] ii.2) (ak (bq 1 J3 ii.2) λkA=>ak (aY kA.1 kA.2) λkm=>ak (aR J0 km.2) λkv=>ak (bq 8 kv.1 kv.2) λk9=>ak (aY k9.1 k9.2) λlO=>ak (az Tryz.prog .lss 3 false false km.1 lO.1 lO.2) λj5=>ak (a8 (bi j5.1 false) (i8 J6 j5.2) (some (ai,j5.2))) λkH=>ak (a8 (bi j5.1 false) (i8 kH.1 kH.2) (some (ai,kH.2))) λiS=>ak (a8 (bi iS.1 true) (bq 1 J3 iS.2) (some (ai,iS.2))) λns=>ak (a8 (bi iS.1 true) (aY ns.1 ns.2) (some (ai,ns.2))) λqs=>ak (a8 (bi iS.1 true) (i8 J0 qs.2) (some (ai,qs.2))) λqD=>ak (a8 (bi iS.1 true) (aR qD.1 qD.2) (some (ai,qD.2))) λrD=>ak (a8 (bi iS.1 true) (bq 9 rD.1 rD.2) (some (ai,rD.2))) λrB=>ak (a8 (bi iS.1 true) (aY rB.1 rB.2) (some (ai,rB.2))) λtd=>ak (a8 (bi iS.1 true) (az Tryz.prog .leq 3 false false qs.1 td.1 td.2) (some (ai,td.2))) λzM=>ak (a8 (bi j5.1 false) (bU iS.1 zM.1 (.bool false) zM.2) (some (ai,zM.2))) λAM=>ak (bU j5.1 (.bool true) AM.1 AM.2) λzJ=>bp zJ.1 (aG Tryz.prog [((.af 18),none)] zJ.2) (ak (bq 1 J3 zJ.2) λAB=>ak (aY AB.1 AB.2) λyy=>ak (aR J0 yy.2) λEK=>ak (bq 8 EK.1 EK.2) λAi=>ak (cS 1 Ai.1 yy.1 Ai.2) λCv=>bp J6 (ak (bq 1 J3 Cv.2) λFF=>ak (aY FF.1 FF.2) λKS=>ak (aR J0 KS.2) λJt=>ak (bq 9 Jt.1 Jt.2) λze=>ak (cS 1 ze.1 KS.1 ze.2) λLr=>eI call J0 J3 Lr.2) (eI call J0 J3 Cv.2))))
def dv(call:Eng.Callee)(J0 J3 J5 J6 J26 J37:ae)(W:AW):Option (ae×AW):=bp J37 (ak (bq 4 J3 W) λwx=>ak (aY wx.1 wx.2) λuG=>ak (bq 4 J5 uG.2) λkz=>ak (cS 1 kz.1 uG.1 kz.2) λyL=>bT call J0 J3 J5 (.bool true) yL.2) (ak (az Tryz.prog .eql 3 false true J26 (.af 6) W) λs7=>bp s7.1 (ak (bq 26 J3 s7.2) λwC=>ak (b9 5 wC.1 wC.2) λwm=>ak (bq 26 J5 wm.2) λsu=>ak (cS 5 su.1 wm.1 su.2) λyc=>bT call J0 J3 J5 J6 yc.2) (bT call J0 J3 J5 J6 s7.2))
def iJ(call:Eng.Callee)(x0 x1:ae)(W:AW):Option (ae×AW):=ak (cN x1 W) λr1=>ak (bq 0 r1.1 r1.2) λr2=>ak (aY r2.1 r2.2) λr3=>ak (az Tryz.prog .lss 3 false true r3.1 (.af 1) r3.2) λr4=>ak (a8 (bi r4.1 false) (bq 0 r1.1 r4.2) (some (ai,r4.2))) λr5=>ak (a8 (bi r4.1 false) (aY r5.1 r5.2) (some (ai,r5.2))) λr6=>ak (a8 (bi r4.1 false) (az Tryz.prog .gtr 3 false true r6.1 (.af 6) r6.2) (some (ai,r6.2))) λr7=>ak (bU r4.1 (.bool true) r7.1 r7.2) λr8=>bp r8.1 (aG Tryz.prog [((.af 2),none)] r8.2) (ak (bq 0 r1.1 r8.2) λr9=>ak (aY r9.1 r9.2) λcd=>ak (bq 1 r1.1 cd.2) λbF=>ak (aY bF.1 bF.2) λdr=>ak (bq 2 r1.1 dr.2) λcq=>ak (aY cq.1 cq.2) λdi=>ak (bq 3 r1.1 di.2) λbQ=>ak (aY bQ.1 bQ.2) λcK=>ak (cn Tryz.prog 98 [(0,cd.1),(1,dr.1),(2,di.1),(3,cK.1)] cK.2) λcT=>ak (bh Tryz.prog 98 cT.2) λdC=>ak (cS 31 dC.1 cT.1 dC.2) λcL=>ak (bq 0 r1.1 cL.2) λKt=>ak (aY Kt.1 Kt.2) λEQ=>ak (az Tryz.prog .eql 3 false true EQ.1 (.af 1) EQ.2) λJG=>bp JG.1 (ak (bq 5 r1.1 JG.2) λGp=>ak (b9 12 Gp.1 Gp.2) λKV=>ak (bq 5 dC.1 KV.2) λIJ=>ak (cS 12 IJ.1 KV.1 IJ.2) λMQ=>bT call x0 r1.1 dC.1 (.bool false) MQ.2) (ak (az Tryz.prog .eql 3 false true EQ.1 (.af 3) JG.2) λuM=>bp uM.1 (ak (bq 17 r1.1 uM.2) λuB=>ak (b9 9 uB.1 uB.2) λwA=>ak (bq 17 dC.1 wA.2) λzt=>ak (cS 9 zt.1 wA.1 zt.2) λnR=>bT call x0 r1.1 dC.1 (.bool true) nR.2) (ak (az Tryz.prog .eql 3 false true EQ.1 (.af 2) uM.2) λrP=>bp rP.1 (dv call x0 r1.1 dC.1 (.bool false) EQ.1 rP.1 rP.2) (ak (az Tryz.prog .eql 3 false true EQ.1 (.af 4) rP.2) λwI=>dv call x0 r1.1 dC.1 (.bool false) EQ.1 wI.1 wI.2))))
def pq{x0 x1:ae}{W:AW}{r:ae×AW}(h:iJ bD x0 x1 W=some r):bD (.func (.func 35) #[] #[]) [x0,x1] W=some (gc W r):=b8 (nt:=132) (n:=2) (by kernel_rfl) (by kernel_rfl) rfl (aL (by kernel_rfl) h)
def dz(call:Eng.Callee)(x0:ae)(W:AW):Option (ae×AW):=ak (az Tryz.prog .eql 22 false true x0 (.slice none 0 0) W) λr1=>bp r1.1 (aG Tryz.prog [((.slice none 0 0),none)] r1.2) (ak (aC Tryz.prog 22 0 [] r1.2) λr2=>ak (aN Tryz.prog r2.2 #[22,22] r2.1 x0) λr3=>aG Tryz.prog [(r3.1,none)] r3.2)
def fE{x0:ae}{W:AW}{r:ae×AW}(h:dz bD x0 W=some r):bD (.func (.func 39) #[] #[]) [x0] W=some (gc W r):=b8 (nt:=8) (n:=1) (by kernel_rfl) (by kernel_rfl) rfl (aL (by kernel_rfl) h)
def lq(call:Eng.Callee)(x0:ae)(W:AW):Option (ae×AW):=ak (az Tryz.prog .eql 64 false true x0 (.slice none 0 0) W) λr1=>bp r1.1 (aG Tryz.prog [((.slice none 0 0),none)] r1.2) (ak (aC Tryz.prog 64 0 [] r1.2) λr2=>ak (aN Tryz.prog r2.2 #[64,64] r2.1 x0) λr3=>aG Tryz.prog [(r3.1,none)] r3.2)
def oO{x0:ae}{W:AW}{r:ae×AW}(h:lq bD x0 W=some r):bD (.func (.func 40) #[] #[]) [x0] W=some (gc W r):=b8 (nt:=8) (n:=1) (by kernel_rfl) (by kernel_rfl) rfl (aL (by kernel_rfl) h)
def kK(call:Eng.Callee)(x0 x1:ae)(W:AW):Option (ae×AW):=ak (cN x1 W) λr1=>ak (aR x0 r1.2) λr2=>ak (bq 6 r2.1 r2.2) λr3=>ak (aY r3.1 r3.2) λr4=>ak (bq 2 r1.1 r4.2) λr5=>ak (aY r5.1 r5.2) λr6=>ak (fO Tryz.prog 91 r4.1 r6.1 false r6.2) λr7=>ak (az Tryz.prog .neq 123 false true r7.1 (.pointer none) r7.2) λr8=>bp r8.1 (aG Tryz.prog [((.af 8),none)] r8.2) (ak (aR x0 r8.2) λr9=>ak (bq 5 r9.1 r9.2) λcd=>ak (aY cd.1 cd.2) λbF=>ak (aD Tryz.prog .len #[33] 3 #[false] [bF.1] bF.2) λdr=>ak (az Tryz.prog .eql 3 false true dr.1 (.af 200) dr.2) λcq=>bp cq.1 (aG Tryz.prog [((.af 3),none)] cq.2) (ak (bq 3 r1.1 cq.2) λdi=>ak (aY di.1 di.2) λbQ=>ak (aR x0 bQ.2) λcK=>ak (bq 5 cK.1 cK.2) λcT=>ak (aY cT.1 cT.2) λdC=>ak (aD Tryz.prog .len #[33] 3 #[false] [dC.1] dC.2) λcL=>ak (az Tryz.prog .add 3 false true cL.1 (.af 1) cL.2) λdq=>ak (az Tryz.prog .neq 3 false false bQ.1 dq.1 dq.2) λd9=>bp d9.1 (aG Tryz.prog [((.af 6),none)] d9.2) (ak (bq 5 r1.1 d9.2) λeK=>ak (b9 12 eK.1 eK.2) λeP=>ak (call (cV 75) [eP.1] eP.2) λej=>ak (az Tryz.prog .neq 30 false true ej.1 (.af 0) ej.2) λdZ=>bp dZ.1 (aG Tryz.prog [(ej.1,none)] dZ.2) (ak (aR x0 dZ.2) λgi=>ak (bq 6 gi.1 gi.2) λgf=>ak (aY gf.1 gf.2) λgL=>ak (bq 2 r1.1 gL.2) λfz=>ak (aY fz.1 fz.2) λie=>ak (aR x0 ie.2) λgq=>ak (bq 5 gq.1 gq.2) λig=>ak (aY ig.1 ig.2) λeU=>ak (aD Tryz.prog .len #[33] 3 #[false] [eU.1] eU.2) λeE=>ak (cn Tryz.prog 125 [(0,eE.1)] eE.2) λfk=>ak (cN fk.1 fk.2) λgh=>ak (ge Tryz.prog 91 gL.1 ie.1 gh.1 gh.2) λii=>ak (aR x0 ii.2) λkA=>ak (bq 5 kA.1 kA.2) λkm=>ak (aY km.1 km.2) λkv=>ak (bq 3 r1.1 kv.2) λk9=>ak (aY k9.1 k9.2) λlO=>ak (bq 2 r1.1 lO.2) λj5=>ak (aY j5.1 j5.2) λkH=>ak (bq 5 r1.1 kH.2) λiS=>ak (b9 12 iS.1 iS.2) λns=>ak (aR x0 ns.2) λqs=>ak (bq 10 qs.1 qs.2) λqD=>ak (aY qD.1 qD.2) λrD=>ak (cn Tryz.prog 45 [(0,lO.1),(1,kH.1),(2,ns.1),(4,rD.1),(5,(.af (-1))),(6,(.af (-1)))] rD.2) λrB=>ak (aC Tryz.prog 33 1 [(0,rB.1)] rB.2) λtd=>ak (aN Tryz.prog td.2 #[33,33] kv.1 td.1) λzM=>ak (aR x0 zM.2) λAM=>ak (bq 5 AM.1 AM.2) λzJ=>ak (cS 1 zJ.1 zM.1 zJ.2) λAB=>aG Tryz.prog [((.af 0),none)] AB.2))))
def oN{x0 x1:ae}{W:AW}{r:ae×AW}(h:kK bD x0 x1 W=some r):bD (.func (.func 48) #[] #[]) [x0,x1] W=some (gc W r):=b8 (nt:=71) (n:=2) (by kernel_rfl) (by kernel_rfl) rfl (aL (by kernel_rfl) h)
def nl(call:Eng.Callee)(x0 x1:ae)(W:AW):Option (ae×AW):=ak (cN x1 W) λr1=>ak (b9 31 r1.1 r1.2) λr2=>ak (call (cV 76) [x0,r2.1,(.af 1)] r2.2) λr3=>ak (az Tryz.prog .neq 30 false true r3.1 (.af 0) r3.2) λr4=>bp r4.1 (aG Tryz.prog [(r3.1,none)] r4.2) (ak (aR x0 r4.2) λr5=>ak (bq 7 r5.1 r5.2) λr6=>ak (aY r6.1 r6.2) λr7=>ak (bq 4 r1.1 r7.2) λr8=>ak (aY r8.1 r8.2) λr9=>ak (fO Tryz.prog 92 r7.1 r9.1 true r9.2) λcd=>ak (au cd.1 0 cd.2) λbF=>ak (au cd.1 1 bF.2) λdr=>bp dr.1 (aG Tryz.prog [((.af 20),none)] dr.2) (ak (aR x0 dr.2) λcq=>ak (bq 7 cq.1 cq.2) λdi=>ak (aY di.1 di.2) λbQ=>ak (bq 4 r1.1 bQ.2) λcK=>ak (aY cK.1 cK.2) λcT=>ak (bq 3 r1.1 cT.2) λdC=>ak (aY dC.1 dC.2) λcL=>ak (ge Tryz.prog 92 bQ.1 cT.1 cL.1 cL.2) λdq=>aG Tryz.prog [((.af 0),none)] dq.2))
def qL{x0 x1:ae}{W:AW}{r:ae×AW}(h:nl bD x0 x1 W=some r):bD (.func (.func 49) #[] #[]) [x0,x1] W=some (gc W r):=b8 (nt:=33) (n:=2) (by kernel_rfl) (by kernel_rfl) rfl (aL (by kernel_rfl) h)
def lD(call:Eng.Callee)(x0 x1:ae)(W:AW):Option (ae×AW):=ak (cN x1 W) λr1=>ak (aR x0 r1.2) λr2=>ak (bq 5 r2.1 r2.2) λr3=>ak (aY r3.1 r3.2) λr4=>ak (aR x0 r4.2) λr5=>ak (bq 6 r5.1 r5.2) λr6=>ak (aY r6.1 r6.2) λr7=>ak (bq 2 r1.1 r7.2) λr8=>ak (aY r8.1 r8.2) λr9=>ak (fO Tryz.prog 91 r7.1 r9.1 false r9.2) λcd=>ak (aR cd.1 cd.2) λbF=>ak (bq 0 bF.1 bF.2) λdr=>ak (aY dr.1 dr.2) λcq=>ak (j0 26 r4.1 cq.1 cq.2) λdi=>ak (aR x0 di.2) λbQ=>ak (bq 10 bQ.1 bQ.2) λcK=>ak (aY cK.1 cK.2) λcT=>ak (bq 17 r1.1 cT.2) λdC=>ak (b9 9 dC.1 dC.2) λcL=>ak (aR di.1 cL.2) λdq=>ak (bq 24 dq.1 dq.2) λd9=>ak (cS 1 d9.1 cT.1 d9.2) λeK=>a8 (Oy true (b9 9 dC.1 eK.2) cL.1&&true) (ak (aR di.1 eK.2) λeP=>ak (bq 14 eP.1 eP.2) λej=>ak (cS 9 ej.1 cL.1 ej.2) λdZ=>ak (b9 31 r1.1 dZ.2) λgi=>ak (call (cV 76) [x0,gi.1,(.af 2)] gi.2) λgf=>aG Tryz.prog [(gf.1,none)] gf.2) none
def oT{x0 x1:ae}{W:AW}{r:ae×AW}(h:lD bD x0 x1 W=some r):bD (.func (.func 50) #[] #[]) [x0,x1] W=some (gc W r):=b8 (nt:=36) (n:=2) (by kernel_rfl) (by kernel_rfl) rfl (aL (by kernel_rfl) h)
def nh(call:Eng.Callee)(x0 x1:ae)(W:AW):Option (ae×AW):=ak (cN x1 W) λr1=>ak (aR x0 r1.2) λr2=>ak (bq 7 r2.1 r2.2) λr3=>ak (aY r3.1 r3.2) λr4=>ak (bq 4 r1.1 r4.2) λr5=>ak (aY r5.1 r5.2) λr6=>ak (aD Tryz.prog .delete #[92,3] 0 #[false,false] [r4.1,r6.1] r6.2) λr7=>ak (b9 31 r1.1 r7.2) λr8=>ak (call (cV 76) [x0,r8.1,(.af 3)] r8.2) λr9=>aG Tryz.prog [(r9.1,none)] r9.2
def qP{x0 x1:ae}{W:AW}{r:ae×AW}(h:nh bD x0 x1 W=some r):bD (.func (.func 51) #[] #[]) [x0,x1] W=some (gc W r):=b8 (nt:=14) (n:=2) (by kernel_rfl) (by kernel_rfl) rfl (aL (by kernel_rfl) h)
def lF(call:Eng.Callee)(x0 x1:ae)(W:AW):Option (ae×AW):=ak (cN x1 W) λr1=>ak (aR x0 r1.2) λr2=>ak (bq 6 r2.1 r2.2) λr3=>ak (aY r3.1 r3.2) λr4=>ak (bq 2 r1.1 r4.2) λr5=>ak (aY r5.1 r5.2) λr6=>ak (fO Tryz.prog 91 r4.1 r6.1 false r6.2) λr7=>ak (aR x0 r7.2) λr8=>ak (bq 0 r8.1 r8.2) λr9=>ak (bq 0 r9.1 r9.2) λcd=>ak (b9 4 cd.1 cd.2) λbF=>ak (aR x0 bF.2) λdr=>ak (bq 5 dr.1 dr.2) λcq=>ak (aY cq.1 cq.2) λdi=>ak (aR r7.1 di.2) λbQ=>ak (bq 0 bQ.1 bQ.2) λcK=>ak (aY cK.1 cK.2) λcT=>ak (j0 26 di.1 cT.1 cT.2) λdC=>ak (bq 2 dC.1 dC.2) λcL=>ak (b9 12 cL.1 cL.2) λdq=>ak (call (cV 77) [bF.1,dq.1] dq.2) λd9=>ak (au d9.1 0 d9.2) λeK=>ak (au d9.1 1 eK.2) λeP=>ak (aR r7.1 eP.2) λej=>ak (bq 1 ej.1 ej.2) λdZ=>ak (aY dZ.1 dZ.2) λgi=>ak (az Tryz.prog .lss 3 false false gi.1 eK.1 gi.2) λgf=>bp gf.1 (aG Tryz.prog [((.af 6),none)] gf.2) (ak (aR x0 gf.2) λgL=>ak (bq 5 gL.1 gL.2) λfz=>ak (aY fz.1 fz.2) λie=>ak (aR r7.1 ie.2) λgq=>ak (bq 0 gq.1 gq.2) λig=>ak (aY ig.1 ig.2) λeU=>ak (aR x0 eU.2) λeE=>ak (bq 10 eE.1 eE.2) λfk=>ak (aY fk.1 fk.2) λgh=>ak (j0 26 ie.1 eU.1 gh.2) λii=>ak (bq 25 ii.1 ii.2) λkA=>ak (cS 1 kA.1 gh.1 kA.2) λkm=>ak (aR x0 km.2) λkv=>ak (bq 6 kv.1 kv.2) λk9=>ak (aY k9.1 k9.2) λlO=>ak (bq 2 r1.1 lO.2) λj5=>ak (aY j5.1 j5.2) λkH=>ak (aD Tryz.prog .delete #[91,3] 0 #[false,false] [lO.1,kH.1] kH.2) λiS=>aG Tryz.prog [((.af 0),none)] iS.2)
def oV{x0 x1:ae}{W:AW}{r:ae×AW}(h:lF bD x0 x1 W=some r):bD (.func (.func 52) #[] #[]) [x0,x1] W=some (gc W r):=b8 (nt:=61) (n:=2) (by kernel_rfl) (by kernel_rfl) rfl (aL (by kernel_rfl) h)
def mj(call:Eng.Callee)(x0 x1:ae)(W:AW):Option (ae×AW):=ak (cN x1 W) λr1=>ak (aR x0 r1.2) λr2=>ak (bq 6 r2.1 r2.2) λr3=>ak (aY r3.1 r3.2) λr4=>ak (bq 2 r1.1 r4.2) λr5=>ak (aY r5.1 r5.2) λr6=>ak (fO Tryz.prog 91 r4.1 r6.1 false r6.2) λr7=>ak (aR x0 r7.2) λr8=>ak (bq 5 r8.1 r8.2) λr9=>ak (aY r9.1 r9.2) λcd=>ak (aR r7.1 cd.2) λbF=>ak (bq 0 bF.1 bF.2) λdr=>ak (aY dr.1 dr.2) λcq=>ak (j0 26 cd.1 cq.1 cq.2) λdi=>ak (b9 26 di.1 di.2) λbQ=>ak (bh Tryz.prog 45 bQ.2) λcK=>ak (cS 26 cK.1 bQ.1 cK.2) λcT=>ak (bq 2 cK.1 cT.2) λdC=>ak (bq 7 dC.1 dC.2) λcL=>ak (b9 4 cL.1 cL.2) λdq=>ak (bq 26 r1.1 dq.2) λd9=>ak (b9 5 d9.1 d9.2) λeK=>ak (bh Tryz.prog 39 eK.2) λeP=>ak (bh Tryz.prog 60 eP.2) λej=>ak (cS 4 eP.1 dq.1 ej.2) λdZ=>a8 (Oy true (b9 5 d9.1 dZ.2) eK.1&&true) (ak (cS 5 ej.1 eK.1 dZ.2) λgi=>ak (bq 0 ej.1 gi.2) λgf=>ak (aY gf.1 gf.2) λgL=>ak (bq 0 eP.1 gL.2) λfz=>ak (aY fz.1 fz.2) λie=>ak (az Tryz.prog .eql 36 false false gL.1 ie.1 ie.2) λgq=>ak (a8 (bi gq.1 true) (bq 1 ej.1 gq.2) (some (ai,gq.2))) λig=>ak (a8 (bi gq.1 true) (aY ig.1 ig.2) (some (ai,ig.2))) λeU=>ak (a8 (bi gq.1 true) (bq 2 eP.1 eU.2) (some (ai,eU.2))) λeE=>ak (a8 (bi gq.1 true) (aY eE.1 eE.2) (some (ai,eE.2))) λfk=>ak (a8 (bi gq.1 true) (az Tryz.prog .eql 37 false false eU.1 fk.1 fk.2) (some (ai,fk.2))) λgh=>ak (bU gq.1 gh.1 (.bool false) gh.2) λii=>ak (a8 (bi ii.1 true) (bq 2 ej.1 ii.2) (some (ai,ii.2))) λkA=>ak (a8 (bi ii.1 true) (aY kA.1 kA.2) (some (ai,kA.2))) λkm=>ak (a8 (bi ii.1 true) (bq 3 eP.1 km.2) (some (ai,km.2))) λkv=>ak (a8 (bi ii.1 true) (aY kv.1 kv.2) (some (ai,kv.2))) λk9=>ak (a8 (bi ii.1 true) (az Tryz.prog .eql 37 false false km.1 k9.1 k9.2) (some (ai,k9.2))) λlO=>ak (bU ii.1 lO.1 (.bool false) lO.2) λj5=>ak (bq 2 cK.1 j5.2) λkH=>ak (bq 0 kH.1 kH.2) λiS=>ak (aY iS.1 iS.2) λns=>ak (az Tryz.prog .neq 3 false true ns.1 (.af 9) ns.2) λqs=>ak (a8 (bi qs.1 false) (bq 24 cK.1 qs.2) (some (ai,qs.2))) λqD=>ak (a8 (bi qs.1 false) (aY qD.1 qD.2) (some (ai,qD.2))) λrD=>ak (a8 (bi qs.1 false) (az Tryz.prog .lss 3 false true rD.1 (.af 0) rD.2) (some (ai,rD.2))) λrB=>ak (bU qs.1 (.bool true) rB.1 rB.2) λtd=>ak (a8 (bi td.1 false) (bq 14 cK.1 td.2) (some (ai,td.2))) λzM=>ak (a8 (bi td.1 false) (bq 0 zM.1 zM.2) (some (ai,zM.2))) λAM=>ak (a8 (bi td.1 false) (aY AM.1 AM.2) (some (ai,AM.2))) λzJ=>ak (a8 (bi td.1 false) (az Tryz.prog .neq 30 false true zJ.1 (.af 0) zJ.2) (some (ai,zJ.2))) λAB=>ak (bU td.1 (.bool true) AB.1 AB.2) λyy=>ak (a8 (bi yy.1 false) (i8 r7.1 yy.2) (some (ai,yy.2))) λEK=>ak (a8 (bi yy.1 false) (aR EK.1 EK.2) (some (ai,EK.2))) λAi=>ak (a8 (bi yy.1 false) (bq 2 Ai.1 Ai.2) (some (ai,Ai.2))) λCv=>ak (a8 (bi yy.1 false) (aY Cv.1 Cv.2) (some (ai,Cv.2))) λCK=>ak (bU yy.1 (.bool true) CK.1 CK.2) λCM=>ak (a8 (bi CM.1 false) (i8 j5.1 CM.2) (some (ai,CM.2))) λG1=>ak (a8 (bi CM.1 false) (IE Tryz.prog .not G1.1 G1.2) (some (ai,G1.2))) λHr=>ak (bU CM.1 (.bool true) Hr.1 Hr.2) λAz=>ak (a8 (bi Az.1 false) (bq 3 ej.1 Az.2) (some (ai,Az.2))) λCO=>ak (a8 (bi Az.1 false) (aY CO.1 CO.2) (some (ai,CO.2))) λFj=>ak (a8 (bi Az.1 false) (az Tryz.prog .lss 3 false true Fj.1 (.af 0) Fj.2) (some (ai,Fj.2))) λDw=>ak (bU Az.1 (.bool true) Dw.1 Dw.2) λza=>ak (a8 (bi za.1 false) (bq 3 ej.1 za.2) (some (ai,za.2))) λCN=>ak (a8 (bi za.1 false) (aY CN.1 CN.2) (some (ai,CN.2))) λCR=>ak (a8 (bi za.1 false) (az Tryz.prog .geq 3 false true CR.1 (.af 8) CR.2) (some (ai,CR.2))) λtD=>ak (bU za.1 (.bool true) tD.1 tD.2) λzx=>ak (a8 (bi zx.1 false) (bq 4 ej.1 zx.2) (some (ai,zx.2))) λFi=>ak (a8 (bi zx.1 false) (aY Fi.1 Fi.2) (some (ai,Fi.2))) λue=>ak (a8 (bi zx.1 false) (az Tryz.prog .lss 2 false true ue.1 (.af 0) ue.2) (some (ai,ue.2))) λFt=>ak (bU zx.1 (.bool true) Ft.1 Ft.2) λDy=>bp Dy.1 (aG Tryz.prog [((.af 6),none)] Dy.2) (ak (aR r7.1 Dy.2) λEm=>ak (bq 2 Em.1 Em.2) λFk=>ak (cS 1 Fk.1 (.bool true) Fk.2) λHa=>aG Tryz.prog [((.af 0),none)] Ha.2)) none
def pA{x0 x1:ae}{W:AW}{r:ae×AW}(h:mj bD x0 x1 W=some r):bD (.func (.func 53) #[] #[]) [x0,x1] W=some (gc W r):=b8 (nt:=94) (n:=2) (by kernel_rfl) (by kernel_rfl) rfl (aL (by kernel_rfl) h)
def gy(call:Eng.Callee)(x0 x1 x2:ae)(W:AW):Option (ae×AW):=ak (cN x1 W) λr1=>ak (aR x0 r1.2) λr2=>ak (bq 6 r2.1 r2.2) λr3=>ak (aY r3.1 r3.2) λr4=>ak (bq 2 r1.1 r4.2) λr5=>ak (aY r5.1 r5.2) λr6=>ak (fO Tryz.prog 91 r4.1 r6.1 false r6.2) λr7=>ak (aR x0 r7.2) λr8=>ak (bq 0 r8.1 r8.2) λr9=>ak (bq 0 r9.1 r9.2) λcd=>ak (b9 4 cd.1 cd.2) λbF=>ak (aR x0 bF.2) λdr=>ak (bq 5 dr.1 dr.2) λcq=>ak (aY cq.1 cq.2) λdi=>ak (aR r7.1 di.2) λbQ=>ak (bq 0 bQ.1 bQ.2) λcK=>ak (aY cK.1 cK.2) λcT=>ak (j0 26 di.1 cT.1 cT.2) λdC=>ak (bq 2 dC.1 dC.2) λcL=>ak (b9 12 cL.1 cL.2) λdq=>ak (aR r7.1 dq.2) λd9=>ak (bq 1 d9.1 d9.2) λeK=>ak (aY eK.1 eK.2) λeP=>ak (bh Tryz.prog 135 eP.2) λej=>ak (call (cV 100) [bF.1,dq.1,eP.1] ej.2) λdZ=>ak (au dZ.1 0 dZ.2) λgi=>ak (au dZ.1 1 gi.2) λgf=>ak (cS 2 ej.1 gi.1 gf.2) λgL=>ak (az Tryz.prog .neq 30 false true gf.1 (.af 0) gL.2) λfz=>ak (a8 (bi fz.1 false) (b9 2 ej.1 fz.2) (some (ai,fz.2))) λie=>ak (a8 (bi fz.1 false) (i8 x2 ie.2) (some (ai,ie.2))) λgq=>ak (a8 (bi fz.1 false) (bq 4 r1.1 gq.2) (some (ai,gq.2))) λig=>ak (a8 (bi fz.1 false) (aY ig.1 ig.2) (some (ai,ig.2))) λeU=>ak (a8 (bi fz.1 false) (cn Tryz.prog 135 [(0,gq.1),(1,eU.1)] eU.2) (some (ai,eU.2))) λeE=>ak (a8 (bi fz.1 false) (az Tryz.prog .neq 135 false false ie.1 eE.1 eE.2) (some (ai,eE.2))) λfk=>ak (bU fz.1 (.bool true) fk.1 fk.2) λgh=>bp gh.1 (aG Tryz.prog [((.af 6),none)] gh.2) (ak (aR r7.1 gh.2) λii=>ak (bq 1 ii.1 ii.2) λkA=>ak (aY kA.1 kA.2) λkm=>ak (az Tryz.prog .add 3 false true km.1 (.af 1) km.2) λkv=>ak (aR r7.1 kv.2) λk9=>ak (bq 1 k9.1 k9.2) λlO=>ak (cS 1 lO.1 kv.1 lO.2) λj5=>aG Tryz.prog [((.af 0),none)] j5.2)
def ny{x0 x1 x2:ae}{W:AW}{r:ae×AW}(h:gy bD x0 x1 x2 W=some r):bD (.func (.func 76) #[] #[]) [x0,x1,x2] W=some (gc W r):=b8 (nt:=58) (n:=3) (by kernel_rfl) (by kernel_rfl) rfl (aL (by kernel_rfl) h)
end Go.Proofs.YtekljimefjclgaaGreatDoor
