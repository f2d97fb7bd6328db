/- A part: contracts and laws. -/
import Derived.Test.YtmaoneengdafhaaGreatDoorPartB
import Derived.Test.YtmaoneengdafhaaGreatDoorChecked
set_option linter.unusedVariables false
set_option linter.unusedSectionVars false
set_option linter.defProp false
noncomputable section
open Go renaming TypeId->ag,Value->ad,undef->ak
set_option maxRecDepth 100000
namespace Go.Proofs.YtmaoneengdafhaaGreatDoor
open Go Go.Eng
noncomputable instance opens:ai:=ak8 (λid ops=>T.get (path (PC id ops)) tab) [0,1,3,4]
noncomputable def Fw(i:Nat):Code:=Ow Tryz.prog i
def uB(c:UInt8):Bool:=decide (97<=c.toNat)&&decide (c.toNat<=122)||decide (48<=c.toNat)&&decide (c.toNat<=57)||c.toNat==45
def uH(l:List UInt8):Bool:=match l with
 |[]=>false
 |c::_=>decide (97<=c.toNat)&&decide (c.toNat<=122)&&decide (l.length<=16)&&l.all uB
def F6:List ad->Option ad
 |[]=>some (.bool true)
 |_=>none
def VW:List Nat:=[2,7,51,164,217,254]
noncomputable def specs:Eng.Callee:=Q0 [(7,Df 7 lU F6),(51,chk 51),(164,Te 164)]
noncomputable def aY:Eng.Callee:=om Tryz.prog VW specs
abbrev GW(W:AW):Prop:=Jh lU W
def GW.cells{W:AW}(h:GW W):aH W 0=some yu:=JX (h (0,yu) (by simp[lU])).1
def GW.pos{W:AW}(h:GW W):0<W.next:=(h (0,yu) (by simp[lU])).2
def Vw{W:AW}(h:GW W):aY (.func (.func 7) #[] #[]) [] W=some (.bool true,W):=by have h0:Df 7 lU F6 (.func (.func 7) #[] #[]) [] W=some (.bool true,W):=aeJ h rfl rfl rfl;have h1:specs (.func (.func 7) #[] #[]) [] W=some (.bool true,W):=h0;have h2:=Oz (P:=Tryz.prog) (bad:=VW) (spec:=specs) (i:=7) (by decide) h1;rw[IJ (.refl _)]at h2;exact h2
def Zb{W:AW}{r:ad×AW}{args:List ad}(h:xY W args r):aY (.func (.func 164) #[] #[]) args W=some r:=by
 have h1:specs (.func (.func 164) #[] #[]) args W=some r:=by show Te 164 (.func (.func 164) #[] #[]) args W=_;exact agz h
 have h2:=Oz (P:=Tryz.prog) (bad:=VW) (spec:=specs) (i:=164) (by decide) h1;obtain⟨b,zs,i,hi,rfl,hg,rfl⟩:=h;rw[jx rfl]at h2;exact h2
def zI(k ow un se sc n to t1 t2 t3 t4 nw:Int):Int:=if k<1\/12<k then 2 else Qs ow un se sc n to t1 t2 t3 t4 nw (TU.getD k.toNat 0)
def D1(k ow un se sc n to t1 t2 t3 t4 nw:Int){W:AW}(h:GW W):aY (.func (.func 51) #[] #[]) [.agg (iX k ow un se sc n to t1 t2 t3 t4 nw)] W=some (.ae (zI k ow un se sc n to t1 t2 t3 t4 nw),W):=by
 have h1:specs (.func (.func 51) #[] #[]) [.agg (iX k ow un se sc n to t1 t2 t3 t4 nw)] W=some (.ae (zI k ow un se sc n to t1 t2 t3 t4 nw),W):=by
  show chk 51 (.func (.func 51) #[] #[]) [.agg (iX k ow un se sc n to t1 t2 t3 t4 nw)] W=_;unfold chk iX;simp only[uC,Array.isEmpty_empty,fM,OY];unfold zI;by_cases hk:k<1\/12<k
  ·have hd:(decide (k<1)||decide (12<k))=true:=by simpa using hk
   rw[an hk];simp only[hd]
  ·have hd:(decide (k<1)||decide (12<k))=false:=by simp;omega
   rw[aq hk];simp only[hd,(h (0,yu) (by simp[lU])).1];have WS:k.toNat<13:=by omega
   have:yu[k.toNat]? =some (.ae (TU.getD k.toNat 0)):=by unfold yu;rw[ly];have h13:TU.length=13:=rfl;rw[bJ (by omega),pi,bJ (by omega)];rfl
   simp only[this]
 have h2:=Oz (P:=Tryz.prog) (bad:=VW) (spec:=specs) (i:=51) (by decide) h1;rw[ajl (.refl _)]at h2;exact h2
def bc(W:AW)(a b:Int)(h1: -9223372036854775808<=a+b:=by omega)(h2:a+b<9223372036854775808:=by omega):bO Tryz.prog .add 3 false true (.ae a) (.ae b) W=some (.ae (a+b),W):=mF h1 h2
def fh(W:AW)(a b:Int)(h1: -9223372036854775808<=a+b:=by omega)(h2:a+b<9223372036854775808:=by omega):bO Tryz.prog .add 3 false false (.ae a) (.ae b) W=some (.ae (a+b),W):=mF h1 h2
def tR(W:AW)(a b:Int)(h1: -9223372036854775808<=a-b:=by omega)(h2:a-b<9223372036854775808:=by omega):bO Tryz.prog .sub 3 false true (.ae a) (.ae b) W=some (.ae (a-b),W):=tG h1 h2
def KF(W:AW)(a b:Int)(h1: -9223372036854775808<=a-b:=by omega)(h2:a-b<9223372036854775808:=by omega):bO Tryz.prog .sub 3 false false (.ae a) (.ae b) W=some (.ae (a-b),W):=tG h1 h2
section
abbrev OG(i:Nat)(cs:Array ad)(a:List ad)(W:AW)(r:ad×AW):Prop:=aY (.func (.func i) #[] cs) a W=some (gc W r)
def pr3{α β γ:Type}{a a':α}{b b':β}{c c':γ}(h:(a,b,c)=(a',b',c')):a=a'/\b=b'/\c=c':=by injection h with h1 h2;injection h2 with h2 h3;exact⟨h1,h2,h3⟩
def oM(nt:Nat){i:Nat}{cs:Array ad}{a:List ad}{t:Option (ad×AW)}{W:AW}{r:ad×AW}(h:t=some r)
 (hk:(P8 i VW,akY Tryz.prog i nt (a.length+cs.toList.length),aa0 Tryz.prog aY nt (Ow Tryz.prog i) (acR Tryz.prog i) (a++cs.toList) W)=(false,true,t)):OG i cs a W r:=by
 obtain⟨h1,h2,h3⟩:=pr3 hk;exact apZ (fs:=#[]) (n:=a.length+cs.toList.length) h1 h2 (aI _) (h3.trans h)
abbrev cE:=Eng.Callee->ai.Fr->AW->Option LT
abbrev atI:=Eng.Callee->ai.Fr->ad->ad->AW->Option LT
abbrev atF:=Eng.Callee->ai.Fr->ad->ad->ad->AW->Option LT
abbrev asL:=Eng.Callee->ai.Fr->ad->ad->ad->ad->ad->AW->Option (ad×AW)
abbrev avD:=Eng.Callee->AW->Option (ad×AW)
abbrev fx:=Eng.Callee->ad->AW->Option (ad×AW)
abbrev di:=Eng.Callee->ad->ad->AW->Option (ad×AW)
abbrev pk:=Eng.Callee->ad->ad->ad->AW->Option (ad×AW)
abbrev GH:=Eng.Callee->ad->ad->ad->ad->AW->Option (ad×AW)
abbrev LW:=Eng.Callee->ad->ad->ad->ad->ad->AW->Option (ad×AW)
abbrev akO:=Eng.Callee->ad->ad->ad->ad->ad->ad->AW->Option (ad×AW)
abbrev auz:=Eng.Callee->ad->ad->ad->ad->ad->ad->ad->AW->Option (ad×AW)
abbrev ao1:=Eng.Callee->ad->ad->ad->ad->ad->ad->ad->ad->AW->Option (ad×AW)
variable {α ρ:Type}
def gB(m:AW->Option (α×AW))(k:α->AW->Option ρ)(W:AW):Option ρ:=eY (m W) λr=>k r.1 r.2
def gT(g:ad)(m:AW->Option (ad×AW))(k:ad->AW->Option ρ)(W:AW):Option ρ:=eY (qR (sW g true) (m W) (some (ak,W))) λr=>k r.1 r.2
def gF(g:ad)(m:AW->Option (ad×AW))(k:ad->AW->Option ρ)(W:AW):Option ρ:=eY (qR (sW g false) (m W) (some (ak,W))) λr=>k r.1 r.2
def gL(f:ai.Fr->AW->Option LT)(R:ai.Fr)(k:X->ai.Fr->AW->Option ρ)(W:AW):Option ρ:=eY (fV f R W) λr=>k r.1 r.2.1 r.2.2
def gI(v:ad)(t e:AW->Option ρ)(W:AW):Option ρ:=Qg v (t W) (e W)
def gX(i:Nat)(x:X)(t e:AW->Option ρ)(W:AW):Option ρ:=B9 i x (t W) (e W)
def gM(x:X)(t e:AW->Option ρ)(W:AW):Option ρ:=yl x (t W) (e W)
def gR(x:X)(t:AW->Option ρ)(W:AW):Option ρ:=Kt x (t W)
def gN(x:X)(t:AW->Option ρ)(W:AW):Option ρ:=amf x (t W)
def gA(g:AW->Bool)(t:AW->Option ρ)(W:AW):Option ρ:=qR (g W) (t W) none
def yZ(W:AW):Option ρ:=none
def yN(F:ai.Fr)(W:AW):Option LT:=some (X.normal,F,W)
def yR(F:ai.Fr)(W:AW):Option LT:=some (X.ret,F,W)
def yE(i:Nat)(F:ai.Fr)(W:AW):Option LT:=some (X.exit i,F,W)
def yV(x:X)(F:ai.Fr)(W:AW):Option LT:=some (x,F,W)
def yO(l:List (ad×Option ag))(W:AW):Option (ad×AW):=iP Tryz.prog l W
def az(i:Nat)(x:ad)(k:ad->AW->Option ρ)(W:AW):Option ρ:=eY (gO i x W) λr=>k r.1 r.2
def aB(x:ad)(k:ad->AW->Option ρ)(W:AW):Option ρ:=eY (bu x W) λr=>k r.1 r.2
def aN(n:Nat)(x:ad)(k:ad->AW->Option ρ)(W:AW):Option ρ:=eY (dF n x W) λr=>k r.1 r.2
def bF(n:Nat)(x i:ad)(k:ad->AW->Option ρ)(W:AW):Option ρ:=eY (nY n x i W) λr=>k r.1 r.2
def bT(c:Eng.Callee)(i:Nat)(l:List ad)(k:ad->AW->Option ρ)(W:AW):Option ρ:=eY (c (wI i) l W) λr=>k r.1 r.2
def zc(c:Eng.Callee)(i:Nat)(l:List ad)(W:AW):Option (ad×AW):=c (wI i) l W
def I(n:Int):ad:=.ae n
def q(R:ai.Fr)(n:Nat)(l:List ad):ai.Fr:=List.rec (motive:=λ_=>Nat->ai.Fr->ai.Fr) (λ_ R=>R) (λv _ ih n R=>ih (n+1) (iJ R (some n) v)) l n R
@[congr] theorem axr {α:Type} {m m':Option α} (k:α->Option ρ) (h:m=m'):eY m k=eY m' k:=by rw[h]
@[congr] theorem axb {v v':ad} (a b:Option ρ) (h:v=v'):Qg v a b=Qg v' a b:=by rw[h]
@[congr] theorem axA {v v':Bool} (a b:ρ) (h:v=v'):qR v a b=qR v' a b:=by rw[h]
@[congr] theorem ayO {v v':X} (i:Nat) (a b:Option ρ) (h:v=v'):B9 i v a b=B9 i v' a b:=by rw[h]
@[congr] theorem axY {v v':X} (a b:Option ρ) (h:v=v'):yl v a b=yl v' a b:=by rw[h]
@[congr] theorem aAb {v v':X} (a:Option ρ) (h:v=v'):Kt v a=Kt v' a:=by rw[h]
@[congr] theorem azA {v v':X} (a:Option ρ) (h:v=v'):amf v a=amf v' a:=by rw[h]
def We(t:ag)(W:AW):Option (ad×AW):=dg Tryz.prog t W
def AZ(t:ag)(v:List (Nat×ad))(W:AW):Option (ad×AW):=fd Tryz.prog t v W
def DQ(t:ag)(n:Nat)(v:List (Nat×ad))(W:AW):Option (ad×AW):=cX Tryz.prog t n v W
def QI(p:UnOp)(x:ad)(W:AW):Option (ad×AW):=oUn Tryz.prog p x W
def ab5(s d:ag)(x:ad)(W:AW):Option (ad×AW):=wu Tryz.prog s d x W
def kK(t:ag)(x i:ad)(W:AW):Option (ad×AW):=rf Tryz.prog t x i W
def oe(t:ag)(x:ad)(a b d:Option ad)(W:AW):Option (ad×AW):=eP Tryz.prog t x a b d W
def sm(t:ag)(x y:ad)(W:AW):Option (ad×AW):=gh Tryz.prog t x y W
def zz(t:ag)(m k:ad)(o:Bool)(W:AW):Option (ad×AW):=uL Tryz.prog t m k o W
def uy(t:ag)(m k v:ad)(W:AW):Option (ad×AW):=jF Tryz.prog t m k v W
def IL(t:ag)(r:Option ad)(W:AW):Option (ad×AW):=vf Tryz.prog t r W
def MY(t:ag)(x:ad)(W:AW):Option (ad×AW):=RK Tryz.prog t x W
def Q7(ts:Array ag)(x y:ad)(W:AW):Option (ad×AW):=dB Tryz.prog W ts x y
def zN(W:AW):Option (ad×AW):=none
def MI(x y:ad)(W:AW):Option (ad×AW):=bO Tryz.prog .lss 3 false false x y W
def zb1(x y:ad)(W:AW):Option (ad×AW):=bO Tryz.prog .lss 3 false true x y W
def WD(x y:ad)(W:AW):Option (ad×AW):=bO Tryz.prog .gtr 3 false true x y W
def zb3(x y:ad)(W:AW):Option (ad×AW):=bO Tryz.prog .add 3 false true x y W
def zb4(x y:ad)(W:AW):Option (ad×AW):=bO Tryz.prog .gtr 3 false false x y W
def zb5(x y:ad)(W:AW):Option (ad×AW):=bO Tryz.prog .leq 3 false true x y W
def zb6(x y:ad)(W:AW):Option (ad×AW):=bO Tryz.prog .neq 35 false true x y W
def zb7(x y:ad)(W:AW):Option (ad×AW):=bO Tryz.prog .eql 3 false true x y W
def zb8(x y:ad)(W:AW):Option (ad×AW):=bO Tryz.prog .eql 35 false true x y W
def JB(x y:ad)(W:AW):Option (ad×AW):=bO Tryz.prog .neq 3 false false x y W
def afG(x y:ad)(W:AW):Option (ad×AW):=bO Tryz.prog .neq 48 false false x y W
def amu(x y:ad)(W:AW):Option (ad×AW):=bO Tryz.prog .sub 3 false true x y W
def adH(x y:ad)(W:AW):Option (ad×AW):=bO Tryz.prog .neq 50 false false x y W
def Gf(x y:ad)(W:AW):Option (ad×AW):=bO Tryz.prog .geq 3 false true x y W
def apQ(x y:ad)(W:AW):Option (ad×AW):=bO Tryz.prog .neq 9 false false x y W
def abG(x y:ad)(W:AW):Option (ad×AW):=bO Tryz.prog .neq 2 false false x y W
def amt(x y:ad)(W:AW):Option (ad×AW):=bO Tryz.prog .add 3 false false x y W
def ap8(x y:ad)(W:AW):Option (ad×AW):=bO Tryz.prog .geq 2 false false x y W
def Yn(x y:ad)(W:AW):Option (ad×AW):=bO Tryz.prog .leq 2 false false x y W
def akH(x y:ad)(W:AW):Option (ad×AW):=bO Tryz.prog .eql 9 false false x y W
def YM(x y:ad)(W:AW):Option (ad×AW):=bO Tryz.prog .lss 2 false false x y W
def ag0(x y:ad)(W:AW):Option (ad×AW):=bO Tryz.prog .gtr 2 false false x y W
def ag5(x y:ad)(W:AW):Option (ad×AW):=bO Tryz.prog .and 3 false true x y W
def Vh(x y:ad)(W:AW):Option (ad×AW):=bO Tryz.prog .neq 3 false true x y W
def PV(x y:ad)(W:AW):Option (ad×AW):=bO Tryz.prog .eql 3 false false x y W
def K5(x y:ad)(W:AW):Option (ad×AW):=bO Tryz.prog .geq 3 false false x y W
def aof(x y:ad)(W:AW):Option (ad×AW):=bO Tryz.prog .neq 5 false true x y W
def acX(x y:ad)(W:AW):Option (ad×AW):=bO Tryz.prog .eql 9 false true x y W
def ajV(x y:ad)(W:AW):Option (ad×AW):=bO Tryz.prog .lss 5 false true x y W
def apq(x y:ad)(W:AW):Option (ad×AW):=bO Tryz.prog .gtr 5 false true x y W
def ahV(x y:ad)(W:AW):Option (ad×AW):=bO Tryz.prog .geq 5 false true x y W
def ajA(x y:ad)(W:AW):Option (ad×AW):=bO Tryz.prog .leq 5 false true x y W
def apt(x y:ad)(W:AW):Option (ad×AW):=bO Tryz.prog .sub 3 false false x y W
def apF(x y:ad)(W:AW):Option (ad×AW):=bO Tryz.prog .eql 35 false false x y W
def atP(x y:ad)(W:AW):Option (ad×AW):=bO Tryz.prog .rem 3 false false x y W
def atf(x y:ad)(W:AW):Option (ad×AW):=bO Tryz.prog .rem 3 false true x y W
def auE(x y:ad)(W:AW):Option (ad×AW):=bO Tryz.prog .add 3 true false x y W
def aqR(x y:ad)(W:AW):Option (ad×AW):=bO Tryz.prog .neq 87 false false x y W
def Vc(x y:ad)(W:AW):Option (ad×AW):=bO Tryz.prog .neq 43 false false x y W
def aqC(x y:ad)(W:AW):Option (ad×AW):=bO Tryz.prog .eql 31 false true x y W
def Mw(x y:ad)(W:AW):Option (ad×AW):=bO Tryz.prog .lss 2 false true x y W
def afR(x y:ad)(W:AW):Option (ad×AW):=bO Tryz.prog .neq 43 false true x y W
def ams(x y:ad)(W:AW):Option (ad×AW):=bO Tryz.prog .eql 43 false false x y W
def an6(x y:ad)(W:AW):Option (ad×AW):=bO Tryz.prog .sub 2 true false x y W
def aqG(x y:ad)(W:AW):Option (ad×AW):=bO Tryz.prog .add 2 false false x y W
def VN(x y:ad)(W:AW):Option (ad×AW):=bO Tryz.prog .add 44 false true x y W
def U6(x y:ad)(W:AW):Option (ad×AW):=bO Tryz.prog .eql 44 false true x y W
def akk(x y:ad)(W:AW):Option (ad×AW):=bO Tryz.prog .neq 44 false false x y W
def apG(x y:ad)(W:AW):Option (ad×AW):=bO Tryz.prog .eql 88 false true x y W
def acU(x y:ad)(W:AW):Option (ad×AW):=bO Tryz.prog .leq 3 false false x y W
def anF(x y:ad)(W:AW):Option (ad×AW):=bO Tryz.prog .neq 46 false false x y W
def aok(x y:ad)(W:AW):Option (ad×AW):=bO Tryz.prog .add 44 false false x y W
def ao8(x y:ad)(W:AW):Option (ad×AW):=bO Tryz.prog .shr 44 false true x y W
def aqU(x y:ad)(W:AW):Option (ad×AW):=bO Tryz.prog .eql 43 false true x y W
def aka(x y:ad)(W:AW):Option (ad×AW):=bO Tryz.prog .eql 2 false true x y W
def aoV(x y:ad)(W:AW):Option (ad×AW):=bO Tryz.prog .geq 2 false true x y W
def akV(x y:ad)(W:AW):Option (ad×AW):=bO Tryz.prog .neq 2 false true x y W
def aqp(x y:ad)(W:AW):Option (ad×AW):=bO Tryz.prog .neq 35 false false x y W
def alg(x y:ad)(W:AW):Option (ad×AW):=bO Tryz.prog .mul 3 true false x y W
def akU(x y:ad)(W:AW):Option (ad×AW):=bO Tryz.prog .mul 3 false true x y W
def XH(x y:ad)(W:AW):Option (ad×AW):=bO Tryz.prog .shr 228 false true x y W
def LN(x:ad)(W:AW):Option (ad×AW):=aZ Tryz.prog .len #[22] 3 #[false] [x] W
def ZV(x:ad)(W:AW):Option (ad×AW):=aZ Tryz.prog .len #[9] 3 #[false] [x] W
def zt2(x:ad)(W:AW):Option (ad×AW):=aZ Tryz.prog .len #[28] 3 #[false] [x] W
def zt3(x:ad)(W:AW):Option (ad×AW):=aZ Tryz.prog .len #[25] 3 #[false] [x] W
def zt4(x y:ad)(W:AW):Option (ad×AW):=aZ Tryz.prog .delete #[112,3] 0 #[false,false] [x,y] W
def zt5(x:ad)(W:AW):Option (ad×AW):=aZ Tryz.prog .len #[112] 3 #[false] [x] W
def zt6(x:ad)(W:AW):Option (ad×AW):=aZ Tryz.prog .len #[78] 3 #[false] [x] W
def zt7(x:ad)(W:AW):Option (ad×AW):=aZ Tryz.prog .len #[123] 3 #[false] [x] W
def zt8(x y:ad)(W:AW):Option (ad×AW):=aZ Tryz.prog .max #[3,3] 3 #[false,false] [x,y] W
def zt9(x y:ad)(W:AW):Option (ad×AW):=aZ Tryz.prog .min #[3,3] 3 #[false,false] [x,y] W
def auD(x:ad)(W:AW):Option (ad×AW):=aZ Tryz.prog .len #[40] 3 #[false] [x] W
def atO(x:ad)(W:AW):Option (ad×AW):=aZ Tryz.prog .len #[54] 3 #[false] [x] W
def auv(x y:ad)(W:AW):Option (ad×AW):=aZ Tryz.prog .min #[3,3] 3 #[false,true] [x,y] W
def DK(x:ad)(W:AW):Option (ad×AW):=aZ Tryz.prog .len #[31] 3 #[false] [x] W
def anD(x:ad)(W:AW):Option (ad×AW):=aZ Tryz.prog .len #[88] 3 #[false] [x] W
def H3(x:ad)(W:AW):Option (ad×AW):=aZ Tryz.prog .len #[32] 3 #[false] [x] W
def alV(x:ad)(W:AW):Option (ad×AW):=aZ Tryz.prog .len #[135] 3 #[false] [x] W
def abf(x:ad)(W:AW):Option (ad×AW):=aZ Tryz.prog .len #[219] 3 #[false] [x] W
def aqr(x y:ad)(W:AW):Option (ad×AW):=aZ Tryz.prog .max #[3,3] 3 #[false,true] [x,y] W
def aon(x:ad)(W:AW):Option (ad×AW):=aZ Tryz.prog .len #[251] 3 #[false] [x] W
def agY(x:ad)(W:AW):Option (ad×AW):=aZ Tryz.prog .len #[150] 3 #[false] [x] W
def ajn(x y:ad)(W:AW):Option (ad×AW):=aZ Tryz.prog .min #[2,2] 2 #[false,false] [x,y] W
abbrev KZ(ρ:Type):=(ad->AW->Option ρ)->AW->Option ρ
def bD(x y:ad):KZ ρ:=gB (zb3 x y)
def aO(a b d:ad):KZ ρ:=gB (jQ a b d)
def qz(x y:ad):KZ ρ:=gB (WD x y)
def bK(x y:ad):KZ ρ:=gB (MI x y)
def aV(x:ad):KZ ρ:=gB (rD x)
def aA(n:Nat)(x v:ad):KZ ρ:=gB (fm n x v)
def aX(t:ag)(v:List (Nat×ad)):KZ ρ:=gB (AZ t v)
def b8(ts:Array ag)(x y:ad):KZ ρ:=gB (Q7 ts x y)
def br(t:ag)(n:Nat)(v:List (Nat×ad)):KZ ρ:=gB (DQ t n v)
def aF(t:ag):KZ ρ:=gB (We t)
def aD(x:ad):KZ ρ:=gB (vP x)
def cu(x y:ad):KZ ρ:=gB (zb6 x y)
def ap(x:ad)(i:Nat):KZ ρ:=gB (sZ x i)
def lT(x y:ad):KZ ρ:=gB (zb8 x y)
def jk(x y:ad):KZ ρ:=gB (amu x y)
def dL(p:UnOp)(x:ad):KZ ρ:=gB (QI p x)
def lS(x y:ad):KZ ρ:=gB (zb1 x y)
def bY(x y:ad):KZ ρ:=gB (zb7 x y)
def gJ(x:ad):KZ ρ:=gB (zt2 x)
def dN(x y:ad):KZ ρ:=gB (amt x y)
def fu(s d:ag)(x:ad):KZ ρ:=gB (ab5 s d x)
def iB(x y:ad):KZ ρ:=gB (apt x y)
def me(x:ad):KZ ρ:=gB (anD x)
def PX:=aC @gB.eq_1 (aC @gT.eq_1 (aC @gF.eq_1 (aC @gL.eq_1 (aC @gI.eq_1 (aC @gX.eq_1 (aC @gM.eq_1 (aC @gR.eq_1 (aC @gN.eq_1 (aC @gA.eq_1 (aC @yZ.eq_1 (aC @yN.eq_1 (aC @yR.eq_1 (aC @yE.eq_1 (aC @yV.eq_1 (aC @yO.eq_1 (aC @az.eq_1 (aC @aB.eq_1 (aC @aN.eq_1 (aC @bF.eq_1 (@bT.eq_1))))))))))))))))))))
def SX:=aC Go.Eng.SX (aC PX (aC @zc.eq_1 (aC @I.eq_1 (aC @We.eq_1 (aC @AZ.eq_1 (aC @DQ.eq_1 (aC @QI.eq_1 (aC @ab5.eq_1 (aC @kK.eq_1 (aC @oe.eq_1 (aC @sm.eq_1 (aC @zz.eq_1 (aC @uy.eq_1 (aC @IL.eq_1 (aC @MY.eq_1 (aC @Q7.eq_1 (aC @zN.eq_1 (aC @MI.eq_1 (aC @zb1.eq_1 (aC @WD.eq_1 (aC @zb3.eq_1 (aC @zb4.eq_1 (aC @zb5.eq_1 (aC @zb6.eq_1 (aC @zb7.eq_1 (aC @zb8.eq_1 (aC @JB.eq_1 (aC @afG.eq_1 (aC @amu.eq_1 (aC @adH.eq_1 (aC @Gf.eq_1 (aC @apQ.eq_1 (aC @abG.eq_1 (aC @amt.eq_1 (aC @ap8.eq_1 (aC @Yn.eq_1 (aC @akH.eq_1 (aC @YM.eq_1 (aC @ag0.eq_1 (aC @ag5.eq_1 (aC @Vh.eq_1 (aC @PV.eq_1 (aC @K5.eq_1 (aC @aof.eq_1 (aC @acX.eq_1 (aC @ajV.eq_1 (aC @apq.eq_1 (aC @ahV.eq_1 (aC @ajA.eq_1 (aC @apt.eq_1 (aC @apF.eq_1 (aC @atP.eq_1 (aC @atf.eq_1 (aC @auE.eq_1 (aC @aqR.eq_1 (aC @Vc.eq_1 (aC @aqC.eq_1 (aC @Mw.eq_1 (aC @afR.eq_1 (aC @ams.eq_1 (aC @an6.eq_1 (aC @aqG.eq_1 (aC @VN.eq_1 (aC @U6.eq_1 (aC @akk.eq_1 (aC @apG.eq_1 (aC @acU.eq_1 (aC @anF.eq_1 (aC @aok.eq_1 (aC @ao8.eq_1 (aC @aqU.eq_1 (aC @aka.eq_1 (aC @aoV.eq_1 (aC @akV.eq_1 (aC @aqp.eq_1 (aC @alg.eq_1 (aC @akU.eq_1 (aC @XH.eq_1 (aC @LN.eq_1 (aC @ZV.eq_1 (aC @zt2.eq_1 (aC @zt3.eq_1 (aC @zt4.eq_1 (aC @zt5.eq_1 (aC @zt6.eq_1 (aC @zt7.eq_1 (aC @zt8.eq_1 (aC @zt9.eq_1 (aC @auD.eq_1 (aC @atO.eq_1 (aC @auv.eq_1 (aC @DK.eq_1 (aC @anD.eq_1 (aC @H3.eq_1 (aC @alV.eq_1 (aC @abf.eq_1 (aC @aqr.eq_1 (aC @aon.eq_1 (aC @agY.eq_1 (aC @ajn.eq_1 (aC @bD.eq_1 (aC @aO.eq_1 (aC @qz.eq_1 (aC @bK.eq_1 (aC @aV.eq_1 (aC @aA.eq_1 (aC @aX.eq_1 (aC @b8.eq_1 (aC @br.eq_1 (aC @aF.eq_1 (aC @aD.eq_1 (aC @cu.eq_1 (aC @ap.eq_1 (aC @lT.eq_1 (aC @jk.eq_1 (aC @dL.eq_1 (aC @lS.eq_1 (aC @bY.eq_1 (aC @gJ.eq_1 (aC @dN.eq_1 (aC @fu.eq_1 (aC @iB.eq_1 (@me.eq_1)))))))))))))))))))))))))))))))))))))))))))))))))))))))))))))))))))))))))))))))))))))))))))))))))))))))))))))))))))))))))))
end
def xv:cE:=λc S=>az 0 (S 2) λa=>az 3 a λb=>aB b λd=>gB (LN d) λe=>bK (S 5) e λf=>gT f (dh (S 5)) λg=>gT f (zb1 g (I 20)) λh=>aO f h (.bool false) λi=>let T:=q S 6 [S 5,a,b,d,e,f,f,g,h,i];gI i (az 0 (S 2) λj=>az 3 j λk=>aB k λl=>bF 3 l (S 5) λm=>az 0 m λn=>aB n λo=>gB (ZV o) λp=>qz p (I 100) λr=>gF r (gO 0 (S 2)) λs=>gF r (gO 3 s) λt=>gF r (bu t) λu=>gF r (dh (S 5)) λv=>gF r (nY 3 u v) λw=>gF r (gO 1 w) λx=>gF r (bu x) λy=>gF r (zt2 y) λz=>gF r (WD z (I 20)) λA=>aO r (.bool true) A λB=>let U:=q T 18 [j,k,l,S 5,m,n,o,p,r,r,s,t,u,v,w,x,y,z,A,B];gI B (yR (q U 4 [.bool true])) (bD (S 5) (I 1) λC=>yN (q (q U 16 [S 5,C]) 5 [C]))) (yE 0 T)
def FM:di:=λc a b=>aV a λd=>gL (xv c) (q (q (cz 0 [a,b] ai.blank) 2 [d]) 4 [.bool false,I 0]) λe S=>gX 0 e (az 0 (S 2) λf=>az 3 f λg=>aB g λh=>gB (LN h) λi=>qz i (I 10) λj=>gF j (gO 4 (S 2)) λk=>gF j (bu k) λl=>gF j (zt3 l) λm=>gF j (dh (S 1)) λn=>gF j (zb4 m n) λo=>gF j (dh o) λp=>gT p (gO 4 (S 2)) λr=>gT p (bu r) λs=>gT p (zt3 s) λt=>gT p (zb5 t (I 400)) λu=>gF j (jQ p u (.bool false)) λv=>aO j (.bool true) v λw=>gF w (gO 4 (S 2)) λx=>gF w (bu x) λy=>gF w (zt3 y) λz=>gF w (WD z (I 410)) λA=>aO w (.bool true) A λB=>yO [(B,none)]) (gR e (yO [(S 4,none)]))
def PM{x0 x1 W r}(h:FM aY x0 x1 W=some r):OG 6 #[] [x0,x1] W r:=oM 62 h (by kernel_rfl)
def m9:cE:=λc S=>bK (S 34) (S 33) λa=>let T:=q S 35 [a];gI a (bF 24 (S 32) (S 34) λb=>aN 24 b λd=>aF 52 λe=>aA 24 e d λf=>az 1 e λg=>aB g λh=>lS h (I 1) λi=>gF i (gO 1 e) λj=>gF i (bu j) λk=>gF i (WD k (I 64)) λl=>aO i (.bool true) l λm=>let U:=q (q (q (q T 36 [S 34,b,d]) 10 [e]) 9 [S 34]) 39 [g,h,i,i,j,k,l,m];gI m (yR (q (q U 47 [S 34]) 2 [.pointer none,S 34,I 7])) (az 1 e λn=>aB n λo=>gB (zz 112 (S 8) o true) λp=>ap p 0 λr=>ap p 1 λs=>az 2 e λt=>aB t λu=>let V:=q (q (q (q (q (q U 49 [S 8,n,o,p]) 48 [p]) 53 [r,s]) 11 [r,s]) 78 [t,u]) 77 [u];gI u (dL .not s λv=>gF v (dh r) λw=>gF v (gO 0 e) λx=>gF v (bu x) λy=>gF v (JB w y) λz=>aO v (.bool true) z λA=>gF A (gO 3 e) λB=>gF A (dF 12 B) λC=>gF A (AZ 48 []) λD=>gF A (afG C D) λE=>aO A (.bool true) E λF=>let Y:=q V 80 [s,v,v,w,x,y,z,A,A,B,C,D,E,F];gI F (yR (q (q Y 94 [S 34]) 2 [.pointer none,S 34,I 6])) (az 1 e λG=>aB G λH=>gB (zt4 (S 8) H) λJ=>aD (S 7) λK=>az 5 K λL=>aB L λM=>jk r (I 1) λN=>bF 25 M N λO=>az 15 e λP=>aN 9 P λQ=>aD O λa0=>az 3 a0 λb0=>aA 1 b0 (S 34) λd0=>gA (λW=>jP true (dF 9 P W) Q&&true) (aD O λe0=>az 16 e0 λf0=>aA 9 f0 Q λg0=>aD (S 7) λh0=>az 6 h0 λi0=>aB i0 λj0=>gB (zt5 (S 8)) λk0=>br 28 1 [(0,k0)] λl0=>b8 #[28,28] j0 l0 λm0=>aD (S 7) λn0=>az 6 n0 λa1=>aA 1 a1 m0 λb1=>bD (S 34) (I 1) λd1=>yN (q (q (q (q (q Y 95 [S 8,G,H,S 7,K,L,M,r,N,O]) 13 [O]) 105 [O,O,S 34,P,Q,a0,b0,e0,f0]) 140 [S 7,S 7,h0,i0,j0,S 8,k0,l0,m0,n0,a1,d1]) 34 [d1])))) (gF s (gO 0 e) λv=>gF s (bu v) λw=>gF s (dh (S 7)) λx=>gF s (vP x) λy=>gF s (gO 5 y) λz=>gF s (bu z) λA=>gF s (zt6 A) λB=>gF s (zb3 B (I 1)) λC=>gF s (JB w C) λD=>aO s (.bool true) D λE=>gF E (gO 15 e) λF=>gF E (dF 9 F) λG=>gF E (AZ 50 []) λH=>gF E (adH G H) λJ=>aO E (.bool true) J λK=>gF K (gO 3 e) λL=>gF K (dF 12 L) λM=>gF K (zc c 51 [M]) λN=>gF K (zb6 N (I 0)) λO=>aO K (.bool true) O λP=>let Y:=q (q V 115 [s,s,v,w,x,y,z,A,B,C,D,E,E,F,G,H,J,K,K,L,M,N,O,P]) 114 [P];gI P (yR (q (q Y 139 [S 34]) 2 [.pointer none,S 34,I 6])) (az 1 e λQ=>aB Q λa0=>az 0 e λb0=>aB b0 λd0=>gB (uy 112 (S 8) a0 d0) λe0=>aD (S 7) λf0=>az 5 f0 λg0=>aB g0 λh0=>az 0 e λi0=>aB i0 λj0=>az 1 e λk0=>aB k0 λl0=>az 3 e λm0=>aN 12 m0 λn0=>aX 77 [(0,j0),(1,l0),(2,S 34),(3,I (-1)),(4,n0)] λa1=>br 78 1 [(0,a1)] λb1=>b8 #[78,78] h0 b1 λd1=>aD (S 7) λe1=>az 5 e1 λf1=>aA 1 f1 d1 λg1=>aD (S 7) λh1=>az 6 h1 λi1=>aB i1 λj1=>gB (zt5 (S 8)) λk1=>br 28 1 [(0,k1)] λl1=>b8 #[28,28] j1 l1 λm1=>aD (S 7) λn1=>az 6 n1 λa2=>aA 1 a2 m1 λb2=>bD (S 34) (I 1) λd2=>yN (q (q (q Y 55 [S 8,Q,a0,b0,d0,S 7,S 7,f0,g0,h0,i0,j0,k0,l0,S 34,m0,n0,a1,b1,d1,e1,f1]) 140 [S 7,S 7,h1,i1,j1,S 8,k1,l1,m1,n1,a2,d2]) 34 [d2]))))) (yE 0 T)
def wS:fx:=λc a=>aV a λb=>az 0 b λd=>aN 4 d λe=>bT c 50 [e] λf=>ap f 0 λg=>ap f 1 λh=>cu h (I 0) λi=>gI i (yO [(.pointer none,none),(I (-1),none),(h,none)]) (az 4 b λj=>aB j λk=>gB (zt3 k) λl=>qz l (I 400) λm=>gI m (yO [(.pointer none,none),(I (-1),none),(I 3,none)]) (aN 5 b λn=>aX 80 [(0,n)] λo=>aV o λp=>gB (IL 112 none) λr=>az 4 b λs=>aB s λt=>gB (zt3 t) λu=>gL (m9 c) (q (q (q (q (q (q (q (q (q (q (q (cz 0 [a] ai.blank) 1 [b,.pointer none,I 0,I 0]) 15 [d,e,f]) 14 [f]) 18 [g,h]) 5 [g,h]) 20 [h,i]) 23 [j,k,l,m,n,o,p]) 7 [p]) 30 [r]) 8 [r]) 31 [s,t,u,I 0]) λv S=>gX 0 v (yO [(S 7,none),(I 0,none),(I 0,none)]) (gR v (yO [(S 2,none),(S 3,none),(S 4,none)]))))
def Il{x0 W r}(h:wS aY x0 W=some r):OG 22 #[] [x0] W r:=oM 153 h (by kernel_rfl)
def Dk:fx:=λc a=>aV a λb=>az 3 b λd=>aB d λe=>gB (Gf e (I 0)) λf=>yO [(f,none)]
def Ih{x0 W r}(h:Dk aY x0 W=some r):OG 26 #[] [x0] W r:=oM 6 h (by kernel_rfl)
def FQ:fx:=λc a=>aV a λb=>aN 5 b λd=>bT c 58 [d] λe=>ap e 0 λf=>ap e 1 λg=>cu g (I 0) λh=>gI h (yO [(.slice none 0 0,none),(g,none)]) (aN 5 b λi=>bT c 59 [i] λj=>yO [(j,none),(I 0,none)])
def ES{x0 W r}(h:FQ aY x0 W=some r):OG 27 #[] [x0] W r:=oM 16 h (by kernel_rfl)
def vA:cE:=λc S=>az 3 (S 2) λa=>aB a λb=>gB (LN b) λd=>bK (S 5) d λe=>let T:=q S 36 [S 5,a,b,d,e];gI e (az 3 (S 2) λf=>aB f λg=>bF 3 g (S 5) λh=>aN 3 h λi=>az 3 (S 3) λj=>aB j λk=>bF 3 k (S 5) λl=>aN 3 l λm=>aF 63 λn=>aF 63 λo=>aA 3 n i λp=>gA (λW=>jP true (dF 3 l W) m&&(jP true (bu j W) k&&true)) (aA 3 o m λr=>az 0 n λs=>aB s λt=>az 0 o λu=>aB u λv=>gB (apQ t v) λw=>gF w (gO 2 n) λx=>gF w (bu x) λy=>gF w (gO 2 o) λz=>gF w (bu z) λA=>gF w (JB y A) λB=>aO w (.bool true) B λC=>gF C (gO 1 n) λD=>gF C (bu D) λE=>gF C (gO 1 o) λF=>gF C (bu F) λG=>gF C (zc c 61 [E,G]) λH=>gF C (QI .not H) λJ=>aO C (.bool true) J λK=>let U:=q (q (q T 43 [f,g,S 5,h,i,j,k,S 5,l,m]) 6 [n,o]) 53 [s,t,u,v,w,w,x,y,z,A,B,C,C,D,E,F,G,H,J,K];gI K (yR (q U 4 [.bool false])) (bD (S 5) (I 1) λL=>yN (q (q U 41 [S 5,L]) 5 [L])))) (yE 0 T)
def JA:di:=λc a b=>aV a λd=>aV b λe=>az 0 d λf=>aB f λg=>az 0 e λh=>aB h λi=>gB (JB g i) λj=>gF j (gO 1 d) λk=>gF j (bu k) λl=>gF j (gO 1 e) λm=>gF j (bu m) λn=>gF j (abG l n) λo=>aO j (.bool true) o λp=>gF p (gO 2 d) λr=>gF p (bu r) λs=>gF p (gO 2 e) λt=>gF p (bu t) λu=>gF p (abG s u) λv=>aO p (.bool true) v λw=>gF w (gO 3 d) λx=>gF w (bu x) λy=>gF w (LN y) λz=>gF w (gO 3 e) λA=>gF w (bu A) λB=>gF w (LN B) λC=>gF w (JB z C) λD=>aO w (.bool true) D λE=>gI E (yO [(.bool false,none)]) (gL (vA c) (q (q (q (cz 0 [a,b] ai.blank) 2 [d,e,.bool false]) 8 [f,g,h,i,j,j,k,l,m,n,o,p,p,r,s,t,u,v,w,w,x,y,z,A,B,C,D,E]) 5 [I 0]) λF S=>gX 0 F (yO [(.bool true,none)]) (gR F (yO [(S 4,none)])))
def My{x0 x1 W r}(h:JA aY x0 x1 W=some r):OG 29 #[] [x0,x1] W r:=oM 73 h (by kernel_rfl)
def HA:fx:=λc a=>aV a λb=>aN 4 b λd=>bT c 48 [d] λe=>ap e 0 λf=>ap e 1 λg=>cu g (I 0) λh=>gI h (yO [(I 0,none),(g,none)]) (aN 4 b λi=>bT c 62 [i] λj=>gB (zt7 j) λk=>yO [(k,none),(I 0,none)])
def Ku{x0 W r}(h:HA aY x0 W=some r):OG 30 #[] [x0] W r:=oM 17 h (by kernel_rfl)
def dY:di:=λc a b=>aN 12 b λd=>aN 12 a λe=>gB (afG d e) λf=>gI f (yO [(I 2,none)]) (yO [(I 0,none)])
def o8:GH:=λc a b d e=>gI e (az 1 a λf=>aB f λg=>az 2 a λh=>aB h λi=>az 4 a λj=>aB j λk=>az 1 b λl=>aA 1 l g λm=>gA (λW=>jP true (bu j W) k&&(jP true (bu h W) i&&true)) (az 2 b λn=>aA 1 n i λo=>gA (λW=>jP true (bu j W) k&&true) (az 4 b λp=>aA 1 p k λr=>dY c a b))) (bY d (I 12) λf=>gI f (az 11 a λg=>aB g λh=>az 11 b λi=>aA 1 i h λj=>dY c a b) (yO [(I 2,none)]))
def iV:GH:=λc a b d e=>gI e (az 1 a λf=>aB f λg=>az 2 a λh=>aB h λi=>az 3 a λj=>aB j λk=>az 1 b λl=>aA 1 l g λm=>gA (λW=>jP true (bu j W) k&&(jP true (bu h W) i&&true)) (az 2 b λn=>aA 1 n i λo=>gA (λW=>jP true (bu j W) k&&true) (az 3 b λp=>aA 1 p k λr=>dY c a b))) (bY d (I 3) λf=>gI f (az 1 a λg=>aB g λh=>az 2 a λi=>aB i λj=>az 4 a λk=>aB k λl=>az 5 a λm=>aB m λn=>az 1 b λo=>aA 1 o h λp=>gA (λW=>jP true (bu m W) n&&(jP true (bu k W) l&&(jP true (bu i W) j&&true))) (az 2 b λr=>aA 1 r j λs=>gA (λW=>jP true (bu m W) n&&(jP true (bu k W) l&&true)) (az 4 b λt=>aA 1 t l λu=>gA (λW=>jP true (bu m W) n&&true) (az 5 b λv=>aA 1 v n λw=>dY c a b)))) (bY d (I 6) λg=>gI g (az 1 a λh=>aB h λi=>az 2 a λj=>aB j λk=>az 6 a λl=>aB l λm=>az 7 a λn=>aN 4 n λo=>az 1 b λp=>aA 1 p i λr=>gA (λW=>jP true (dF 4 n W) o&&(jP true (bu l W) m&&(jP true (bu j W) k&&true))) (az 2 b λs=>aA 1 s k λt=>gA (λW=>jP true (dF 4 n W) o&&(jP true (bu l W) m&&true)) (az 6 b λu=>aA 1 u m λv=>gA (λW=>jP true (dF 4 n W) o&&true) (az 7 b λw=>aA 4 w o λx=>dY c a b)))) (bY d (I 7) λh=>gI h (az 1 a λi=>aB i λj=>az 2 a λk=>aB k λl=>az 7 a λm=>aN 4 m λn=>az 1 b λo=>aA 1 o j λp=>gA (λW=>jP true (dF 4 m W) n&&(jP true (bu k W) l&&true)) (az 2 b λr=>aA 1 r l λs=>gA (λW=>jP true (dF 4 m W) n&&true) (az 7 b λt=>aA 4 t n λu=>dY c a b))) (bY d (I 9) λi=>gI i (az 7 a λj=>aN 4 j λk=>az 7 b λl=>aA 4 l k λm=>dY c a b) (bY d (I 10) λj=>gI j (o8 c a b d j) (bY d (I 11) λk=>o8 c a b d k))))))
def ux:fx:=λc a=>aV a λb=>az 0 b λd=>aB d λe=>aX 48 [(0,e)] λf=>aF 48 λg=>aA 12 g f λh=>az 0 b λi=>aB i λj=>bY j (I 1) λk=>gI k (az 1 b λl=>aB l λm=>az 1 g λn=>aA 1 n m λo=>dY c b g) (bY j (I 2) λl=>gI l (iV c b g j l) (bY j (I 5) λm=>gI m (iV c b g j m) (bY j (I 4) λn=>gI n (iV c b g j n) (bY j (I 8) λo=>iV c b g j o))))
def Kc{x0 W r}(h:ux aY x0 W=some r):OG 32 #[] [x0] W r:=oM 92 h (by kernel_rfl)
def zS:di:=λc a b=>aV a λd=>aV b λe=>az 3 d λf=>aB f λg=>gB (Gf g (I 0)) λh=>gT h (gO 3 d) λi=>gT h (bu i) λj=>gT h (gO 2 e) λk=>gT h (bu k) λl=>gT h (MI j l) λm=>aO h m (.bool false) λn=>yO [(n,none)]
def El{x0 x1 W r}(h:zS aY x0 x1 W=some r):OG 42 #[] [x0,x1] W r:=oM 15 h (by kernel_rfl)
def sE:cE:=λc S=>az 3 (S 1) λa=>aB a λb=>gB (LN b) λd=>bK (S 4) d λe=>let T:=q S 30 [S 4,a,b,d,e];gI e (aN 4 (S 1) λf=>bT c 88 [f,S 4] λg=>cu g (I 0) λh=>let U:=q (q (q T 37 [f,S 4,g]) 5 [g]) 40 [g,h];gI h (yR (q (q U 42 [S 4,g]) 2 [S 4,g])) (bD (S 4) (I 1) λi=>yN (q (q U 35 [S 4,i]) 4 [i]))) (yE 0 T)
def He:fx:=λc a=>aV a λb=>az 0 b λd=>aB d λe=>bT c 87 [e,I 1,I 16] λf=>dL .not f λg=>gF g (gO 1 b) λh=>gF g (bu h) λi=>gF g (zc c 87 [i,I 1,I 1000000000]) λj=>gF g (QI .not j) λk=>aO g (.bool true) k λl=>gF l (gO 2 b) λm=>gF l (bu m) λn=>gF l (zc c 87 [n,I 1,I 1000000000]) λo=>gF l (QI .not o) λp=>aO l (.bool true) p λr=>gI r (yO [(I (-1),none),(I 7,none)]) (az 3 b λs=>aB s λt=>gB (LN t) λu=>bY u (I 0) λv=>gI v (yO [(I (-1),none),(I 6,none)]) (az 3 b λw=>aB w λx=>gB (LN x) λy=>qz y (I 8) λz=>gI z (yO [(I (-1),none),(I 3,none)]) (gL (sE c) (q (q (q (cz 0 [a] ai.blank) 1 [b,I 0,I 0]) 6 [d,e,f,g,g,h,i,j,k,l,l,m,n,o,p,r,s,t,u,v,w,x,y,z]) 4 [I 0]) λA S=>gX 0 A (aN 4 (S 1) λB=>bT c 62 [B] λC=>gB (zt7 C) λD=>qz D (I 4096) λE=>gI E (yO [(I (-1),none),(I 3,none)]) (yO [(I 0,none),(I 0,none)])) (gR A (yO [(S 2,none),(S 3,none)])))))
def Kf{x0 W r}(h:He aY x0 W=some r):OG 48 #[] [x0] W r:=oM 48 h (by kernel_rfl)
def oV:cE:=λc S=>bK (S 55) (S 54) λa=>gI a (bF 1 (S 53) (S 55) λb=>aB b λd=>dN (S 4) d λe=>bD (S 55) (I 1) λf=>yN (q (q (q (q (q (q S 56 [a,b,d]) 9 [d]) 59 [S 4,d,e]) 4 [e]) 62 [f]) 55 [f])) (yE 3 (q S 56 [a]))
def tr:cE:=λc S=>bK (S 37) (S 36) λa=>gI a (bF 3 (S 35) (S 37) λb=>aN 3 b λd=>aF 63 λe=>aA 3 e d λf=>aN 3 e λg=>az 3 (S 1) λh=>aB h λi=>gB (oe 22 i none (some (S 37)) none) λj=>bT c 91 [g,j] λk=>cu k (I 0) λl=>let T:=q (q (q (q (q (q S 38 [a,S 37,b,d]) 6 [e]) 5 [S 37]) 42 [g,h,i,S 37,j,k]) 7 [k]) 48 [k,l];gI l (yR (q (q T 50 [S 37,k]) 2 [S 37,k])) (az 1 e λm=>aB m λn=>gJ n λo=>gL (oV c) (q T 52 [m,n,o,I 0]) λp U=>gX 3 p (bD (U 37) (I 1) λr=>yN (q (q U 63 [r]) 37 [r])) yZ)) (yE 1 (q S 38 [a]))
def Hl:fx:=λc a=>aV a λb=>az 0 b λd=>aB d λe=>bT c 89 [e,I 1,I 16] λf=>gF f (gO 1 b) λg=>gF f (bu g) λh=>gF f (zc c 90 [h,I 1,I 1000000000]) λi=>aO f (.bool true) i λj=>gF j (gO 2 b) λk=>gF j (bu k) λl=>gF j (zc c 90 [l,I 1,I 1000000000]) λm=>aO j (.bool true) m λn=>gI n (yO [(I (-1),none),(I 7,none)]) (az 3 b λo=>aB o λp=>gB (LN p) λr=>bY r (I 0) λs=>gI s (yO [(I (-1),none),(I 6,none)]) (az 3 b λt=>aB t λu=>gB (LN u) λv=>qz v (I 8) λw=>gI w (yO [(I (-1),none),(I 3,none)]) (az 3 b λx=>aB x λy=>gB (LN y) λz=>gL (tr c) (q (q (q (q (q (q (q (q (q (cz 0 [a] ai.blank) 1 [b,I 0,I 0]) 11 [d,e,f,f,g,h,i,j,j,k,l,m,n]) 10 [n]) 25 [o,p,r,s]) 24 [s]) 30 [t,u,v,w]) 29 [w]) 4 [I 0]) 34 [x,y,z,I 0]) λA S=>gX 1 A (qz (S 4) (I 4096) λB=>gI B (yO [(I (-1),none),(I 3,none)]) (yO [(I 0,none),(I 0,none)])) (gR A (yO [(S 2,none),(S 3,none)])))))
def Ju{x0 W r}(h:Hl aY x0 W=some r):OG 50 #[] [x0] W r:=oM 66 h (by kernel_rfl)
def kw:di:=λc a b=>aV a λd=>aV b λe=>gB (ut (.func 92) #[] #[d,e]) λf=>yO [(f,none)]
def ve{x0 x1 W r}(h:kw aY x0 x1 W=some r):OG 52 #[] [x0,x1] W r:=oM 6 h (by kernel_rfl)
def lQ:di:=λc a b=>bT c 93 [a,b] λd=>gB (Gf d (I 0)) λe=>yO [(e,none)]
def rz{x0 x1 W r}(h:lQ aY x0 x1 W=some r):OG 54 #[] [x0,x1] W r:=oM 9 h (by kernel_rfl)
def yq:cE:=λc S=>aF 163 λa=>aA 4 a (S 17) λb=>yN (q S 6 [a])
def Cw(call:Eng.Callee)(R:Nat->ad)(W:AW):fW Tryz.prog call false 23 (BP [1,1,0,1,0,0] (Fw 55)) LT R W np=yq call R W:=by kernel_rfl
def yi:cE:=λc S=>aB (S 2) λa=>az 3 (S 6) λb=>aB b λd=>dN a d λe=>aA 1 (S 2) e λf=>yN (q S 18 [a,b,d,e])
def CG(call:Eng.Callee)(R:Nat->ad)(W:AW):fW Tryz.prog call false 23 (BP [1,1,0,1,0,1] (Fw 55)) LT R W np=yi call R W:=by kernel_rfl
def GU:fx:=λc a=>aV a λb=>aF 3 λd=>aN 4 b λe=>bT c 50 [e] λf=>ap f 0 λg=>ap f 1 λh=>cu h (I 0) λi=>gI i (aA 1 d (I 0) λj=>yO [(d,some 3),(h,none)]) (aN 4 b λj=>bT c 94 [j] λk=>gB (kX c k (.loop .ready none (q (q (q (q (q (q (q (cz 0 [a] ai.blank) 1 [b,d,I 0]) 8 [e,f]) 7 [f]) 10 [g,h]) 4 [g,h]) 12 [h,i]) 15 [j,k]) 23 #[17] (BP [1,1,0,1,0,0] (Fw 55)) (BP [1,1,0,1,0,1] (Fw 55)))) λl=>gM l (aB d λm=>aA 1 d m λn=>yO [(d,some 3),(I 0,none)]) yZ)
def LA{x0 W r}(h:GU aY x0 W=some r):OG 55 #[] [x0] W r:=oM 23 h (by kernel_rfl)
def tu:cE:=λc S=>az 4 (S 1) λa=>aB a λb=>gB (zt3 b) λd=>bK (S 6) d λe=>let T:=q S 21 [S 6,a,b,d,e];gI e (az 4 (S 1) λf=>aB f λg=>bT c 102 [g,S 6] λh=>cu h (I 0) λi=>let U:=q (q (q T 28 [f,g,S 6,h]) 7 [h]) 32 [h,i];gI i (yR (q (q U 34 [S 6,h]) 2 [S 6,h])) (bD (S 6) (I 1) λj=>yN (q (q U 26 [S 6,j]) 6 [j]))) (yE 0 T)
def zA:fx:=λc a=>aV a λb=>az 0 b λd=>aN 4 d λe=>bT c 48 [e] λf=>ap f 0 λg=>ap f 1 λh=>cu h (I 0) λi=>gI i (yO [(I (-1),none),(h,none)]) (az 4 b λj=>aB j λk=>gB (zt3 k) λl=>qz l (I 400) λm=>gI m (yO [(I (-1),none),(I 3,none)]) (gL (tu c) (q (q (q (q (q (q (q (q (cz 0 [a] ai.blank) 1 [b,I 0,I 0]) 9 [d,e,f]) 8 [f]) 12 [g,h]) 4 [g,h]) 14 [h,i]) 17 [j,k,l,m]) 6 [I 0]) λn S=>gX 0 n (yO [(I 0,none),(I 0,none)]) (gR n (yO [(S 2,none),(S 3,none)]))))
def Kz{x0 W r}(h:zA aY x0 W=some r):OG 58 #[] [x0] W r:=oM 36 h (by kernel_rfl)
def wW:cE:=λc S=>az 4 (S 1) λa=>aB a λb=>gB (zt3 b) λd=>bK (S 4) d λe=>let T:=q S 7 [S 4,a,b,d,e];gI e (az 4 (S 1) λf=>aB f λg=>bF 24 g (S 4) λh=>aN 24 h λi=>aF 52 λj=>aA 24 j i λk=>az 2 j λl=>aB l λm=>let U:=q (q (q T 14 [f,g,S 4,h,i]) 5 [j]) 19 [l,m];gI m (bD (S 4) (I 1) λn=>yN (q (q U 12 [S 4,n]) 4 [n])) (az 0 j λn=>aB n λo=>az 1 j λp=>aB p λr=>az 4 (S 1) λs=>aB s λt=>az 4 (S 1) λu=>aB u λv=>gB (zt3 v) λw=>az 0 j λx=>aB x λy=>az 3 j λz=>aN 12 z λA=>aF 77 λB=>bT c 103 [t,w,y] λC=>gA (λW=>jP true (dF 12 z W) A&&(jP true (bu p W) r&&(jP true (bu n W) o&&true))) (aX 77 [(0,o),(1,r),(2,S 4),(3,C),(4,A)] λD=>aA 25 B D λE=>az 3 B λF=>aB F λG=>gB (Gf G (I 0)) λH=>let V:=q (q (q (q (q U 21 [n,o,p,r,S 4,s,t,u,v,w,x,y]) 34 [z,A]) 6 [B]) 33 [C]) 36 [D,F,G,H];gI H (az 4 (S 1) λJ=>aB J λK=>az 3 B λL=>aB L λM=>bF 24 K M λN=>az 15 N λO=>aN 9 O λP=>az 16 B λQ=>aA 9 Q P λa0=>aN 25 B λb0=>br 78 1 [(0,b0)] λd0=>b8 #[78,78] (S 3) d0 λe0=>bD (S 4) (I 1) λf0=>yN (q (q (q (q V 40 [J,K,L,M,N,O,P,Q,S 3,b0,d0,e0]) 3 [e0]) 12 [S 4,f0]) 4 [f0])) (aN 25 B λJ=>br 78 1 [(0,J)] λK=>b8 #[78,78] (S 3) K λL=>bD (S 4) (I 1) λM=>yN (q (q (q (q V 48 [S 3,J,K,L]) 3 [L]) 12 [S 4,M]) 4 [M]))))) (yE 0 T)
def Fi:fx:=λc a=>aV a λb=>gL (wW c) (q (cz 0 [a] ai.blank) 1 [b,.slice none 0 0,.slice none 0 0,I 0]) λd S=>gX 0 d (yO [(S 3,none)]) yZ
def OD{x0 W r}(h:Fi aY x0 W=some r):OG 59 #[] [x0] W r:=oM 53 h (by kernel_rfl)
def Dw:di:=λc a b=>aV a λd=>aV b λe=>az 3 d λf=>aB f λg=>gB (Gf g (I 0)) λh=>gT h (gO 3 d) λi=>gT h (bu i) λj=>gT h (gO 2 e) λk=>gT h (bu k) λl=>gT h (MI j l) λm=>aO h m (.bool false) λn=>yO [(n,none)]
def H0{x0 x1 W r}(h:Dw aY x0 x1 W=some r):OG 60 #[] [x0,x1] W r:=oM 15 h (by kernel_rfl)
def vj:cE:=λc S=>gJ (S 0) λa=>bK (S 5) a λb=>let T:=q S 11 [S 5,S 0,a,b];gI b (bF 1 (S 0) (S 5) λd=>aB d λe=>bF 1 (S 1) (S 5) λf=>aB f λg=>gB (JB e g) λh=>let U:=q T 17 [S 0,S 5,d,e,S 1,S 5,f,g,h];gI h (yR (q U 4 [.bool false])) (bD (S 5) (I 1) λi=>yN (q (q U 15 [S 5,i]) 5 [i]))) (yE 0 T)
def JI:di:=λc a b=>gJ a λd=>gJ b λe=>gB (JB d e) λf=>gI f (yO [(.bool false,none)]) (gL (vj c) (q (q (q (cz 0 [a,b] ai.blank) 4 [.bool false]) 6 [a,d,b,e,f]) 5 [I 0]) λg S=>gX 0 g (yO [(.bool true,none)]) (gR g (yO [(S 4,none)])))
def MK{x0 x1 W r}(h:JI aY x0 x1 W=some r):OG 61 #[] [x0,x1] W r:=oM 26 h (by kernel_rfl)
def kz:cE:=λc S=>az 3 (S 1) λa=>aB a λb=>bF 3 b (S 4) λd=>az 1 d λe=>aB e λf=>bF 1 f (S 5) λg=>aB g λh=>bK (S 6) h λi=>let T:=q S 25 [S 6,a,b,S 4,d,e,f,S 5,g,h,i];gI i (aX 177 [(0,S 4),(1,S 5),(2,S 6)] λj=>br 123 1 [(0,j)] λk=>b8 #[123,123] (S 3) k λl=>bD (S 6) (I 1) λm=>yN (q (q (q (q T 38 [S 3,S 4,S 5,S 6,j,k,l]) 3 [l]) 36 [S 6,m]) 6 [m])) (yE 4 T)
def nF:cE:=λc S=>az 3 (S 1) λa=>aB a λb=>bF 3 b (S 4) λd=>az 1 d λe=>aB e λf=>gJ f λg=>bK (S 5) g λh=>let T:=q S 14 [S 5,a,b,S 4,d,e,f,g,h];gI h (gL (kz c) (q T 6 [I 0]) λi U=>gX 4 i (bD (U 5) (I 1) λj=>yN (q (q U 23 [U 5,j]) 5 [j])) yZ) (yE 2 T)
def rn:cE:=λc S=>az 3 (S 1) λa=>aB a λb=>gB (LN b) λd=>bK (S 4) d λe=>let T:=q S 7 [S 4,a,b,d,e];gI e (gL (nF c) (q T 5 [I 0]) λf U=>gX 2 f (bD (U 4) (I 1) λg=>yN (q (q U 12 [U 4,g]) 4 [g])) yZ) (yE 0 T)
def Es:fx:=λc a=>aV a λb=>gL (rn c) (q (cz 0 [a] ai.blank) 1 [b,.slice none 0 0,.slice none 0 0,I 0]) λd S=>gX 0 d (yO [(S 3,none)]) yZ
def It{x0 W r}(h:Es aY x0 W=some r):OG 62 #[] [x0] W r:=oM 46 h (by kernel_rfl)
def mX:di:=λc a b=>gI b (az 4 a λd=>aB d λe=>yO [(I (-1),none),(e,none),(I 0,none)]) (yO [(I (-1),none),(I (-1),none),(I 0,none)])
def mT:pk:=λc a b d=>gI d (az 7 a λe=>az 0 e λf=>aB f λg=>fu 43 3 g λh=>yO [(h,none),(I (-1),none),(I 0,none)]) (bY b (I 3) λe=>gI e (mX c a e) (bY b (I 10) λf=>gI f (mX c a f) (bY b (I 11) λg=>mX c a g)))
def jZ:pk:=λc a b d=>gI d (az 3 a λe=>aB e λf=>yO [(f,none),(I (-1),none),(I 0,none)]) (bY b (I 6) λe=>gI e (mT c a b e) (bY b (I 7) λf=>gI f (mT c a b f) (bY b (I 9) λg=>mT c a b g)))
def DH:fx:=λc a=>aV a λb=>aN 12 b λd=>bT c 32 [d] λe=>cu e (I 0) λf=>gI f (yO [(I 0,none),(I 0,none),(e,none)]) (az 0 b λg=>aB g λh=>bY h (I 2) λi=>gI i (jZ c b h i) (bY h (I 5) λj=>gI j (jZ c b h j) (bY h (I 4) λk=>gI k (jZ c b h k) (bY h (I 8) λl=>jZ c b h l))))
def H4{x0 W r}(h:DH aY x0 W=some r):OG 66 #[] [x0] W r:=oM 34 h (by kernel_rfl)
def xL:pk:=λc a b d=>gB (ap8 a b) λe=>gT e (dh a) λf=>gT e (dh d) λg=>gT e (Yn f g) λh=>aO e h (.bool false) λi=>yO [(i,none)]
def HU{x0 x1 x2 W r}(h:xL aY x0 x1 x2 W=some r):OG 87 #[] [x0,x1,x2] W r:=oM 15 h (by kernel_rfl)
def pH:cE:=λc S=>bK (S 6) (S 1) λa=>let T:=q S 17 [S 6,S 1,a];gI a (az 3 (S 2) λb=>aB b λd=>bF 3 d (S 6) λe=>az 0 e λf=>aB f λg=>az 0 (S 5) λh=>aB h λi=>gB (akH g i) λj=>let U:=q T 22 [b,d,S 6,e,f,g,h,i,j];gI j (yR (q U 4 [I 8])) (bD (S 6) (I 1) λk=>yN (q (q U 20 [S 6,k]) 6 [k]))) (yE 0 T)
def pZ:cE:=λc S=>az 1 (S 5) λa=>aB a λb=>gJ b λd=>bK (S 7) d λe=>let T:=q S 39 [S 7,a,b,d,e];gI e (az 1 (S 5) λf=>aB f λg=>bF 1 g (S 7) λh=>aB h λi=>bT c 87 [i,I 1,I 64] λj=>dL .not j λk=>let U:=q T 46 [f,g,S 7,h,i,j,k];gI k (yR (q U 4 [I 7])) (bD (S 7) (I 1) λl=>yN (q (q U 44 [S 7,l]) 7 [l]))) (yE 2 T)
def B1:di:=λc a b=>aV a λd=>az 3 d λe=>aB e λf=>bF 3 f b λg=>aN 3 g λh=>aF 63 λi=>aA 3 i h λj=>az 0 i λk=>aB k λl=>bT c 115 [l] λm=>dL .not m λn=>gI n (yO [(I 6,none)]) (gL (pH c) (q (q (q (q (q (q (cz 0 [a,b] ai.blank) 2 [d]) 4 [I 0]) 8 [e,f,b,g,h]) 5 [i]) 13 [k,l,m,n]) 6 [I 0]) λo S=>gX 0 o (az 1 (S 5) λp=>aB p λr=>gJ r λs=>bY s (I 0) λt=>gI t (yO [(I 6,none)]) (az 1 (S 5) λu=>aB u λv=>gJ v λw=>qz w (I 16) λx=>gI x (yO [(I 3,none)]) (gL (pZ c) (q (q S 31 [p,r,s,t,u,v,w,x]) 7 [I 0]) λy T=>gX 2 y (az 2 (T 5) λz=>aB z λA=>bT c 87 [A,I 0,I 64] λB=>dL .not B λC=>gI C (yO [(I 7,none)]) (yO [(I 0,none)])) (gR y (yO [(T 4,none)]))))) (gR o (yO [(S 4,none)])))
def Fj{x0 x1 W r}(h:B1 aY x0 x1 W=some r):OG 88 #[] [x0,x1] W r:=oM 57 h (by kernel_rfl)
def pQ:pk:=λc a b d=>bK a b λe=>gF e (dh a) λf=>gF e (dh d) λg=>gF e (zb4 f g) λh=>aO e (.bool true) h λi=>yO [(i,none)]
def BQ{x0 x1 x2 W r}(h:pQ aY x0 x1 x2 W=some r):OG 89 #[] [x0,x1,x2] W r:=oM 15 h (by kernel_rfl)
def ny:pk:=λc a b d=>gB (YM a b) λe=>gF e (dh a) λf=>gF e (dh d) λg=>gF e (ag0 f g) λh=>aO e (.bool true) h λi=>yO [(i,none)]
def yy{x0 x1 x2 W r}(h:ny aY x0 x1 x2 W=some r):OG 90 #[] [x0,x1,x2] W r:=oM 15 h (by kernel_rfl)
def Ht:di:=λc a b=>aV a λd=>az 0 d λe=>aB e λf=>bT c 116 [f] λg=>dL .not g λh=>gI h (yO [(I 6,none)]) (gB (ut (.func 118) #[] #[d]) λi=>bT c 117 [b,i] λj=>gI j (yO [(I 8,none)]) (az 1 d λk=>aB k λl=>gJ l λm=>bY m (I 0) λn=>gI n (yO [(I 6,none)]) (az 1 d λo=>aB o λp=>gJ p λr=>qz r (I 16) λs=>gI s (yO [(I 3,none)]) (az 1 d λt=>aB t λu=>bT c 54 [u,wI 119] λv=>gI v (yO [(I 7,none)]) (az 2 d λw=>aB w λx=>bT c 89 [x,I 0,I 64] λy=>gI y (yO [(I 7,none)]) (yO [(I 0,none)]))))))
def Jn{x0 x1 W r}(h:Ht aY x0 x1 W=some r):OG 91 #[] [x0,x1] W r:=oM 32 h (by kernel_rfl)
def gG:cE:=λc S=>bK (S 11) (S 10) λa=>gI a (bF 25 (S 9) (S 11) λb=>aN 25 b λd=>aF 77 λe=>aA 25 e d λf=>aB (S 2) λg=>aN 25 e λh=>gB (c g [h]) λi=>gT i (dh (S 0)) λj=>gT i (dF 25 e) λk=>gT i (c j [k]) λl=>gT i (QI .not l) λm=>aO i m (.bool false) λn=>let T:=q (q (q S 12 [a,b,d]) 5 [e]) 15 [g,h,i,i,j,k,l,m,n];gI n (yR T) (bD (S 11) (I 1) λo=>yN (q (q T 24 [o]) 11 [o]))) (yE 0 (q S 12 [a]))
def jq:pk:=λc a b d=>aB b λe=>aD e λf=>az 5 f λg=>aB g λh=>gB (zt6 h) λi=>gL (gG c) (q (cz 0 [a,b,d] ai.blank) 6 [e,f,g,h,i,I 0]) λj S=>gX 0 j (yO []) (gR j (yO []))
def tz{x0 x1 x2 W r}(h:jq aY x0 x1 x2 W=some r):OG 92 #[x1,x2] [x0] W r:=oM 25 h (by kernel_rfl)
def ie:cE:=λc S=>bK (S 8) (S 7) λa=>gI a (bF 1 (S 0) (S 8) λb=>aB b λd=>gB (c (S 1) [d]) λe=>let T:=q (q (q S 9 [a,S 8]) 5 [S 8]) 11 [S 1,S 0,S 8,b,d,e];gI e (yR (q (q T 17 [S 8]) 4 [S 8])) (bD (S 8) (I 1) λf=>yN (q (q T 18 [f]) 8 [f]))) (yE 0 (q S 9 [a]))
def oS:di:=λc a b=>gJ a λd=>gL (ie c) (q (q (cz 0 [a,b] ai.blank) 4 [I 0]) 6 [a,d,I 0]) λe S=>gX 0 e (yO [(I (-1),none)]) (gR e (yO [(S 4,none)]))
def uf{x0 x1 W r}(h:oS aY x0 x1 W=some r):OG 93 #[] [x0,x1] W r:=oM 19 h (by kernel_rfl)
def CJ:fx:=λc a=>aV a λb=>gB (ut (.func 120) #[] #[b]) λd=>yO [(d,none)]
def MA{x0 W r}(h:CJ aY x0 W=some r):OG 94 #[] [x0] W r:=oM 4 h (by kernel_rfl)
def D0:fx:=λc a=>aV a λb=>aN 12 b λd=>bT c 51 [d] λe=>cu e (I 0) λf=>gI f (yO [(I 0,none),(I 0,none),(e,none)]) (az 0 b λg=>aB g λh=>gB (ixA 13 1 (aqM 0) h) λi=>aB i λj=>gB (ag5 j (I 4)) λk=>gB (Vh k (I 0)) λl=>gI l (az 3 b λm=>aB m λn=>yO [(n,none),(I (-1),none),(I 0,none)]) (gB (ag5 j (I 64)) λm=>gB (Vh m (I 0)) λn=>gI n (az 7 b λo=>az 0 o λp=>aB p λr=>fu 43 3 r λs=>yO [(s,none),(I (-1),none),(I 0,none)]) (gB (ag5 j (I 8)) λo=>gB (Vh o (I 0)) λp=>gI p (az 4 b λr=>aB r λs=>yO [(I (-1),none),(s,none),(I 0,none)]) (yO [(I (-1),none),(I (-1),none),(I 0,none)]))))
def HV{x0 W r}(h:D0 aY x0 W=some r):OG 98 #[] [x0] W r:=oM 38 h (by kernel_rfl)
def tI:cE:=λc S=>bK (S 8) (S 1) λa=>let T:=q S 54 [S 8,S 1,a];gI a (bF 24 (S 0) (S 8) λb=>az 2 b λd=>aB d λe=>let U:=q T 59 [S 0,S 8,b,d,e];gI e (bD (S 8) (I 1) λf=>yN (q (q U 57 [S 8,f]) 8 [f])) (bD (S 7) (I 1) λf=>bF 24 (S 0) (S 8) λg=>az 1 g λh=>aB h λi=>az 1 (S 5) λj=>aB j λk=>gB (PV i k) λl=>gT l (dh (S 0)) λm=>gT l (dh (S 1)) λn=>gT l (dh (S 0)) λo=>gT l (dh (S 8)) λp=>gT l (nY 24 o p) λr=>gT l (gO 0 r) λs=>gT l (bu s) λt=>gT l (zc c 103 [m,n,t]) λu=>gT l (zb1 u (I 0)) λv=>aO l v (.bool false) λw=>let V:=q (q (q U 64 [S 7,f]) 7 [f]) 66 [S 0,S 8,g,h,i,j,k,l,l,m,n,o,p,r,s,t,u,v,w];gI w (yR (q V 4 [I 6])) (bD (S 8) (I 1) λx=>yN (q (q V 57 [S 8,x]) 8 [x])))) (yE 0 T)
def HM:di:=λc a b=>bF 24 a b λd=>aN 24 d λe=>aF 52 λf=>aA 24 f e λg=>az 1 f λh=>aB h λi=>lS i (I 1) λj=>gF j (gO 1 f) λk=>gF j (bu k) λl=>gF j (WD l (I 64)) λm=>aO j (.bool true) m λn=>gI n (yO [(I 7,none)]) (az 2 f λo=>aB o λp=>gI p (az 0 f λr=>aB r λs=>bT c 136 [a,b,s] λt=>lS t (I 0) λu=>gF u (dh a) λv=>gF u (dh b) λw=>gF u (gO 0 f) λx=>gF u (bu x) λy=>gF u (zc c 103 [v,w,y]) λz=>gF u (Gf z (I 0)) λA=>aO u (.bool true) A λB=>gF B (dh a) λC=>gF B (dh t) λD=>gF B (nY 24 C D) λE=>gF B (gO 1 E) λF=>gF B (bu F) λG=>gF B (gO 1 f) λH=>gF B (bu H) λJ=>gF B (JB G J) λK=>aO B (.bool true) K λL=>gF L (gO 3 f) λM=>gF L (dF 12 M) λN=>gF L (AZ 48 []) λO=>gF L (afG N O) λP=>aO L (.bool true) P λQ=>gI Q (yO [(I 6,none)]) (yO [(I 0,none)])) (gL (tI c) (q (q (q (q (q (cz 0 [a,b] ai.blank) 4 [I 0]) 9 [a,b,d,e]) 5 [f]) 13 [h,i,j,j,k,l,m,n,o,p]) 7 [I 0,I 0]) λr S=>gX 0 r (az 0 (S 5) λs=>aB s λt=>bD (S 7) (I 1) λu=>gB (JB t u) λv=>gF v (gO 15 (S 5)) λw=>gF v (dF 9 w) λx=>gF v (AZ 50 []) λy=>gF v (adH x y) λz=>aO v (.bool true) z λA=>gF A (gO 3 (S 5)) λB=>gF A (dF 12 B) λC=>gF A (zc c 32 [C]) λD=>gF A (zb6 D (I 0)) λE=>aO A (.bool true) E λF=>gI F (yO [(I 6,none)]) (yO [(I 0,none)])) (gR r (yO [(S 4,none)]))))
def K9{x0 x1 W r}(h:HM aY x0 x1 W=some r):OG 102 #[] [x0,x1] W r:=oM 102 h (by kernel_rfl)
def oH:cE:=λc S=>bK (S 7) (S 1) λa=>let T:=q S 8 [S 7,S 1,a];gI a (bF 24 (S 0) (S 7) λb=>az 2 b λd=>aB d λe=>gT e (dh (S 0)) λf=>gT e (dh (S 7)) λg=>gT e (nY 24 f g) λh=>gT e (gO 0 h) λi=>gT e (bu i) λj=>gT e (dh (S 2)) λk=>gT e (PV j k) λl=>aO e l (.bool false) λm=>let U:=q T 13 [S 0,S 7,b,d,e,e,f,g,h,i,j,k,l,m];gI m (yR (q (q U 27 [S 7]) 6 [S 7])) (bD (S 7) (I 1) λn=>yN (q (q U 11 [S 7,n]) 7 [n]))) (yE 0 T)
def tw:pk:=λc a b d=>gL (oH c) (q (cz 0 [a,b,d] ai.blank) 6 [I 0,I 0]) λe S=>gX 0 e (yO [(I (-1),none)]) (gR e (yO [(S 6,none)]))
def Em{x0 x1 x2 W r}(h:tw aY x0 x1 x2 W=some r):OG 103 #[] [x0,x1,x2] W r:=oM 28 h (by kernel_rfl)
def Hw:di:=λc a b=>aV a λd=>aF 177 λe=>aN 4 d λf=>bT c 30 [f] λg=>ap g 0 λh=>ap g 1 λi=>lT i (I 0) λj=>gT j (dh b) λk=>gT j (zb1 k (I 0)) λl=>gT j (dh l) λm=>gF m (dh b) λn=>gF m (dh h) λo=>gF m (K5 n o) λp=>gT j (jQ m (.bool true) p) λr=>aO j r (.bool false) λs=>gI s (cu (I 4) (I 0) λt=>gI t (aX 177 [] λu=>aA 3 e u λv=>yO [(e,some 177),(I 4,none)]) (aN 4 d λu=>bT c 62 [u] λv=>bF 3 v b λw=>aN 3 w λx=>aA 3 e x λy=>yO [(e,some 177),(I 0,none)])) (cu i (I 0) λt=>gI t (aX 177 [] λu=>aA 3 e u λv=>yO [(e,some 177),(i,none)]) (aN 4 d λu=>bT c 62 [u] λv=>bF 3 v b λw=>aN 3 w λx=>aA 3 e x λy=>yO [(e,some 177),(I 0,none)]))
def Kb{x0 x1 W r}(h:Hw aY x0 x1 W=some r):OG 107 #[] [x0,x1] W r:=oM 33 h (by kernel_rfl)
def vE:cE:=λc S=>gB (ZV (S 0)) λa=>bK (S 3) a λb=>let T:=q S 18 [S 3,S 0,a,b];gI b (gB (kK 9 (S 0) (S 3)) λd=>bT c 146 [d] λe=>dL .not e λf=>gT f (dh (S 0)) λg=>gT f (dh (S 3)) λh=>gT f (kK 9 g h) λi=>gT f (zc c 147 [i]) λj=>gT f (QI .not j) λk=>aO f k (.bool false) λl=>gT l (dh (S 0)) λm=>gT l (dh (S 3)) λn=>gT l (kK 9 m n) λo=>gT l (aof o (.int .u8 45)) λp=>aO l p (.bool false) λr=>let U:=q T 24 [S 0,S 3,d,e,f,f,g,h,i,j,k,l,l,m,n,o,p,r];gI r (yR (q U 2 [.bool false])) (bD (S 3) (I 1) λs=>yN (q (q U 22 [S 3,s]) 3 [s]))) (yE 0 T)
def KS:fx:=λc a=>gB (ZV a) λb=>lS b (I 1) λd=>gF d (dh a) λe=>gF d (ZV e) λf=>gF d (WD f (I 16)) λg=>aO d (.bool true) g λh=>gF h (dh a) λi=>gF h (kK 9 i (I 0)) λj=>gF h (zc c 146 [j]) λk=>gF h (QI .not k) λl=>aO h (.bool true) l λm=>gI m (yO [(.bool false,none)]) (gL (vE c) (q (q (q (cz 0 [a] ai.blank) 2 [.bool false]) 4 [a,b,d,d,e,f,g,h,h,i,j,k,l,m]) 3 [I 0]) λn S=>gX 0 n (yO [(.bool true,none)]) (gR n (yO [(S 2,none)])))
def MJ{x0 W r}(h:KS aY x0 W=some r):OG 115 #[] [x0] W r:=oM 42 h (by kernel_rfl)
def KQ:fx:=λc a=>gB (acX a (Ig [])) λb=>gF b (dh a) λd=>gF b (ZV d) λe=>gF b (WD e (I 16)) λf=>aO b (.bool true) f λg=>gF g (dh a) λh=>gF g (kK 9 h (I 0)) λi=>gF g (ajV i (.int .u8 97)) λj=>aO g (.bool true) j λk=>gF k (dh a) λl=>gF k (kK 9 l (I 0)) λm=>gF k (apq m (.int .u8 122)) λn=>aO k (.bool true) n λo=>gI o (yO [(.bool false,none)]) (bT c 148 [a,Ig [97,98,99,100,101,102,103,104,105,106,107,108,109,110,111,112,113,114,115,116,117,118,119,120,121,122,48,49,50,51,52,53,54,55,56,57,45]] λp=>gB (acX p (Ig [])) λr=>yO [(r,none)])
def LZ{x0 W r}(h:KQ aY x0 W=some r):OG 116 #[] [x0] W r:=oM 23 h (by kernel_rfl)
def eH:di:=λc a b=>bT c 149 [a,b] λd=>gB (Gf d (I 0)) λe=>yO [(e,none)]
def g8{x0 x1 W r}(h:eH aY x0 x1 W=some r):OG 117 #[] [x0,x1] W r:=oM 9 h (by kernel_rfl)
def Cp:di:=λc a b=>aV a λd=>az 0 d λe=>aB e λf=>az 0 b λg=>aB g λh=>gB (akH f h) λi=>yO [(i,none)]
def Fk{x0 x1 W r}(h:Cp aY x0 x1 W=some r):OG 118 #[x1] [x0] W r:=oM 9 h (by kernel_rfl)
def B6:fx:=λc a=>bT c 89 [a,I 1,I 64] λb=>yO [(b,none)]
def FZ{x0 W r}(h:B6 aY x0 W=some r):OG 119 #[] [x0] W r:=oM 5 h (by kernel_rfl)
def nj:cE:=λc S=>bK (S 19) (S 18) λa=>gI a (bF 1 (S 17) (S 19) λb=>aB b λd=>aX 163 [(0,S 4),(1,S 19),(2,S 3),(3,d)] λe=>gB (c (S 0) [e]) λf=>dL .not f λg=>let T:=q (q (q S 20 [a,S 19,b,d]) 6 [S 19,d]) 24 [S 0,S 4,S 19,S 3,d,e,f,g];gI g (yR T) (dN (S 3) d λh=>bD (S 19) (I 1) λi=>yN (q (q (q (q T 32 [S 3,d,h]) 3 [h]) 35 [i]) 19 [i]))) (yE 2 (q S 20 [a]))
def qU:cE:=λc S=>bK (S 11) (S 10) λa=>gI a (bF 3 (S 9) (S 11) λb=>aN 3 b λd=>aF 63 λe=>aA 3 e d λf=>az 1 e λg=>aB g λh=>gJ h λi=>gL (nj c) (q (q (q (q S 12 [a,S 11,b,d]) 5 [e]) 4 [S 11]) 16 [g,h,i,I 0]) λj T=>gX 2 j (bD (T 11) (I 1) λk=>yN (q (q T 36 [k]) 11 [k])) (gR j (yR T))) (yE 0 (q S 12 [a]))
def xC:di:=λc a b=>az 3 b λd=>aB d λe=>gB (LN e) λf=>gL (qU c) (q (q (cz 0 [a,b] ai.blank) 3 [I 0]) 8 [d,e,f,I 0]) λg S=>gX 0 g (yO []) (gR g (yO []))
def HS{x0 x1 W r}(h:xC aY x0 x1 W=some r):OG 120 #[x1] [x0] W r:=oM 37 h (by kernel_rfl)
def rB:cE:=λc S=>bK (S 7) (S 1) λa=>let T:=q S 8 [S 7,S 1,a];gI a (bF 24 (S 0) (S 7) λb=>az 2 b λd=>aB d λe=>dL .not e λf=>gT f (dh (S 0)) λg=>gT f (dh (S 7)) λh=>gT f (nY 24 g h) λi=>gT f (gO 0 i) λj=>gT f (bu j) λk=>gT f (dh (S 2)) λl=>gT f (PV k l) λm=>aO f m (.bool false) λn=>let U:=q T 13 [S 0,S 7,b,d,e,f,f,g,h,i,j,k,l,m,n];gI n (yR (q (q U 28 [S 7]) 6 [S 7])) (bD (S 7) (I 1) λo=>yN (q (q U 11 [S 7,o]) 7 [o]))) (yE 0 T)
def xZ:pk:=λc a b d=>gL (rB c) (q (cz 0 [a,b,d] ai.blank) 6 [I 0,I 0]) λe S=>gX 0 e (yO [(I (-1),none)]) (gR e (yO [(S 6,none)]))
def Is{x0 x1 x2 W r}(h:xZ aY x0 x1 x2 W=some r):OG 136 #[] [x0,x1,x2] W r:=oM 29 h (by kernel_rfl)
def HN:fx:=λc a=>gB (ahV a (.int .u8 97)) λb=>gT b (dh a) λd=>gT b (ajA d (.int .u8 122)) λe=>aO b e (.bool false) λf=>yO [(f,none)]
def JK{x0 W r}(h:HN aY x0 W=some r):OG 146 #[] [x0] W r:=oM 9 h (by kernel_rfl)
def GO:fx:=λc a=>gB (ahV a (.int .u8 48)) λb=>gT b (dh a) λd=>gT b (ajA d (.int .u8 57)) λe=>aO b e (.bool false) λf=>yO [(f,none)]
def JV{x0 W r}(h:GO aY x0 W=some r):OG 147 #[] [x0] W r:=oM 9 h (by kernel_rfl)
def Dd:di:=λc a b=>gB (acX a (Ig [])) λd=>gF d (dh b) λe=>gF d (acX e (Ig [])) λf=>aO d (.bool true) f λg=>gI g (yO [(a,none)]) (gB (ZV b) λh=>bY h (I 1) λi=>gT i (dh b) λj=>gT i (kK 9 j (I 0)) λk=>gT i (ajV k (.int .u8 128)) λl=>aO i l (.bool false) λm=>gI m (gB (kK 9 b (I 0)) λn=>gB (kK 9 b (I 0)) λo=>bT c 179 [a,n] λp=>bT c 178 [p,o] λr=>yO [(r,none)]) (bT c 180 [b] λn=>ap n 0 λo=>ap n 1 λp=>aF 232 λr=>aA 256 r o λs=>gI p (bT c 182 [a,r] λt=>bT c 181 [t,r] λu=>yO [(u,none)]) (bT c 184 [a,b] λt=>bT c 183 [t,b] λu=>yO [(u,none)])))
def H2{x0 x1 W r}(h:Dd aY x0 x1 W=some r):OG 148 #[] [x0,x1] W r:=oM 43 h (by kernel_rfl)
def cW:cE:=λc S=>bK (S 8) (S 7) λa=>gI a (bF 3 (S 0) (S 8) λb=>aN 3 b λd=>gB (c (S 1) [d]) λe=>let T:=q (q (q S 9 [a,S 8]) 5 [S 8]) 11 [S 1,S 0,S 8,b,d,e];gI e (yR (q (q T 17 [S 8]) 4 [S 8])) (bD (S 8) (I 1) λf=>yN (q (q T 18 [f]) 8 [f]))) (yE 0 (q S 9 [a]))
def ff:di:=λc a b=>gB (LN a) λd=>gL (cW c) (q (q (cz 0 [a,b] ai.blank) 4 [I 0]) 6 [a,d,I 0]) λe S=>gX 0 e (yO [(I (-1),none)]) (gR e (yO [(S 4,none)]))
def iO{x0 x1 W r}(h:ff aY x0 x1 W=some r):OG 149 #[] [x0,x1] W r:=oM 19 h (by kernel_rfl)
def jj:cE:=λc S=>gB (ZV (S 0)) λa=>bK (S 4) a λb=>let T:=q S 6 [S 4,S 0,a,b];gI b (gB (kK 9 (S 0) (S 4)) λd=>gB (ahV d (.int .u8 128)) λe=>let U:=q (q (q T 12 [S 0,S 4,d]) 5 [d]) 15 [d,e];gI e (aN 256 (S 2) λf=>aA 256 (S 2) f λg=>yR (q (q U 17 [f]) 3 [.bool false])) (gB (ixA 256 1 (S 2) d) λf=>aA 1 f (.bool true) λg=>bD (S 4) (I 1) λh=>yN (q (q (q U 18 [d,f]) 10 [S 4,h]) 4 [h]))) (yE 0 T)
def qN:fx:=λc a=>aF 232 λb=>gL (jj c) (q (cz 0 [a] ai.blank) 2 [b,.bool false,I 0]) λd S=>gX 0 d (aN 256 (S 2) λe=>aA 256 (S 2) e λf=>yO [(S 2,some 232),(.bool true,none)]) (gR d (yO [(S 2,some 232),(S 3,none)]))
def vY{x0 W r}(h:qN aY x0 W=some r):OG 180 #[] [x0] W r:=oM 21 h (by kernel_rfl)
def iF:cE:=λc S=>gB (ZV (S 0)) λa=>qz a (I 0) λb=>let T:=q S 5 [S 0,a,b];gI b (gB (kK 9 (S 0) (I 0)) λd=>bT c 204 [S 1,d] λe=>dL .not e λf=>let U:=q T 8 [S 1,S 0,d,e,f];gI f (yE 0 U) (gB (oe 9 (S 0) (some (I 1)) none none) λg=>yN (q (q U 13 [S 0,g]) 0 [g]))) (yE 0 T)
def pB:di:=λc a b=>gL (iF c) (q (cz 0 [a,b] ai.blank) 4 [Ig []]) λd S=>gX 0 d (yO [(S 0,none)]) yZ
def vu{x0 x1 W r}(h:pB aY x0 x1 W=some r):OG 181 #[] [x0,x1] W r:=oM 16 h (by kernel_rfl)
def gZ:cE:=λc S=>gB (ZV (S 0)) λa=>qz a (I 0) λb=>let T:=q S 5 [S 0,a,b];gI b (gB (ZV (S 0)) λd=>jk d (I 1) λe=>gB (kK 9 (S 0) e) λf=>bT c 204 [S 1,f] λg=>dL .not g λh=>let U:=q T 8 [S 1,S 0,S 0,d,e,f,g,h];gI h (yE 0 U) (gB (ZV (S 0)) λi=>jk i (I 1) λj=>gB (oe 9 (S 0) none (some j) none) λk=>yN (q (q U 16 [S 0,S 0,i,j,k]) 0 [k]))) (yE 0 T)
def oF:di:=λc a b=>gL (gZ c) (q (cz 0 [a,b] ai.blank) 4 [Ig []]) λd S=>gX 0 d (yO [(S 0,none)]) yZ
def tY{x0 x1 W r}(h:oF aY x0 x1 W=some r):OG 182 #[] [x0,x1] W r:=oM 22 h (by kernel_rfl)
def G2:di:=λc a b=>aV a λd=>aF 177 λe=>aN 4 d λf=>bT c 215 [f,b] λg=>ap g 0 λh=>ap g 1 λi=>aF 163 λj=>aA 4 j h λk=>cu i (I 0) λl=>gI l (aX 177 [] λm=>aA 3 e m λn=>yO [(e,some 177),(i,none)]) (az 0 j λm=>aB m λn=>az 1 j λo=>aB o λp=>az 2 j λr=>aB r λs=>iB b s λt=>aX 177 [(0,n),(1,p),(2,t)] λu=>aA 3 e u λv=>yO [(e,some 177),(I 0,none)])
def KC{x0 x1 W r}(h:G2 aY x0 x1 W=some r):OG 200 #[] [x0,x1] W r:=oM 27 h (by kernel_rfl)
def lP:di:=λc a b=>aD a λd=>gB (ixA 256 1 d b) λe=>aB e λf=>yO [(f,none)]
def qT{x0 x1 W r}(h:lP aY x0 x1 W=some r):OG 204 #[] [x0,x1] W r:=oM 10 h (by kernel_rfl)
def Dz:cE:=λc S=>aF 163 λa=>aA 4 a (S 20) λb=>yN (q S 9 [a])
def Ie(call:Eng.Callee)(R:Nat->ad)(W:AW):fW Tryz.prog call false 37 (BP [1,1,0,1,0,0] (Fw 211)) LT R W np=Dz call R W:=by kernel_rfl
def EP:cE:=λc S=>az 0 (S 9) λa=>aB a λb=>aB (S 3) λd=>gB (JB b d) λe=>let T:=q S 21 [a,b,d,e];gI e (yN T) (aB (S 5) λf=>bY f (I 0) λg=>gI g (az 2 (S 9) λh=>aB h λi=>aA 1 (S 4) i λj=>aB (S 5) λk=>az 3 (S 9) λl=>aB l λm=>dN k m λn=>aA 1 (S 5) n λo=>yN (q T 25 [f,g,h,i,k,l,m,n])) (aB (S 5) λh=>az 3 (S 9) λi=>aB i λj=>dN h j λk=>aA 1 (S 5) k λl=>yN (q (q T 25 [f,g]) 29 [h,i,j,k])))
def If(call:Eng.Callee)(R:Nat->ad)(W:AW):fW Tryz.prog call false 37 (BP [1,1,0,1,0,1] (Fw 211)) LT R W np=EP call R W:=by kernel_rfl
def SS:di:=λc a b=>aV a λd=>aV b λe=>aF 3 λf=>aF 3 λg=>aN 4 d λh=>bT c 50 [h] λi=>ap i 0 λj=>ap i 1 λk=>cu k (I 0) λl=>gI l (aA 1 f (I 0) λm=>aA 1 g (I 0) λn=>yO [(f,some 3),(g,some 3),(k,none)]) (aN 4 d λm=>bT c 94 [m] λn=>gB (kX c n (.loop .ready none (q (q (q (q (q (q (q (cz 0 [a,b] ai.blank) 2 [d,e,f,g,I 0]) 11 [h,i]) 10 [i]) 13 [j,k]) 7 [j,k]) 15 [k,l]) 18 [m,n]) 37 #[20] (BP [1,1,0,1,0,0] (Fw 211)) (BP [1,1,0,1,0,1] (Fw 211)))) λo=>gM o (aB g λp=>bY p (I 0) λr=>gI r (aA 1 f (I 0) λs=>aA 1 g (I 0) λt=>yO [(f,some 3),(g,some 3),(I 4,none)]) (aB f λs=>aB g λt=>aA 1 f s λu=>gA (λW=>jP true (bu g W) t&&true) (aA 1 g t λv=>yO [(f,some 3),(g,some 3),(I 0,none)]))) yZ)
def Q5{x0 x1 W r}(h:SS aY x0 x1 W=some r):OG 211 #[] [x0,x1] W r:=oM 37 h (by kernel_rfl)
def Ay:cE:=λc S=>aF 163 λa=>aA 4 a (S 20) λb=>yN (q S 8 [a])
def EY(call:Eng.Callee)(R:Nat->ad)(W:AW):fW Tryz.prog call false 36 (BP [1,1,0,1,0,0] (Fw 215)) LT R W np=Ay call R W:=by kernel_rfl
def Al:cE:=λc S=>aB (S 3) λa=>az 2 (S 8) λb=>aB b λd=>gB (K5 a d) λe=>gT e (bu (S 3)) λf=>gT e (gO 2 (S 8)) λg=>gT e (bu g) λh=>gT e (gO 3 (S 8)) λi=>gT e (bu i) λj=>gT e (amt h j) λk=>gT e (MI f k) λl=>aO e l (.bool false) λm=>let T:=q S 21 [a,b,d,e,e,f,g,h,i,j,k,l,m];gI m (aN 4 (S 8) λn=>aA 4 (S 4) n λo=>aA 1 (S 5) (I 0) λp=>yR (q T 34 [n])) (yN T)
def ED(call:Eng.Callee)(R:Nat->ad)(W:AW):fW Tryz.prog call false 36 (BP [1,1,0,1,0,1] (Fw 215)) LT R W np=Al call R W:=by kernel_rfl
def Lc:di:=λc a b=>aV a λd=>aV b λe=>aF 163 λf=>aF 35 λg=>aN 4 d λh=>bT c 50 [h] λi=>ap i 0 λj=>ap i 1 λk=>cu k (I 0) λl=>gI l (aX 163 [] λm=>aA 4 f m λn=>aA 1 g k λo=>yO [(f,some 163),(g,some 35)]) (aN 4 d λm=>bT c 94 [m] λn=>gB (kX c n (.loop .ready none (q (q (q (q (q (q (q (cz 0 [a,b] ai.blank) 2 [d,e,f,g]) 10 [h,i]) 9 [i]) 12 [j,k]) 6 [j,k]) 14 [k,l]) 18 [m,n]) 36 #[20] (BP [1,1,0,1,0,0] (Fw 215)) (BP [1,1,0,1,0,1] (Fw 215)))) λo=>gM o (aX 163 [] λp=>aA 4 f p λr=>aA 1 g (I 4) λs=>yO [(f,some 163),(g,some 35)]) (gR o (yO [(f,some 163),(g,some 35)])))
def L6{x0 x1 W r}(h:Lc aY x0 x1 W=some r):OG 215 #[] [x0,x1] W r:=oM 36 h (by kernel_rfl)
def vB:cE:=λc S=>gB (zt7 (S 13)) λa=>bK (S 14) a λb=>let T:=q S 25 [S 14,S 13,a,b];gI b (bF 3 (S 13) (S 14) λd=>az 0 d λe=>aB e λf=>gB (PV f (S 1)) λg=>gT g (dh (S 2)) λh=>gT g (zb7 h (I (-1))) λi=>gT g (dh i) λj=>gF j (dh (S 13)) λk=>gF j (dh (S 14)) λl=>gF j (nY 3 k l) λm=>gF j (gO 1 m) λn=>gF j (bu n) λo=>gF j (dh (S 2)) λp=>gF j (PV o p) λr=>gT g (jQ j (.bool true) r) λs=>aO g s (.bool false) λt=>let U:=q T 31 [S 13,S 14,d,e,f,S 1,g,g,h,i,j,k,l,m,n,o,p,r,s,t];gI t (bY (S 12) (I 0) λu=>gI u (bD (S 12) (I 1) λv=>bD (S 14) (I 1) λw=>yN (q (q (q (q (q (q U 51 [S 12,u,S 14]) 11 [S 14]) 54 [S 12,v]) 12 [v]) 29 [S 14,w]) 14 [w])) (bD (S 12) (I 1) λv=>bD (S 14) (I 1) λw=>yN (q (q (q (q (q U 51 [S 12,u]) 54 [S 12,v]) 12 [v]) 29 [S 14,w]) 14 [w]))) (bD (S 14) (I 1) λu=>yN (q (q U 29 [S 14,u]) 14 [u]))) (yE 0 T)
def Je:pk:=λc a b d=>aV a λe=>aN 4 e λf=>bT c 48 [f] λg=>ap g 0 λh=>ap g 1 λi=>cu i (I 0) λj=>gI j (yO [(I 0,none),(I 0,none),(i,none)]) (aN 4 e λk=>bT c 62 [k] λl=>gL (vB c) (q (q (q (q (q (q (q (q (q (q (cz 0 [a,b,d] ai.blank) 3 [e]) 6 [I 0,I 0,I 0]) 16 [f,g]) 15 [g]) 18 [h,i]) 9 [h,i]) 20 [i,j]) 11 [I 0,I 0]) 23 [k,l]) 13 [l,I 0]) λm S=>gX 0 m (bY (S 12) (I 0) λn=>gI n (yO [(I 0,none),(I 0,none),(I 4,none)]) (yO [(S 11,none),(S 12,none),(I 0,none)])) yZ)
def LU{x0 x1 x2 W r}(h:Je aY x0 x1 x2 W=some r):OG 216 #[] [x0,x1,x2] W r:=oM 60 h (by kernel_rfl)
def vw:((#[28]:Array ag)[0]?).bind Tryz.prog.underlying=some (.slice 3):=by kernel_rfl
def tW:((#[22]:Array ag)[0]?).bind Tryz.prog.underlying=some (.slice 63):=by kernel_rfl
def mu(n lo hi:Int):Bool:=decide (n<lo)||decide (hi<n)
def qi(n lo hi:Int)(W:AW):aY (.func (.func 89) #[] #[]) [.ae n,.ae lo,.ae hi] W=some (.bool (mu n lo hi),W):=by
 have h:pQ aY (.ae n) (.ae lo) (.ae hi) W=some (.bool (mu n lo hi),W):=by unfold pQ mu;by_cases h:n<lo<;>simp only[SX,h,AN,Bool.false_or]
 rw[BQ h,IJ (.refl _)]
def yg(n lo hi:Int)(W:AW):aY (.func (.func 90) #[] #[]) [.ae n,.ae lo,.ae hi] W=some (.bool (mu n lo hi),W):=by
 have h:ny aY (.ae n) (.ae lo) (.ae hi) W=some (.bool (mu n lo hi),W):=by unfold ny mu;by_cases h:n<lo<;>simp only[SX,h,AN,Bool.false_or]
 rw[yy h,IJ (.refl _)]
def inB(n lo hi:Int):Bool:=decide (lo<=n)&&decide (n<=hi)
def Di(n lo hi:Int):inB n lo hi= !mu n lo hi:=by unfold inB mu;rw[um];simp
def wh(n lo hi:Int)(W:AW):aY (.func (.func 87) #[] #[]) [.ae n,.ae lo,.ae hi] W=some (.bool (inB n lo hi),W):=by
 have h:xL aY (.ae n) (.ae lo) (.ae hi) W=some (.bool (inB n lo hi),W):=by unfold xL inB;by_cases h:lo<=n<;>simp only[SX,h,gK,pj]
 rw[HU h,IJ (.refl _)]
def ahG{a b:ad}{la lb:List Int}{W:AW}(ha:dR W a la)(hb:dR W b lb)(hl:la.length<900000):aY (.func (.func 61) #[] #[]) [a,b] W=some (.bool (decide (la=lb)),W):=by
 refine aQ rfl ?_ MK;unfold JI;simp only[SX,ha.len vw,hb.len vw];by_cases dS:la.length=lb.length
 ·have e:((la.length:Int)=(lb.length:Int)):=by omega
  simp only[SX,e];refine a8 la.length (by omega) (λk R W'=>W'=W/\R 0=a/\R 1=b/\R 5=.ae (k:Int)/\la.take k=lb.take k)
   (λr=>r.2.2=W/\((r.1=.exit 0/\la=lb)\/(r.1=.ret/\r.2.1 4=.bool false/\la≠lb))) ⟨rfl,rfl,rfl,rfl,rfl⟩ ?_ ?_ ?_
  ·rintro k R W' hk ⟨rfl,h0,h1,h5,ht⟩;unfold vj;obtain⟨p,p1,p2⟩:=ha.get hk;obtain⟨q,q1,q2⟩:=hb.get (i:=k) (by omega);have e1:((k:Int)<(la.length:Int)):=by omega
   simp only[SX,h0,h1,h5,ha.len vw,e1,p1,p2 _ (.refl _),q1,q2 _ (.refl _)];by_cases hx:la[k]=lb[k]'(by omega)
   ·have e2:(k:Int)+1=((k+1:Nat):Int):=by omega
    simp only[SX,hx,mF (show -9223372036854775808<=(k:Int)+1 by omega) (show(k:Int)+1<9223372036854775808 by omega),af];refine .inl ⟨aj,aj,h0,h1,by rw[<-e2];rfl,?_⟩;rw[iY hk,iY (by omega),ht,hx]
   ·simp only[SX,hx,af];refine .inr ⟨by simp,aj,.inr ⟨aj,rfl,λe=>hx (by simp only[e])⟩⟩
  ·rintro R W' ⟨rfl,h0,h1,h5,ht⟩;unfold vj;have e1:¬((la.length:Int)<(la.length:Int)):=by omega
   simp only[SX,h0,h1,h5,ha.len vw,e1,af];refine⟨by simp,aj,.inl ⟨aj,?_⟩⟩;rw[cO]at ht;rw[ht,dS,cO]
  ·rintro⟨x,R,W'⟩ ⟨hW,h⟩;simp only at hW h;subst hW;rcases h with⟨rfl,h⟩|⟨rfl,h4,h⟩
   ·simp only[SX,af,h];exact⟨aj,.refl _⟩
   ·simp only[SX,af,h4,h];exact⟨aj,.refl _⟩
 ·have e:¬((la.length:Int)=(lb.length:Int)):=by omega
  have e2:la≠lb:=λh=>dS (by rw[h])
  simp only[SX,e,e2,af];exact⟨aj,.refl _⟩
def un9:Tryz.prog.underlying 9=some .string:=by kernel_rfl
def ww:((#[9]:Array ag)[0]?).bind Tryz.prog.underlying=some .string:=by kernel_rfl
def nC(l:List UInt8):List ad:=(List.range 256).map λi=>.bool (l.any λc=>c.toNat==i)
def mK(l:List UInt8):(nC l).length=256:=by simp[nC]
def I9(l:List UInt8){i:Nat}(h:i<256):(nC l)[i]? =some (.bool (l.any λc=>c.toNat==i)):=by simp[nC,h]
def QV(l:List UInt8):(nC l).all Eng.one=true:=by unfold nC;rw[List.all_map,dd];intro x _;rfl
def UW(l:List UInt8):(bN (.tuple #[.agg (nC l).toArray,.bool true])&& !Yq (.tuple #[.agg (nC l).toArray,.bool true]))=true:=by
 have h:eI (.agg (nC l).toArray)=true:=by show(nC l).toArray.toList.all cC=true;unfold nC;rw[IT,List.all_map,dd];intro x _;rfl
 have h2:bN (.tuple #[.agg (nC l).toArray,.bool true])=true:=by show(eI (.agg (nC l).toArray)&&(eI (.bool true)&&true))=true;rw[h];rfl
 rw[h2];rfl
def aau(l:List UInt8)(c:UInt8):(nC l).set c.toNat (.bool true)=nC (l++[c]):=by
 apply oi;intro i;by_cases hi:i<256
 ·rw[uk,I9 _ hi,I9 _ hi,mK];by_cases hc:c.toNat=i
  ·rw[an hc,kH];simp[hc]
  ·rw[aq hc];have:(c.toNat==i)=false:=by simpa using hc
   simp[this]
 ·rw[kn (by rw[xU,mK];omega),kn (by rw[mK];omega)]
def ajd(W:AW):dg Tryz.prog 232 W=some (.pointer (some ⟨W.next,0,none⟩),W.add (.cells (nC []))):=aT (by kernel_rfl) rfl
def aqd(x:ad)(W:AW):iU Tryz.prog 232 x W=dF 256 x W:=by kernel_rfl
def M9{b:Nat}{l:List UInt8}{W:AW}(hb:aH W b=some (nC l))(c:UInt8):aY (.func (.func 204) #[] #[]) [.pointer (some ⟨b,0,none⟩),.int .u8 (c.toNat:Int)] W=some (.bool (l.any λx=>x==c),W):=by refine aQ rfl ?_ qT;unfold lP;have hc:c.toNat<256:=c.toNat_lt;simp only[SX,aS,aa6 hc,Vp,hb,bM,iI,aI,I9 l hc,dq,af];refine⟨?_,.refl _⟩;congr 2;funext x;rw[um];simp[UInt8.toNat_inj]
def adx{l:List UInt8}(hl:l.length<1000)(ha:∀c∈l,c.toNat<128)(W:AW):aY (.func (.func 180) #[] #[]) [.string (bf l)] W=some (.tuple #[.agg (nC l).toArray,.bool true],W):=by
 refine aQ (UW l) ?_ vY;unfold qN;simp only[SX,ajd];refine a8 l.length (by omega) (λk R W'=>R 0=.string (bf l)/\R 2=.pointer (some ⟨W.next,0,none⟩)/\R 4=.ae (k:Int)/\aU W' W.next=some (nC (l.take k))/\Le W W')
  (λr=>r.1=.exit 0/\r.2.1 2=.pointer (some ⟨W.next,0,none⟩)/\aU r.2.2 W.next=some (nC l)/\Le W r.2.2) ⟨rfl,rfl,rfl,de,(Le.refl _).add _⟩ ?_ ?_ ?_
 ·rintro k R W' hk ⟨h0,h2,h4,hb,aM⟩;unfold jj;have hc:l[k].toNat<128:=ha _ (cG hk);have e1:((k:Int)<(l.length:Int)):=by omega
  have e2:¬(128:Int)<=(l[k].toNat:Int):=by omega
  simp only[SX,h0,h2,h4,fY ww,e1,lI un9 hk,e2,aa6 (show l[k].toNat<256 by omega),Aq,hb,bM,iI,aI,mK,show l[k].toNat<256 by omega,bi,aau,
   mF (show -9223372036854775808<=(k:Int)+1 by omega) (show(k:Int)+1<9223372036854775808 by omega),af];have e2:(k:Int)+1=((k+1:Nat):Int):=by omega
  refine .inl ⟨aj,h0,h2,by rw[<-e2];rfl,?_,aM.put (aR _) _⟩;rw[bZ,<-Bw hk]
 ·rintro R W' ⟨h0,h2,h4,hb,aM⟩;unfold jj;have e1:¬((l.length:Int)<(l.length:Int)):=by omega
  simp only[SX,h0,h2,h4,fY ww,e1,af];rw[cO]at hb;exact⟨by simp,aj,h2,hb,aM⟩
 ·rintro⟨x,R,W'⟩ ⟨rfl,h2,hb,aM⟩;simp only at h2 hb aM;have h1:=ahS hb (QV l);rw[mK]at h1;have h3:=xT (j5 hb) (mK l);have h4:=xT (W:=W'.put W.next (.cells (nC l))) (uR _) (mK l);simp only[SX,h2,h3,h1,bB,aqd,h4,bM,af];exact⟨aj,aM.put (aR _) _⟩
def zH(p:UInt8->Bool)(l:List UInt8):List UInt8:=(l.reverse.dropWhile p).reverse
def Dg{p:UInt8->Bool}:∀{l:List UInt8} {k:Nat},(∀c∈l.take k,p c=true)->(l.drop k).dropWhile p=l.dropWhile p
 |l,0,_=>by simp
 |[],k+1,_=>by simp
 |c::l,k+1,h=>by have hc:p c=true:=h c (by simp);rw[List.drop_succ_cons,IQ,an hc];exact Dg λd hd=>h d (by simp[hd])
abbrev VE(S:List UInt8)(c:UInt8):Bool:=S.any λx=>x==c
def adA{b:Nat}{S l:List UInt8}{W:AW}(hb:aH W b=some (nC S))(hl:l.length<1000):aY (.func (.func 181) #[] #[]) [.string (bf l),.pointer (some ⟨b,0,none⟩)] W=some (.string (bf (l.dropWhile (VE S))),W):=by
 refine aQ rfl ?_ vu;unfold pB;simp only[SX];refine a8 l.length (by omega) (λk R W'=>W'=W/\R 0=.string (bf (l.drop k))/\R 1=.pointer (some ⟨b,0,none⟩)/\∀c∈l.take k,VE S c=true)
  (λr=>r.2.2=W/\r.1=.exit 0/\r.2.1 0=.string (bf (l.dropWhile (VE S)))) ⟨rfl,rfl,rfl,by simp⟩ ?_ ?_ ?_
 ·rintro k R W' hk ⟨rfl,h0,h1,ha⟩;unfold iF;have hd:l.drop k=l[k]::l.drop (k+1):=ri hk;have e1:(0:Int)<((l.drop k).length:Int):=by rw[mr];omega
  have e0:rf Tryz.prog 9 (.string (bf (l.drop k))) (.ae 0) W'=some (.int .u8 (l[k].toNat:Int),W'):=by have:=lI (P:=Tryz.prog) (W:=W') (k:=.i64) un9 (l:=l.drop k) (i:=0) (by rw[mr];omega);simpa using this
  have e3:eP Tryz.prog 9 (.string (bf (l.drop k))) (some (.ae 1)) none none W'=some (.string (bf (l.drop (k+1))),W'):=by have:=abp (P:=Tryz.prog) (W:=W') (k:=.i64) un9 (l:=l.drop k) (a:=1) (by rw[mr];omega);rw[xF]at this;exact this
  simp only[SX,h0,h1,fY ww,e1,e0,M9 hb,e3];cases hp:VE S l[k]
  ·simp only[SX,show(S.any λx=>x==l[k])=false from hp,af];refine .inr ⟨by simp,aj,aj,?_⟩;show R 0=_;rw[h0,<-Dg ha,hd,IQ,hp];rfl
  ·simp only[SX,show(S.any λx=>x==l[k])=true from hp,af];refine .inl ⟨aj,aj,rfl,h1,?_⟩;rw[<-Bw hk];intro c hc;rcases mj.1 hc with h|h
   ·exact ha c h
   ·rw[ki.1 h];exact hp
 ·rintro R W' ⟨rfl,h0,h1,ha⟩;unfold iF;rw[Eu]at h0;have e1:¬(0:Int)<(([]:List UInt8).length:Int):=by simp
  simp only[SX,h0,h1,fY ww,e1,af];refine⟨by simp,aj,aj,?_⟩;show R 0=_;rw[h0,<-Dg ha,Eu];rfl
 ·rintro⟨x,R,W'⟩ ⟨hW,hx,h0⟩;simp only at hW hx h0;subst hW hx;simp only[SX,af,h0];exact⟨aj,.refl _⟩
def Ll{p:UInt8->Bool}{l:List UInt8}{n:Nat}(h:∀c∈l.drop n,p c=true):zH p (l.take n)=zH p l:=by
 unfold zH;have h2:l.reverse=(l.drop n).reverse++(l.take n).reverse:=by rw[<-List.reverse_append,wX]
 have h3:=Dg (p:=p) (l:=l.reverse) (k:=(l.drop n).reverse.length) (by rw[h2,xj];intro c hc;exact h c (List.mem_reverse.1 hc));rw[<-h3,h2,xW]
def aaH{b:Nat}{S l:List UInt8}{W:AW}(hb:aH W b=some (nC S))(hl:l.length<1000):aY (.func (.func 182) #[] #[]) [.string (bf l),.pointer (some ⟨b,0,none⟩)] W=some (.string (bf (zH (VE S) l)),W):=by
 refine aQ rfl ?_ tY;unfold oF;simp only[SX];refine a8 l.length (by omega) (λk R W'=>W'=W/\R 0=.string (bf (l.take (l.length-k)))/\R 1=.pointer (some ⟨b,0,none⟩)/\∀c∈l.drop (l.length-k),VE S c=true)
  (λr=>r.2.2=W/\r.1=.exit 0/\r.2.1 0=.string (bf (zH (VE S) l))) ⟨rfl,by simp;rfl,rfl,by simp⟩ ?_ ?_ ?_
 ·rintro k R W' hk ⟨rfl,h0,h1,ha⟩;unfold gZ;obtain⟨m,hm⟩:∃m,l.length-k=m+1:=⟨l.length-k-1,by omega⟩;have hm2:l.length-(k+1)=m:=by omega
  have hml:m<l.length:=by omega
  rw[hm]at h0 ha;have dS:(l.take (m+1)).length=m+1:=by rw[cR];omega
  have e1:(0:Int)<(((m+1:Nat):Int)):=by omega
  have e2:((m+1:Nat):Int)-1=(m:Int):=by omega
  have e0:rf Tryz.prog 9 (.string (bf (l.take (m+1)))) (.ae (m:Int)) W'=some (.int .u8 (l[m].toNat:Int),W'):=by have:=lI (P:=Tryz.prog) (W:=W') (k:=.i64) un9 (l:=l.take (m+1)) (i:=m) (by rw[cR];omega);simpa using this
  have e3:eP Tryz.prog 9 (.string (bf (l.take (m+1)))) none (some (.ae (m:Int))) none W'=some (.string (bf (l.take m)),W'):=by have:=akE (P:=Tryz.prog) (W:=W') (k:=.i64) un9 (l:=l.take (m+1)) (a:=m) (by rw[cR];omega);rw[List.take_take,oN (by omega)]at this;exact this
  have es:=tR W' ((m+1:Nat):Int) 1;rw[e2]at es;simp only[SX,h0,h1,fY ww,dS,e1,es,e0,M9 hb,e3];cases hp:VE S l[m]
  ·simp only[SX,show(S.any λx=>x==l[m])=false from hp,af];refine .inr ⟨by simp,aj,aj,?_⟩;show R 0=_;rw[h0,<-Ll ha,<-Bw hml];unfold zH;rw[List.reverse_append,List.reverse_singleton,List.singleton_append,IQ,hp];simp
  ·simp only[SX,show(S.any λx=>x==l[m])=true from hp,af];refine .inl ⟨aj,aj,by rw[hm2];rfl,h1,?_⟩;rw[hm2,ri hml];intro c hc;rcases eU.1 hc with h|h
   ·rw[h];exact hp
   ·exact ha c h
 ·rintro R W' ⟨rfl,h0,h1,ha⟩;unfold gZ;rw[Bb,tj]at h0;rw[Bb,jB]at ha;have e1:¬(0:Int)<(([]:List UInt8).length:Int):=by simp
  simp only[SX,h0,h1,fY ww,e1,af];refine⟨by simp,aj,aj,?_⟩;show R 0=_;rw[h0,<-Ll (n:=0) (by simpa using ha)];rfl
 ·rintro⟨x,R,W'⟩ ⟨hW,hx,h0⟩;simp only at hW hx h0;subst hW hx;simp only[SX,af,h0];exact⟨aj,.refl _⟩
def GF{p:UInt8->Bool}:∀{l:List UInt8},l.dropWhile p=[]<->∀c∈l,p c=true
 |[]=>by simp
 |c::l=>by
  rw[IQ];cases hp:p c
  ·simp[hp]
  ·simp[hp,GF]
def aes{p:UInt8->Bool}{l:List UInt8}:(((zH p l).dropWhile p)==[])=l.all p:=by
 rw[um,uw,GF,dd];unfold zH;constructor
 ·intro h;have h2:l.reverse.dropWhile p=[]:=by
   cases hd:l.reverse.dropWhile p with
   |nil=>rfl
   |cons x xs=>have:=List.head_dropWhile_not (p:=p) (l:=l.reverse) (by rw[hd];simp);rw[hd]at h;have h3:=h x (by simp);simp only[hd,List.head_cons]at this;rw[h3]at this;cases this
  rw[GF]at h2;exactλc hc=>h2 c (List.mem_reverse.2 hc)
 ·intro h c hc;exact h c (by have:=List.mem_reverse.1 hc;have:=(List.dropWhile_sublist p).subset this;exact List.mem_reverse.1 this)
def E4:List Nat:=[97,98,99,100,101,102,103,104,105,106,107,108,109,110,111,112,113,114,115,116,117,118,119,120,121,122,48,49,50,51,52,53,54,55,56,57,45]
def oA:List UInt8:=E4.map UInt8.ofNat
def X1:∀n,n<256->VE oA (UInt8.ofNat n)=uB (UInt8.ofNat n):=by decide+kernel
def RE(c:UInt8):VE oA c=uB c:=by have:=X1 c.toNat c.toNat_lt;rwa [UInt8.ofNat_toNat]at this
def ag2{l:List UInt8}(hl:l.length<1000)(h0:l≠[])(W:AW):aY (.func (.func 148) #[] #[]) [.string (bf l),Ig E4] W=some (.string (bf ((zH (VE oA) l).dropWhile (VE oA))),W):=by
 refine aQ rfl ?_ H2;unfold Dd;have hs:=adx (l:=oA) (by decide) (by decide+kernel) W;have e1:(l==[])=false:=by simpa using h0
 have e2:(oA==[])=false:=by decide+kernel
 have e3:¬((oA.length:Int)=1):=by decide+kernel
 have hz:(nC []).length=256:=mK [];have ug:fm 256 (.pointer (some ⟨W.next,0,none⟩)) (.agg (nC oA).toArray) (W.add (.cells (nC [])))=some (ak,(W.add (.cells (nC []))).put W.next (.cells (nC oA))):=by rw[DP,de];simp only[bM,xr,mK,aI,aR,QV,kE,bi,ip,tj,jG];rw[wR (by simp[mK]),fp]
 have hc:aH ((W.add (.cells (nC []))).put W.next (.cells (nC oA))) W.next=some (nC oA):=uR _;have hr:=aaH (l:=l) hc hl;have mC:(zH (VE oA) l).length<1000:=by have:=(List.dropWhile_sublist (VE oA) (l:=l.reverse)).length_le;unfold zH;rw[List.length_reverse];rw[List.length_reverse]at this;omega
 have hL:=adA hc mC;show Ok _ _;rw[CK];change aY (.func (.func 180) #[] #[]) [.string (bf (E4.map UInt8.ofNat))] W=_ at hs;simp only[SX,CK,mY,uP,e1,fY ww];simp only[SX,show(E4.map UInt8.ofNat==[])=false from e2,show¬(((E4.map UInt8.ofNat).length:Int)=1)from e3,hs,ajd,ug,hr,hL,af];exact⟨aj,((Le.refl _).add _).put (aR _) _⟩
def wZ(l:List UInt8)(W:AW):aY (.func (.func 116) #[] #[]) [.string (bf l)] W=some (.bool (uH l),W):=by
 refine aQ rfl ?_ LZ;unfold KQ;cases l with
 |nil=>simp only[SX,CK,mY,uP,BEq.rfl,af];exact⟨rfl,.refl _⟩
 |cons c l=>
  have e1:(c::l==[])=false:=rfl;have e0:rf Tryz.prog 9 (.string (bf (c::l))) (.ae 0) W=some (.int .u8 (c.toNat:Int),W):=by have:=lI (P:=Tryz.prog) (W:=W) (k:=.i64) un9 (l:=c::l) (i:=0) (by simp);simpa using this
  by_cases h1:(16:Int)<(((c::l).length:Nat):Int)
  ·simp only[SX,CK,mY,uP,e1,fY ww,h1,af];refine⟨?_,.refl _⟩;have:decide ((c::l).length<=16)=false:=by simpa using(by omega:¬((c::l).length<=16))
   simp only[uH,this,Ec,pj]
  ·have h16:decide ((c::l).length<=16)=true:=by simpa using(by omega:((c::l).length<=16))
   by_cases h2:(c.toNat:Int)<97
   ·simp only[SX,CK,mY,uP,e1,fY ww,h1,e0,h2,af];refine⟨?_,.refl _⟩;have:decide (97<=c.toNat)=false:=by simpa using(by omega:¬(97<=c.toNat))
    simp only[uH,this,pj]
   ·by_cases h3:(122:Int)<(c.toNat:Int)
    ·simp only[SX,CK,mY,uP,e1,fY ww,h1,e0,h2,h3,af];refine⟨?_,.refl _⟩;have:decide (c.toNat<=122)=false:=by simpa using(by omega:¬(c.toNat<=122))
     simp only[uH,this,Ec,pj]
    ·have ht:=ag2 (l:=c::l) (by omega) (by simp) W;have hv:(Ig [97,98,99,100,101,102,103,104,105,106,107,108,109,110,111,112,113,114,115,116,117,118,119,120,121,122,48,49,50,51,52,53,54,55,56,57,45])=Ig E4:=rfl;rw[hv];simp only[SX,CK [],mY,uP,e1,fY ww,h1,e0,h2,h3,ht,aes,af];refine⟨?_,.refl _⟩;have i1:decide (97<=c.toNat)=true:=by simpa using(by omega:(97<=c.toNat))
     have i2:decide (c.toNat<=122)=true:=by simpa using(by omega:(c.toNat<=122))
     have i3:VE oA=uB:=funext RE;simp only[uH,i1,i2,i3,h16,gK]
def XU(c:UInt8):Bool:=decide (97<=c.toNat)&&decide (c.toNat<=122)
def ab3(c:UInt8):Bool:=decide (48<=c.toNat)&&decide (c.toNat<=57)
def wy(c:UInt8)(W:AW):aY (.func (.func 146) #[] #[]) [.int .u8 (c.toNat:Int)] W=some (.bool (XU c),W):=by
 refine aQ rfl ?_ JK;unfold HN XU;by_cases h:97<=c.toNat
 ·have h1:(97:Int)<=(c.toNat:Int):=by omega
  simp only[SX,h,h1,gK,af];exact⟨by congr 2;exact propext ⟨λ_=>by omega,λ_=>by omega⟩,.refl _⟩
 ·have h1:¬(97:Int)<=(c.toNat:Int):=by omega
  simp only[SX,h,h1,pj,af];exact⟨aj,.refl _⟩
def Lv(c:UInt8)(W:AW):aY (.func (.func 147) #[] #[]) [.int .u8 (c.toNat:Int)] W=some (.bool (ab3 c),W):=by
 refine aQ rfl ?_ JV;unfold GO ab3;by_cases h:48<=c.toNat
 ·have h1:(48:Int)<=(c.toNat:Int):=by omega
  simp only[SX,h,h1,gK,af];exact⟨by congr 2;exact propext ⟨λ_=>by omega,λ_=>by omega⟩,.refl _⟩
 ·have h1:¬(48:Int)<=(c.toNat:Int):=by omega
  simp only[SX,h,h1,pj,af];exact⟨aj,.refl _⟩
def aeM(c:UInt8):uB c=(XU c||ab3 c||decide ((c.toNat:Int)=45)):=by unfold uB XU ab3;congr 1;rw[um,uw,decide_eq_true_iff];exact⟨λ_=>by omega,λ_=>by omega⟩
def Uu(l:List UInt8)(W:AW):aY (.func (.func 115) #[] #[]) [.string (bf l)] W=some (.bool (uH l),W):=by
 refine aQ rfl ?_ MJ;unfold KS;cases l with
 |nil=>simp only[SX,fY ww,p8,show((0:Nat):Int)<1 by omega,af];exact⟨rfl,.refl _⟩
 |cons c l=>
  have e1:¬(((c::l).length:Int)<1):=by rw[cP];omega
  have e0:rf Tryz.prog 9 (.string (bf (c::l))) (.ae 0) W=some (.int .u8 (c.toNat:Int),W):=by have:=lI (P:=Tryz.prog) (W:=W) (k:=.i64) un9 (l:=c::l) (i:=0) (by simp);simpa using this
  by_cases h1:(16:Int)<(((c::l).length:Nat):Int)
  ·simp only[SX,fY ww,e1,h1,af];refine⟨?_,.refl _⟩;have:decide ((c::l).length<=16)=false:=by simpa using(by omega:¬((c::l).length<=16))
   simp only[uH,this,Ec,pj]
  ·have h16:decide ((c::l).length<=16)=true:=by simpa using(by omega:((c::l).length<=16))
   cases afL:XU c
   ·simp only[SX,fY ww,e1,h1,e0,wy,afL,af];refine⟨?_,.refl _⟩;have:(decide (97<=c.toNat)&&decide (c.toNat<=122))=false:=afL;simp only[uH,this,pj]
   ·simp only[SX,fY ww,e1,h1,e0,wy,afL];have hn:uH (c::l)=(c::l).all uB:=by have:(decide (97<=c.toNat)&&decide (c.toNat<=122))=true:=afL;simp only[uH,this,h16,gK]
    rw[hn];generalize hL:c::l=L;rw[hL]at h1;refine a8 L.length (by omega) (λk R W'=>W'=W/\R 0=.string (bf L)/\R 3=.ae (k:Int)/\(L.take k).all uB=true)
     (λr=>r.2.2=W/\((r.1=.exit 0/\L.all uB=true)\/(r.1=.ret/\r.2.1 2=.bool false/\L.all uB=false))) ⟨rfl,rfl,rfl,rfl⟩ ?_ ?_ ?_
    ·rintro k R W' hk ⟨rfl,h0,h3,ha⟩;unfold vE;have e1:((k:Int)<(L.length:Int)):=by omega
     have hx:=aeM L[k];have yes:uB L[k]=true->(L.take (k+1)).all uB=true:=λh=>by rw[<-Bw hk,List.all_append,ha];simpa using h
     have no:uB L[k]=false->L.all uB=false:=λh=>by rw[List.all_eq_false];exact⟨L[k],cG hk,by simp[h]⟩
     have e2:(k:Int)+1=((k+1:Nat):Int):=by omega
     have ea:=bc W' k 1;cases i1:XU L[k]
     ·cases i2:ab3 L[k]
      ·by_cases i3:(L[k].toNat:Int)=45
       ·simp only[SX,h0,h3,fY ww,e1,lI un9 hk,wy,Lv,i1,i2,show decide ((L[k].toNat:Int)=45)=true from aK i3,ea,af];refine .inl ⟨aj,aj,h0,by rw[<-e2];rfl,yes (by rw[hx,i1,i2];simp[i3])⟩
       ·simp only[SX,h0,h3,fY ww,e1,lI un9 hk,wy,Lv,i1,i2,i3,ea,af];refine .inr ⟨by simp,aj,.inr ⟨aj,rfl,no (by rw[hx,i1,i2];simp[i3])⟩⟩
      ·simp only[SX,h0,h3,fY ww,e1,lI un9 hk,wy,Lv,i1,i2,ea,af];refine .inl ⟨aj,aj,h0,by rw[<-e2];rfl,yes (by rw[hx,i1,i2];simp)⟩
     ·simp only[SX,h0,h3,fY ww,e1,lI un9 hk,wy,i1,ea,af];refine .inl ⟨aj,aj,h0,by rw[<-e2];rfl,yes (by rw[hx,i1];simp)⟩
    ·rintro R W' ⟨rfl,h0,h3,ha⟩;unfold vE;have e1:¬((L.length:Int)<(L.length:Int)):=by omega
     rw[cO]at ha;simp only[SX,h0,h3,fY ww,e1,af];exact⟨by simp,aj,.inl ⟨aj,ha⟩⟩
    ·rintro⟨x,R,W'⟩ ⟨hW,h⟩;simp only at hW h;subst hW;rcases h with⟨rfl,h⟩|⟨rfl,h2,h⟩
     ·simp only[SX,af,h];exact⟨aj,.refl _⟩
     ·simp only[SX,af,h,h2];exact⟨aj,.refl _⟩
structure mZ where
 name:List UInt8
 rows:List Int
 q:Int
structure ge where
 sh:Int
 cL:Int
 eO:Int
 ax:List mZ
def acg(W:AW)(cs:List ad)(p:Nat)(s:mZ):Prop:=cs[p]? =some (.string (bf s.name))/\cs[p+2]? =some (.ae s.q)/\∃rv,cs[p+1]? =some rv/\dR W rv s.rows/\Ax rv rv=true/\Eng.one rv=true
abbrev ig(W:AW)(v:ad)(l:List mZ):Prop:=Row W 3 (acg W) v l
def Row.imp{α:Type}{W W':AW}{z:Nat}{f g:List ad->Nat->α->Prop}{v:ad}{l:List α}(h:Row W z f v l)(aM:Le W W')(hfg:∀cs p a,f cs p a->g cs p a):Row W' z g v l:=by
 obtain⟨a,c,rfl,k⟩:=h.mono aM;refine⟨a,c,rfl,?_⟩;rcases k with h|⟨b,o,cs,h1,h2,h3,h4⟩
 ·exact .inl h
 ·exact .inr ⟨b,o,cs,h1,h2,h3,λi hi=>hfg _ _ _ (h4 i hi)⟩
def ig.mono{W W':AW}{v:ad}{l:List mZ}(h:ig W v l)(aM:Le W W'):ig W' v l:=
 Row.imp h aM λcs p s ⟨h1,h2,rv,h3,h4,h5⟩=>⟨h1,h2,rv,h3,h4.mono aM,h5⟩
def aaB{cs:List ad}{p:Nat}{a b c:ad}(h0:cs[p]? =some a)(h1:cs[p+1]? =some b)(h2:cs[p+2]? =some c):(cs.drop p).take 3=[a,b,c]:=by obtain⟨i0,e0⟩:=da.1 h0;obtain⟨i1,e1⟩:=da.1 h1;obtain⟨i2,e2⟩:=da.1 h2;rw[ri i0,ri i1,ri i2,e0,e1,e2];rfl
abbrev JH(s:mZ)(rv:ad):ad:=.agg #[.string (bf s.name),rv,.ae s.q]
def ig.get{W:AW}{v:ad}{l:List mZ}(h:ig W v l){i:Nat}(hi:i<l.length):∃b o rv,(∀W' k,nY 3 v (.int k (i:Int)) W'=some (.pointer (some ⟨b,o,none⟩),W'))/\dR W rv l[i].rows/\
 (∀W',Le W W'->dF 3 (.pointer (some ⟨b,o,none⟩)) W'=some (JH l[i] rv,W'))/\(∀W',Le W W'->bu (.pointer (some ⟨b,o,none⟩)) W'=some (.string (bf l[i].name),W'))/\
 (∀W',Le W W'->bu (.pointer (some ⟨b,o+1,none⟩)) W'=some (rv,W'))/\(∀W',Le W W'->bu (.pointer (some ⟨b,o+2,none⟩)) W'=some (.ae l[i].q,W')):=by
 obtain⟨b,o,cs,h1,h2,h3,h4,h5,rv,h6,h7,-⟩:=h.elem hi;refine⟨b,o,rv,h1,h7,λW' aM=>?_,λW' aM=>aP (by rw[aM.aH h2];exact h3) h4,λW' aM=>aP (by rw[aM.aH h2];exact h3) h6,λW' aM=>aP (by rw[aM.aH h2];exact h3) h5⟩;rw[Jt,aM.aH h2,h3];simp only[bM,aaB h4 h6 h5,cP,p8,bi]
def wP(s:mZ)(rt:List mZ):Int:=
 if uH s.name=false then 6 else if(rt.any λx=>x.name==s.name)=true then 8 else if s.rows.length=0 then 6 else if 16<s.rows.length then 3 else
 if(s.rows.any λn=>mu n 1 64)=true then 7 else if mu s.q 0 64=true then 7 else 0
def oI(l:List mZ):Nat->Option (Nat×Int)
 |0=>none
 |k+1=>match oI l k with
  |some r=>some r
  |none=>match l[k]? with
   |some s=>if wP s (l.take k)=0 then none else some (k,wP s (l.take k))
   |none=>none
def sy{l:List mZ}{k n:Nat}{r:Nat×Int}(h:oI l k=some r)(hn:k<=n):oI l n=some r:=by
 induction n with
 |zero=>obtain rfl:k=0:=by omega
        exact h
 |succ n ih=>
  by_cases hk:k=n+1
  ·rw[<-hk];exact h
  ·show(match oI l n with|some r=>some r|none=>_)=_;rw[ih (by omega)]
def hZ(l:List Int):Int:=l.foldr (· + ·) 0
def SU(l:List Int)(n:Int):hZ (l++[n])=hZ l+n:=by
 induction l with
 |nil=>simp[hZ]
 |cons a l ih=>simp only[hZ,pb,List.foldr_cons]at ih|-;omega
def bG(l:List mZ):Int:=hZ (l.map λs=>hZ s.rows)
def Ev(v:ge):Bool:=mu v.sh 1 16||mu v.cL 1 1000000000||mu v.eO 1 1000000000
def dn(v:ge):Int×Int:=
 if Ev v=true then(-1,7)else if v.ax.length=0 then(-1,6)else if 8<v.ax.length then(-1,3)else
 match oI v.ax v.ax.length with
 |some (i,e)=>((i:Int),e)
 |none=>if 4096<bG v.ax then(-1,3)else(0,0)
abbrev fH(v:ge)(sv:ad):ad:=.agg #[.ae v.sh,.ae v.cL,.ae v.eO,sv]
def fC(W:AW)(sv:ad)(l:List mZ):Prop:=ig W sv l/\(∃a c,sv=.slice a l.length c/\((l.length<=c/\c<eJ)\/c=eJ+3)/\(l≠[]->∃b o,a=some ⟨b,o,none⟩))
def fC.mono{W W':AW}{v:ad}{l:List mZ}(h:fC W v l)(aM:Le W W'):fC W' v l:=⟨h.1.mono aM,h.2⟩
def Row.take{α:Type}{W:AW}{z:Nat}{f:List ad->Nat->α->Prop}{b o c:Nat}{l:List α}(h:Row W z f (.slice (some ⟨b,o,none⟩) l.length c) l){k:Nat}(hk:k<=l.length)(h0:l≠[]):Row W z f (.slice (some ⟨b,o,none⟩) k c) (l.take k):=by
 obtain⟨a,c',he,h⟩:=h;injection he with e1 e2 e3;subst e1 e3;refine⟨_,c,by rw[cR,oN hk],?_⟩;rcases h with h|⟨b',o',cs,h1,h2,h3,h4⟩
 ·exact absurd h h0
 ·refine .inr ⟨b',o',cs,h1,h2,h3,λi hi=>?_⟩;rw[List.getElem_take];exact h4 i (by rw[cR]at hi;omega)
def anV:sH Tryz.prog 22=some 3:=by kernel_rfl
def fC.pre{W:AW}{sv:ad}{l:List mZ}(h:fC W sv l){k:Nat}(hk:k<l.length):∃u,(∀W',eP Tryz.prog 22 sv none (some (.ae (k:Int))) none W'=some (u,W'))/\ig W u (l.take k):=by
 obtain⟨h1,a,c,rfl,h2,h4⟩:=h;have h0:l≠[]:=by intro e;rw[e]at hk;simp at hk
 obtain⟨b,o,rfl⟩:=h4 h0;rcases h2 with⟨h2,h3⟩|rfl
 ·exact⟨_,λW'=>Fe anV (by omega) h3,Row.take h1 (by omega) h0⟩
 ·exact⟨_,λW'=>JP anV (by omega) (Nat.le_of_lt hk),Row.take h1 (by omega) h0⟩
def ajr(W:AW):dg Tryz.prog 63 W=some (.pointer (some ⟨W.next,0,none⟩),W.add (.cells [.string (bf []),.slice none 0 0,.ae 0])):=aT (by kernel_rfl) rfl
def nc{α:Type}(p:α->Bool)(l:List α):Int:=match l.findIdx? p with
 |some i=>(i:Int)
 |none=> -1
def wt{α:Type}{p:α->Bool}{l:List α}{k:Nat}(hk:k<l.length)(h1:p l[k]=true)(h2:(l.take k).any p=false):nc p l=(k:Int):=by
 have:l.findIdx? p=some k:=by rw[List.findIdx?_eq_some_iff_getElem];refine⟨hk,h1,λj hj=>?_⟩;rw[IM]at h2;exact h2 _ (by rw[Br];exact⟨j,by omega,rfl⟩)
 unfold nc;rw[this]
def wk{α:Type}{p:α->Bool}{l:List α}(h:l.any p=false):nc p l= -1:=by
 have:l.findIdx? p=none:=by rw[List.findIdx?_eq_none_iff];intro x hx;rw[IM]at h;simpa using h x hx
 unfold nc;rw[this]
def qA{α:Type}{p:α->Bool}{l:List α}{k:Nat}(hk:k<l.length)(h1:p l[k]=false)(h2:(l.take k).any p=false):(l.take (k+1)).any p=false:=by rw[<-Bw hk,List.any_append,h2];simpa using h1
def any_some{α:Type}{p:α->Bool}{l:List α}{k:Nat}(hk:k<l.length)(h1:p l[k]=true):l.any p=true:=by rw[xA];exact⟨_,cG hk,h1⟩
def Ag{α:Type}{p:α->Bool}{l:List α}:decide (0<=nc p l)=l.any p:=by
 unfold nc;cases h:l.findIdx? p with
 |none=>
  rw[List.findIdx?_eq_none_iff]at h;have:l.any p=false:=by rw[IM];intro x hx;simpa using h x hx
  rw[this];rfl
 |some i=>rw[List.findIdx?_eq_some_iff_getElem]at h;obtain⟨h1,h2,h3⟩:=h;rw[any_some h1 h2];simp
def ZI{f v:ad}{p:mZ->Bool}{l:List mZ}{W:AW}(h:ig W v l)(hl:l.length<1000)(hp:∀s rv,aY f [JH s rv] W=some (.bool (p s),W)):aY (.func (.func 149) #[] #[]) [v,f] W=some (.ae (nc p l),W):=by
 refine aQ rfl ?_ iO;unfold ff;simp only[SX,h.len tW];refine a8 l.length (by omega) (λk R W'=>W'=W/\R 0=v/\R 1=f/\R 7=.ae (l.length:Int)/\R 8=.ae (k:Int)/\(l.take k).any p=false)
  (λr=>r.2.2=W/\((r.1=.exit 0/\nc p l= -1)\/(r.1=.ret/\r.2.1 4=.ae (nc p l)))) ⟨rfl,rfl,rfl,rfl,rfl,rfl⟩ ?_ ?_ ?_
 ·rintro k R W' hk ⟨rfl,h0,h1,h7,h8,ha⟩;unfold cW;obtain⟨b,o,rv,g1,g2,g3,_⟩:=h.get hk;have e1:((k:Int)<(l.length:Int)):=by omega
  have e2:(k:Int)+1=((k+1:Nat):Int):=by omega
  have ea:=bc W' k 1;simp only[SX,h0,h1,h7,h8,e1,g1,g3 _ (.refl _),hp];cases hx:p l[k]
  ·simp only[SX,ea,af];exact .inl ⟨aj,aj,h0,h1,h7,by rw[<-e2];rfl,qA hk hx ha⟩
  ·simp only[SX,af];exact .inr ⟨by simp,aj,.inr ⟨aj,by rw[wt hk hx ha];rfl⟩⟩
 ·rintro R W' ⟨rfl,h0,h1,h7,h8,ha⟩;unfold cW;have e1:¬((l.length:Int)<(l.length:Int)):=by omega
  rw[cO]at ha;simp only[SX,h7,h8,e1,af];exact⟨by simp,aj,.inl ⟨aj,wk ha⟩⟩
 ·rintro⟨x,R,W'⟩ ⟨hW,hq⟩;simp only at hW hq;subst hW;rcases hq with⟨rfl,hq⟩|⟨rfl,h4⟩
  ·simp only[SX,af,hq];exact⟨aj,.refl _⟩
  ·simp only[SX,af,h4];exact⟨aj,.refl _⟩
def Zm{f v:ad}{p:Int->Bool}{l:List Int}{W:AW}(h:dR W v l)(hl:l.length<1000)(hp:∀n∈l,aY f [.ae n] W=some (.bool (p n),W)):aY (.func (.func 93) #[] #[]) [v,f] W=some (.ae (nc p l),W):=by
 refine aQ rfl ?_ uf;unfold oS;simp only[SX,h.len vw];refine a8 l.length (by omega) (λk R W'=>W'=W/\R 0=v/\R 1=f/\R 7=.ae (l.length:Int)/\R 8=.ae (k:Int)/\(l.take k).any p=false)
  (λr=>r.2.2=W/\((r.1=.exit 0/\nc p l= -1)\/(r.1=.ret/\r.2.1 4=.ae (nc p l)))) ⟨rfl,rfl,rfl,rfl,rfl,rfl⟩ ?_ ?_ ?_
 ·rintro k R W' hk ⟨rfl,h0,h1,h7,h8,ha⟩;unfold ie;obtain⟨q,g1,g2⟩:=h.get hk;have e1:((k:Int)<(l.length:Int)):=by omega
  have e2:(k:Int)+1=((k+1:Nat):Int):=by omega
  have ea:=bc W' k 1;simp only[SX,h0,h1,h7,h8,e1,g1,g2 _ (.refl _),hp _ (cG hk)];cases hx:p l[k]
  ·simp only[SX,ea,af];exact .inl ⟨aj,aj,h0,h1,h7,by rw[<-e2];rfl,qA hk hx ha⟩
  ·simp only[SX,af];exact .inr ⟨by simp,aj,.inr ⟨aj,by rw[wt hk hx ha];rfl⟩⟩
 ·rintro R W' ⟨rfl,h0,h1,h7,h8,ha⟩;unfold ie;have e1:¬((l.length:Int)<(l.length:Int)):=by omega
  rw[cO]at ha;simp only[SX,h7,h8,e1,af];exact⟨by simp,aj,.inl ⟨aj,wk ha⟩⟩
 ·rintro⟨x,R,W'⟩ ⟨hW,hq⟩;simp only at hW hq;subst hW;rcases hq with⟨rfl,hq⟩|⟨rfl,h4⟩
  ·simp only[SX,af,hq];exact⟨aj,.refl _⟩
  ·simp only[SX,af,h4];exact⟨aj,.refl _⟩
def XR{f v:ad}{p:mZ->Bool}{l:List mZ}{W:AW}(h:ig W v l)(hl:l.length<1000)(hp:∀s rv,aY f [JH s rv] W=some (.bool (p s),W)):aY (.func (.func 117) #[] #[]) [v,f] W=some (.bool (l.any p),W):=by refine aQ rfl ?_ g8;unfold eH;simp only[SX,ZI h hl hp,Ag,af];exact⟨aj,.refl _⟩
def NN{f v:ad}{p:Int->Bool}{l:List Int}{W:AW}(h:dR W v l)(hl:l.length<1000)(hp:∀n∈l,aY f [.ae n] W=some (.bool (p n),W)):aY (.func (.func 54) #[] #[]) [v,f] W=some (.bool (l.any p),W):=by refine aQ rfl ?_ rz;unfold lQ;simp only[SX,Zm h hl hp,Ag,af];exact⟨aj,.refl _⟩
def YX(n:Int)(W:AW):aY (.func (.func 119) #[] #[]) [.ae n] W=some (.bool (mu n 1 64),W):=by refine aQ rfl ?_ FZ;unfold B6;simp only[SX,qi,af];exact⟨aj,.refl _⟩
def aww(a b c:ad)(W:AW):rD (.agg #[a,b,c]) W=some (.pointer (some ⟨W.next,0,none⟩),W.add (.cells [a,b,c])):=jR _
def QE{c:Nat}{m:List UInt8}{W:AW}(hc:∀W',Le W W'->bu (.pointer (some ⟨c,0,none⟩)) W'=some (.string (bf m),W'))(s:mZ)(rv:ad):
 aY (.func (.func 118) #[] #[.pointer (some ⟨c,0,none⟩)]) [JH s rv] W=some (.bool (s.name==m),W):=by
 refine aQ rfl ?_ Fk;unfold Cp;have h0:=hc _ ((Le.refl W).add (.cells [.string (bf s.name),rv,.ae s.q]));have h1:bu (.pointer (some ⟨W.next,0,none⟩)) (W.add (.cells [.string (bf s.name),rv,.ae s.q]))=some (.string (bf s.name),W.add (.cells [.string (bf s.name),rv,.ae s.q])):=aP bC rfl;simp only[SX,h0,h1,aI,uP,af];exact⟨aj,(Le.refl _).add _⟩
def ZA{s:mZ}{rv bv:ad}{rt:List mZ}{W:AW}(hs:dR W rv s.rows)(hb:ig W bv rt)(hl:rt.length<1000):aY (.func (.func 91) #[] #[]) [JH s rv,bv] W=some (.ae (wP s rt),W):=by
 refine aQ rfl ?_ Jn;unfold Ht;have aM:Le W (W.add (.cells [.string (bf s.name),rv,.ae s.q])):=(Le.refl W).add _;simp only[SX,aI];generalize hW1:W.add (.cells [.string (bf s.name),rv,.ae s.q])=W1 at *;have nT:aH W1 W.next=some [.string (bf s.name),rv,.ae s.q]:=by rw[<-hW1];exact bC
 have hn:W.next<W1.next:=by rw[<-hW1,AW.av];omega
 have h0:∀W',Le W1 W'->bu (.pointer (some ⟨W.next,0,none⟩)) W'=some (.string (bf s.name),W'):=λW' k=>aP (by rw[k.aH hn];exact nT) rfl
 have h1:bu (.pointer (some ⟨W.next,1,none⟩)) W1=some (rv,W1):=aP nT rfl;have h2:bu (.pointer (some ⟨W.next,2,none⟩)) W1=some (.ae s.q,W1):=aP nT rfl;have hf:=XR (W:=W1) (hb.mono aM) hl (p:=λx=>x.name==s.name) (λx rv=>QE h0 x rv);unfold wP;cases n1:uH s.name
 ·simp only[SX,h0 _ (.refl _),wZ,n1,bi,af];exact⟨aj,aM⟩
 ·cases n2:rt.any λx=>x.name==s.name
  ·by_cases n3:s.rows.length=0
   ·have e:((s.rows.length:Int)=0):=by omega
    simp only[SX,h0 _ (.refl _),wZ,n1,hf,n2,h1,(hs.mono aM).len vw,e,an n3,b9,vl,gY,af];exact⟨aj,aM⟩
   ·have e:¬((s.rows.length:Int)=0):=by omega
    by_cases n4:16<s.rows.length
    ·have e2:((16:Int)<(s.rows.length:Int)):=by omega
     simp only[SX,h0 _ (.refl _),wZ,n1,hf,n2,h1,(hs.mono aM).len vw,e,n3,e2,n4,bi,b9,vl,gY,af];exact⟨aj,aM⟩
    ·have e2:¬((16:Int)<(s.rows.length:Int)):=by omega
     have hg:=NN (W:=W1) (hs.mono aM) (by omega) (p:=λn=>mu n 1 64) (λn _=>YX n W1);cases n5:s.rows.any λn=>mu n 1 64
     ·cases n6:mu s.q 0 64
      ·simp only[SX,h0 _ (.refl _),wZ,n1,hf,n2,h1,(hs.mono aM).len vw,e,n3,e2,n4,hg,n5,h2,qi,n6,b9,vl,gY,af];exact⟨aj,aM⟩
      ·simp only[SX,h0 _ (.refl _),wZ,n1,hf,n2,h1,(hs.mono aM).len vw,e,n3,e2,n4,hg,n5,h2,qi,n6,bi,b9,vl,gY,af];exact⟨aj,aM⟩
     ·simp only[SX,h0 _ (.refl _),wZ,n1,hf,n2,h1,(hs.mono aM).len vw,e,n3,e2,n4,hg,n5,bi,b9,vl,gY,af];exact⟨aj,aM⟩
  ·simp only[SX,h0 _ (.refl _),wZ,n1,hf,n2,bi,b9,vl,af];exact⟨aj,aM⟩
def aor(a b c d:ad)(W:AW):rD (.agg #[a,b,c,d]) W=some (.pointer (some ⟨W.next,0,none⟩),W.add (.cells [a,b,c,d])):=jR _
def iD(W:AW)(cs ds:List ad):(W.add (.cells cs)).put W.next (.cells ds)=W.add (.cells ds):=jy W _ _
def ahZ{b:Nat}{a c d x y z:ad}{W:AW}(h:aU W b=some [x,y,z])(h1:Eng.one a=true)(h2:Eng.one c=true)(h3:Eng.one d=true):fm 3 (.pointer (some ⟨b,0,none⟩)) (.agg #[a,c,d]) W=some (ak,W.put b (.cells [a,c,d])):=by
 rw[DP,h];have e:(#[a,c,d]:Array ad).toList.all Eng.one=true:=by simp[h1,h2,h3]
 simp only[bM,e,and_true];rfl
def Row.one{α:Type}{W:AW}{z:Nat}{f:List ad->Nat->α->Prop}{v:ad}{l:List α}(h:Row W z f v l):Eng.one v=true:=by obtain⟨a,c,rfl,_⟩:=h;rfl
def VJ{v:ge}{sv:ad}{W:AW}(hs:ig W sv v.ax)(hv:v.ax.length<1000){i:Nat}(hi:i<v.ax.length)(hr:v.ax[i].rows.length<1000):aY (.func (.func 88) #[] #[]) [fH v sv,.ae (i:Int)] W=some (.ae (wP v.ax[i] (v.ax.take i)),W):=by
 refine aQ rfl ?_ Fj;unfold B1;have aM:Le W (W.add (.cells [.ae v.sh,.ae v.cL,.ae v.eO,sv])):=(Le.refl W).add _;obtain⟨b,o,rv,g1,g2,g3,_⟩:=hs.get hi;have c3:bu (.pointer (some ⟨W.next,3,none⟩)) (W.add (.cells [.ae v.sh,.ae v.cL,.ae v.eO,sv]))=some (sv,W.add (.cells [.ae v.sh,.ae v.cL,.ae v.eO,sv])):=aP bC rfl;simp only[SX,aI,c3,g1,g3 _ aM,ajr,ahZ de (pG _) (Row.one g2) (cI _ _),iD];generalize hW1:W.add (.cells [.ae v.sh,.ae v.cL,.ae v.eO,sv])=W1 at *;have iN:Le W (W1.add (.cells [.string (bf v.ax[i].name),rv,.ae v.ax[i].q])):=aM.add _;have As:aH (W1.add (.cells [.string (bf v.ax[i].name),rv,.ae v.ax[i].q])) W.next=some [.ae v.sh,.ae v.cL,.ae v.eO,sv]:=by rw[G5 _ (by rw[<-hW1,AW.av];omega),<-hW1];exact bC
 have lA:aH (W1.add (.cells [.string (bf v.ax[i].name),rv,.ae v.ax[i].q])) W1.next=some [.string (bf v.ax[i].name),rv,.ae v.ax[i].q]:=bC;generalize hW2:W1.add (.cells [.string (bf v.ax[i].name),rv,.ae v.ax[i].q])=W2 at *;have d0:bu (.pointer (some ⟨W1.next,0,none⟩)) W2=some (.string (bf v.ax[i].name),W2):=aP lA rfl;have d1:bu (.pointer (some ⟨W1.next,1,none⟩)) W2=some (rv,W2):=aP lA rfl;have d2:bu (.pointer (some ⟨W1.next,2,none⟩)) W2=some (.ae v.ax[i].q,W2):=aP lA rfl;have c3:bu (.pointer (some ⟨W.next,3,none⟩)) W2=some (sv,W2):=aP As rfl;have hlr:=(g2.mono iN).len (P:=Tryz.prog) vw;simp only[SX,d0,Uu];generalize Gc:v.ax[i]=s at *;unfold wP;cases n1:uH s.name
 ·simp only[SX,bi,af];exact⟨aj,iN⟩
 ·simp only[SX];refine a8 i (by omega) (λk R W'=>W'=W2/\R 1=.ae (i:Int)/\R 2=.pointer (some ⟨W.next,0,none⟩)/\R 5=.pointer (some ⟨W1.next,0,none⟩)/\R 6=.ae (k:Int)/\((v.ax.take i).take k).any (λx=>x.name==s.name)=false)
   (λr=>r.2.2=W2/\((r.1=.exit 0/\r.2.1 5=.pointer (some ⟨W1.next,0,none⟩)/\(v.ax.take i).any (λx=>x.name==s.name)=false)\/(r.1=.ret/\r.2.1 4=.ae 8/\(v.ax.take i).any (λx=>x.name==s.name)=true))) ⟨rfl,rfl,rfl,rfl,rfl,rfl⟩ ?_ ?_ ?_
  ·rintro k R W' hk ⟨rfl,h1,h2,h5,h6,ha⟩;unfold pH;have WS:k<v.ax.length:=by omega
   have hk3:k<(v.ax.take i).length:=by rw[cR];omega
   have Z6:(v.ax.take i)[k]=v.ax[k]:=List.getElem_take;obtain⟨b',o',rv',f1,f2,f3,f4,_⟩:=hs.get WS;have e1:((k:Int)<(i:Int)):=by omega
   have e2:(k:Int)+1=((k+1:Nat):Int):=by omega
   have ea:=bc W' k 1;simp only[SX,h1,h2,h5,h6,e1,aI,c3,f1,eQ,f4 _ iN,d0,uP];cases hx:v.ax[k].name==s.name
   ·simp only[SX,ea,af];exact .inl ⟨aj,aj,h1,h2,h5,by rw[<-e2];rfl,qA hk3 (by rw[Z6];exact hx) ha⟩
   ·simp only[SX,af];exact .inr ⟨by simp,aj,.inr ⟨aj,rfl,any_some hk3 (by rw[Z6];exact hx)⟩⟩
  ·rintro R W' ⟨rfl,h1,h2,h5,h6,ha⟩;unfold pH;have e1:¬((i:Int)<(i:Int)):=by omega
   rw[ou (by rw[cR];omega)]at ha;simp only[SX,h1,h6,e1,af];exact⟨by simp,aj,.inl ⟨aj,h5,ha⟩⟩
  ·rintro⟨x,R,W'⟩ ⟨hW,hq⟩;simp only at hW hq;subst hW;rcases hq with⟨rfl,h5,hq⟩|⟨rfl,h4,hq⟩
   ·by_cases n3:s.rows.length=0
    ·have e:((s.rows.length:Int)=0):=by omega
     simp only[SX,h5,aI,d1,hlr,e,hq,an n3,b9,vl,gY,af];exact⟨aj,iN⟩
    ·have e:¬((s.rows.length:Int)=0):=by omega
     by_cases n4:16<s.rows.length
     ·have e2:((16:Int)<(s.rows.length:Int)):=by omega
      simp only[SX,h5,aI,d1,hlr,e,e2,hq,aq n3,an n4,b9,vl,gY,af];exact⟨aj,iN⟩
     ·have e2:¬((16:Int)<(s.rows.length:Int)):=by omega
      simp only[SX,h5,aI,d1,hlr,e,e2,hq,aq n3,aq n4,b9,vl,gY];refine a8 s.rows.length (by omega) (λk R W3=>W3=W'/\R 5=.pointer (some ⟨W1.next,0,none⟩)/\R 7=.ae (k:Int)/\(s.rows.take k).any (λn=>mu n 1 64)=false)
       (λr=>r.2.2=W'/\((r.1=.exit 2/\r.2.1 5=.pointer (some ⟨W1.next,0,none⟩)/\s.rows.any (λn=>mu n 1 64)=false)\/(r.1=.ret/\r.2.1 4=.ae 7/\s.rows.any (λn=>mu n 1 64)=true))) ⟨rfl,h5,rfl,rfl⟩ ?_ ?_ ?_
      ·rintro k R W3 hk ⟨rfl,h5,h7,ha⟩;unfold pZ;obtain⟨p,p1,p2⟩:=g2.get hk;have e1:((k:Int)<(s.rows.length:Int)):=by omega
       have e2:(k:Int)+1=((k+1:Nat):Int):=by omega
       have ea:=bc W3 k 1;simp only[SX,h5,h7,aI,d1,hlr,e1,p1,p2 _ iN,wh,Di];cases hx:mu s.rows[k] 1 64
       ·simp only[SX,ea,af];exact .inl ⟨aj,aj,h5,by rw[<-e2];rfl,qA hk hx ha⟩
       ·simp only[SX,af];exact .inr ⟨by simp,aj,.inr ⟨aj,rfl,any_some hk hx⟩⟩
      ·rintro R W3 ⟨rfl,h5,h7,ha⟩;unfold pZ;have e1:¬((s.rows.length:Int)<(s.rows.length:Int)):=by omega
       rw[cO]at ha;simp only[SX,h5,h7,aI,d1,hlr,e1,af];exact⟨by simp,aj,.inl ⟨aj,h5,ha⟩⟩
      ·rintro⟨x,R,W3⟩ ⟨hW,hq⟩;simp only at hW hq;subst hW;rcases hq with⟨rfl,h5,hq⟩|⟨rfl,h4,hq⟩
       ·simp only[SX,h5,hq,aI,d2,wh,Di,gY,b9];cases n6:mu s.q 0 64
        ·simp only[SX,gY,b9,af];exact⟨aj,iN⟩
        ·simp only[SX,bi,af];exact⟨aj,iN⟩
       ·simp only[SX,hq,h4,bi,af];exact⟨aj,iN⟩
   ·simp only[SX,h4,hq,bi,b9,vl,af];exact⟨aj,iN⟩
def A6{s:mZ}{b:List mZ}(h:wP s b=0):uH s.name=true/\(b.any λx=>x.name==s.name)=false/\s.rows.length≠0/\s.rows.length<=16/\(∀n∈s.rows,1<=n/\n<=64)/\0<=s.q/\s.q<=64:=by
 unfold wP at h;split at h
 ·exact absurd h (by decide)
 rename_i h1;split at h
 ·exact absurd h (by decide)
 rename_i h2;split at h
 ·exact absurd h (by decide)
 rename_i h3;split at h
 ·exact absurd h (by decide)
 rename_i h4;split at h
 ·exact absurd h (by decide)
 rename_i h5;split at h
 ·exact absurd h (by decide)
 rename_i h6;refine⟨by simpa using h1,by simpa using h2,h3,by omega,?_,?_⟩
 ·intro n hn;have:mu n 1 64=false:=by
   cases ho:mu n 1 64
   ·rfl
   ·exact absurd (xA.2 ⟨n,hn,ho⟩) h5
  unfold mu at this;simp only[Bool.or_eq_false_iff,decide_eq_false_iff_not]at this;omega
 ·unfold mu at h6;simp only[pd,decide_eq_true_iff]at h6;omega
def sz{l:List Int}{k:Nat}(hk:k<l.length):hZ (l.take (k+1))=hZ (l.take k)+l[k]:=by rw[<-Bw hk,SU]
def tS{l:List mZ}{k:Nat}(hk:k<l.length):bG (l.take (k+1))=bG (l.take k)+hZ l[k].rows:=by unfold bG;rw[xl,xl,sz (by rw[fj];exact hk),List.getElem_map]
def sT{l:List Int}(h:∀n∈l,1<=n/\n<=64)(k:Nat):(0<=hZ (l.take k)/\hZ (l.take k)<=64*k)/\(min k l.length:Int)<=hZ (l.take k):=by
 induction k with
 |zero=>simp[hZ];omega
 |succ k ih=>
  by_cases hk:k<l.length
  ·rw[sz hk];have:=h _ (cG hk);omega
  ·rw[ou (by omega)]at ih|-;omega
def AP{l:List mZ}{k:Nat}(h:oI l k=none)(hk:k<l.length):oI l (k+1)=if wP l[k] (l.take k)=0 then none else some (k,wP l[k] (l.take k)):=by show(match oI l k with|some r=>some r|none=>match l[k]? with|some s=>if wP s (l.take k)=0 then none else some (k,wP s (l.take k))|none=>none)=_;rw[h,bJ hk]
def NQ{l:List mZ}{k:Nat}(h:oI l k=none):∀i (hi:i<k) (hl:i<l.length),wP l[i] (l.take i)=0:=by
 induction k with
 |zero=>intro i hi;omega
 |succ k ih=>
  have h1:oI l k=none:=by
   cases hb:oI l k with
   |none=>rfl
   |some r=>rw[sy hb (Nat.le_succ k)]at h;cases h
  intro i hi hl;by_cases e:i=k
  ·subst e;rw[AP h1 hl]at h;split at h
   ·assumption
   ·cases h
  ·exact ih h1 i (by omega) hl
def Sk{l:List mZ}{k:Nat}(h:oI l k=none)(hk:k<=l.length):0<=bG (l.take k)/\bG (l.take k)<=1024*k:=by
 induction k with
 |zero=>simp[bG,hZ]
 |succ k ih=>
  have h1:oI l k=none:=by
   cases hb:oI l k with
   |none=>rfl
   |some r=>rw[sy hb (Nat.le_succ k)]at h;cases h
  have h2:=ih h1 (by omega);have ya:k<l.length:=by omega
  obtain⟨_,_,_,h3,h4,_⟩:=A6 (NQ h k (by omega) ya);rw[tS ya];have h5:=(sT h4 l[k].rows.length).1;rw[cO]at h5;omega
def uM{v:ge}{sv:ad}{W:AW}(hs:fC W sv v.ax)(hv:v.ax.length<1000):aY (.func (.func 50) #[] #[]) [fH v sv] W=some (.tuple #[.ae (dn v).1,.ae (dn v).2],W):=by
 refine aQ rfl ?_ Ju;unfold Hl;have aM:Le W (W.add (.cells [.ae v.sh,.ae v.cL,.ae v.eO,sv])):=(Le.refl W).add _;have hc:aH (W.add (.cells [.ae v.sh,.ae v.cL,.ae v.eO,sv])) W.next=some [.ae v.sh,.ae v.cL,.ae v.eO,sv]:=bC;have hn:W.next<(W.add (.cells [.ae v.sh,.ae v.cL,.ae v.eO,sv])).next:=by rw[AW.av];omega
 simp only[SX,aI];generalize hW1:W.add (.cells [.ae v.sh,.ae v.cL,.ae v.eO,sv])=W1 at *;have c0:bu (.pointer (some ⟨W.next,0,none⟩)) W1=some (.ae v.sh,W1):=aP hc rfl;have c1:bu (.pointer (some ⟨W.next,1,none⟩)) W1=some (.ae v.cL,W1):=aP hc rfl;have c2:bu (.pointer (some ⟨W.next,2,none⟩)) W1=some (.ae v.eO,W1):=aP hc rfl;have c3:∀W',Le W1 W'->bu (.pointer (some ⟨W.next,3,none⟩)) W'=some (sv,W'):=λW' k=>aP (by rw[k.aH hn];exact hc) rfl
 simp only[SX,c0,qi];unfold dn Ev;cases n1:mu v.sh 1 16;case true=>simp only[SX,AN,bi,af];exact⟨aj,aM⟩
 simp only[SX,c1,yg];cases n2:mu v.cL 1 1000000000;case true=>simp only[SX,AN,Bool.or_true,bi,af];exact⟨aj,aM⟩
 simp only[SX,c2,yg];cases n3:mu v.eO 1 1000000000;case true=>simp only[SX,Bool.or_true,bi,af];exact⟨aj,aM⟩
 simp only[SX,c3 _ (.refl _),hs.1.len tW,Bool.or_self,gY,b9];by_cases n4:v.ax.length=0;case pos=>
  have e:((v.ax.length:Int)=0):=by omega
  simp only[SX,e,an n4,af];exact⟨aj,aM⟩
 have e4:¬((v.ax.length:Int)=0):=by omega
 simp only[SX,e4,aq n4];by_cases n5:8<v.ax.length;case pos=>
  have e:((8:Int)<(v.ax.length:Int)):=by omega
  simp only[SX,e,an n5,af];exact⟨aj,aM⟩
 have e5:¬((8:Int)<(v.ax.length:Int)):=by omega
 simp only[SX,e5,aq n5];refine a8 v.ax.length (by omega) (λk R W'=>Le W1 W'/\R 1=.pointer (some ⟨W.next,0,none⟩)/\R 4=.ae (bG (v.ax.take k))/\R 35=sv/\R 36=.ae (v.ax.length:Int)/\R 37=.ae (k:Int)/\oI v.ax k=none)
  (λr=>Le W1 r.2.2/\((r.1=.exit 1/\r.2.1 4=.ae (bG v.ax)/\oI v.ax v.ax.length=none)\/(r.1=.ret/\∃i e,r.2.1 2=.ae ((i:Nat):Int)/\r.2.1 3=.ae e/\oI v.ax v.ax.length=some (i,e)))) ⟨.refl _,rfl,rfl,rfl,rfl,rfl,rfl⟩ ?_ ?_ ?_
 ·rintro k R W' hk ⟨hl,h1,h4,S0,h36,h37,hb⟩;unfold tr;obtain⟨b,o,rv,g1,g2,g3,_⟩:=hs.1.get hk;obtain⟨u,u1,u2⟩:=hs.pre hk;have e1:((k:Int)<(v.ax.length:Int)):=by omega
  simp only[SX,S0,h36,h37,e1,g1,g3 _ (aM.trans hl),ajr,ahZ de (pG _) (Row.one g2) (cI _ _),iD];have C0:Le W1 (W'.add (.cells [.string (bf v.ax[k].name),rv,.ae v.ax[k].q])):=hl.add _;have hc2:aH (W'.add (.cells [.string (bf v.ax[k].name),rv,.ae v.ax[k].q])) W'.next=some [.string (bf v.ax[k].name),rv,.ae v.ax[k].q]:=bC;generalize hW2:W'.add (.cells [.string (bf v.ax[k].name),rv,.ae v.ax[k].q])=W2 at *;have d3:dF 3 (.pointer (some ⟨W'.next,0,none⟩)) W2=some (JH v.ax[k] rv,W2):=xT hc2 rfl;have d1:bu (.pointer (some ⟨W'.next,1,none⟩)) W2=some (rv,W2):=aP hc2 rfl;have hlr:=(g2.mono (aM.trans C0)).len (P:=Tryz.prog) vw;simp only[SX,d3,h1,aI,c3 _ C0,u1,ZA (g2.mono (aM.trans C0)) (u2.mono (aM.trans C0)) (by rw[cR];omega)];have hbs:=AP hb hk;by_cases hz:wP v.ax[k] (v.ax.take k)=0
  ·rw[an hz]at hbs;obtain⟨_,_,_,hr1,hr2,_⟩:=A6 hz;have htb:=Sk hb (by omega);simp only[SX,hz,d1,hlr];refine a8 v.ax[k].rows.length (by omega) (λj R' W3=>W3=W2/\R' 1=.pointer (some ⟨W.next,0,none⟩)/\R' 4=.ae (bG (v.ax.take k)+hZ (v.ax[k].rows.take j))/\R' 35=sv/\R' 36=.ae (v.ax.length:Int)/\R' 37=.ae (k:Int)/\R' 53=rv/\R' 54=.ae (v.ax[k].rows.length:Int)/\R' 55=.ae (j:Int))
    (λr=>r.2.2=W2/\r.1=.exit 3/\r.2.1 1=.pointer (some ⟨W.next,0,none⟩)/\r.2.1 4=.ae (bG (v.ax.take (k+1)))/\r.2.1 35=sv/\r.2.1 36=.ae (v.ax.length:Int)/\r.2.1 37=.ae (k:Int)) ⟨rfl,h1,by rw[tj,show hZ []=0 from rfl,ui];exact h4,S0,h36,h37,rfl,rfl,rfl⟩ ?_ ?_ ?_
   ·rintro j R' W3 hj ⟨rfl,h1,h4,S0,h36,h37,h53,h54,h55⟩;unfold oV;obtain⟨p,p1,p2⟩:=g2.get hj;have e1:((j:Int)<(v.ax[k].rows.length:Int)):=by omega
    have e2:(j:Int)+1=((j+1:Nat):Int):=by omega
    have ea:=bc W3 j 1;have hsb:=(sT hr2 j).1;have hsn:=hr2 _ (cG hj);have eb:=fh W3 (bG (v.ax.take k)+hZ (v.ax[k].rows.take j)) (v.ax[k].rows[j]);simp only[SX,h4,h53,h54,h55,e1,p1,p2 _ (aM.trans C0),ea,eb,af];refine .inl ⟨aj,aj,h1,?_,S0,h36,h37,h53,h54,by rw[<-e2];rfl⟩;rw[sz hj,<-Int.add_assoc];rfl
   ·rintro R' W3 ⟨rfl,h1,h4,S0,h36,h37,h53,h54,h55⟩;unfold oV;have e1:¬((v.ax[k].rows.length:Int)<(v.ax[k].rows.length:Int)):=by omega
    simp only[SX,h54,h55,e1,af];refine⟨by simp,aj,aj,h1,?_,S0,h36,h37⟩;rw[tS hk];rw[cO]at h4;exact h4
   ·rintro⟨x,R',W3⟩ ⟨hW,rfl,h1,h4,S0,h36,h37⟩;simp only at hW h1 h4 S0 h36 h37;subst hW;have e2:(k:Int)+1=((k+1:Nat):Int):=by omega
    have ea:=bc W3 k 1;simp only[SX,h37,ea,af];exact .inl ⟨aj,C0,h1,h4,S0,h36,by rw[<-e2];rfl,hbs⟩
  ·rw[aq hz]at hbs;simp only[SX,hz,af];exact .inr ⟨by simp,C0,.inr ⟨aj,k,_,rfl,rfl,sy hbs (by omega)⟩⟩
 ·rintro R W' ⟨hl,h1,h4,S0,h36,h37,hb⟩;unfold tr;have e1:¬((v.ax.length:Int)<(v.ax.length:Int)):=by omega
  rw[cO]at h4;simp only[SX,h36,h37,e1,af];exact⟨by simp,hl,.inl ⟨aj,h4,hb⟩⟩
 ·rintro⟨x,R,W'⟩ ⟨hl,hq⟩;simp only at hl hq;rcases hq with⟨rfl,h4,hb⟩|⟨rfl,i,e,h2,h3,hb⟩
  ·rw[hb];by_cases n6:4096<bG v.ax
   ·simp only[SX,h4,n6,bi,af];exact⟨aj,aM.trans hl⟩
   ·simp only[SX,h4,n6,b9,af];exact⟨aj,aM.trans hl⟩
  ·rw[hb];simp only[SX,h2,h3,af];exact⟨aj,aM.trans hl⟩
abbrev Tn:=Nat×Nat×Nat
def yI(i k m:Nat):List Tn:=(List.range m).map λj=>(i,k,j)
def Fm(i:Nat)(rows:List Int)(k:Nat):List Tn:=(List.range k).flatMap λj=>yI i j (rows.getD j 0).toNat
def CY(l:List mZ)(n:Nat):List Tn:=(List.range n).flatMap λi=>match l[i]? with
 |some s=>Fm i s.rows s.rows.length
 |none=>[]
def jb(l:List mZ):List Tn:=CY l l.length
def YZ(i k m:Nat):yI i k (m+1)=yI i k m++[(i,k,m)]:=by simp[yI,qW]
def F8(i:Nat)(rows:List Int){k:Nat}(hk:k<rows.length):Fm i rows (k+1)=Fm i rows k++yI i k rows[k].toNat:=by unfold Fm;rw[qW,jo,fN,Ba,fp,pi,bJ hk,oL]
def Fh(l:List mZ){n:Nat}(hn:n<l.length):CY l (n+1)=CY l n++Fm n l[n].rows l[n].rows.length:=by unfold CY;rw[qW,jo,fN,Ba,fp,bJ hn]
structure Good (l:List mZ):Prop where
 len:l.length<=8
 rows:∀s∈l,s.rows.length≠0/\s.rows.length<=16/\∀n∈s.rows,1<=n/\n<=64
def Good.of{l:List mZ}(h:l.length<=8)(hb:oI l l.length=none):Good l:=
 ⟨h,λs hs=>by obtain⟨i,hi,rfl⟩:=By hs;obtain⟨_,_,h3,h4,h5,_⟩:=A6 (NQ hb i hi hi);exact⟨h3,h4,h5⟩⟩
def SC(i k m:Nat):(yI i k m).length=m:=by simp[yI]
def Lx{i:Nat}{rows:List Int}(h:∀n∈rows,1<=n/\n<=64):∀{k:Nat},k<=rows.length->((Fm i rows k).length:Int)=hZ (rows.take k)
 |0,_=>by simp[Fm,hZ]
 |k+1,hk=>by
  have ya:k<rows.length:=by omega
  rw[F8 i rows ya,cD,SC,sz ya,<-Lx (i:=i) h (by omega:k<=rows.length)];have:=h _ (cG ya);omega
def Ar{l:List mZ}(h:Good l):∀{n:Nat},n<=l.length->((CY l n).length:Int)=bG (l.take n)/\(CY l n).length<=1024*n
 |0,_=>by simp[CY,bG,hZ]
 |n+1,hn=>by
  have LK:n<l.length:=by omega
  obtain⟨h1,h2,h3⟩:=h.rows _ (cG LK);have ih:=Ar h (by omega:n<=l.length);have hl:=Lx (i:=n) h3 (aR _);have hb:=(sT h3 l[n].rows.length).1;rw[cO]at hl hb;rw[Fh l LK,cD,tS LK];omega
def tB{l:List mZ}(h:Good l):((jb l).length:Int)=bG l:=by have:=(Ar h (aR l.length)).1;rwa [cO]at this
def Mv(p:Tn):List ad:=[.ae (p.1:Int),.ae (p.2.1:Int),.ae (p.2.2:Int)]
def ail(cs:List ad)(p:Nat)(a:Tn):Prop:=cs[p]? =some (.ae (a.1:Int))/\cs[p+1]? =some (.ae (a.2.1:Int))/\cs[p+2]? =some (.ae (a.2.2:Int))
def S9(p:Tn):(Mv p).length=3:=rfl
def abC(p:Tn):(Mv p).all Eng.one=true:=rfl
def ahz(a:Tn)(pre post:List ad):ail (pre++(Mv a++post)) pre.length a:=by refine⟨?_,?_,?_⟩<;>(rw[sU (by omega)];simp[Mv])
abbrev amz(W:AW)(v:ad)(l:List Tn):Prop:=Row W 3 ail v l
def ao6:mL Tryz.prog #[123,123] 3 24=true:=by kernel_rfl
def aoh(a b c:Int)(W:AW):fd Tryz.prog 177 [(0,.ae a),(1,.ae b),(2,.ae c)] W=some (.agg #[.ae a,.ae b,.ae c],W):=aT (by kernel_rfl) rfl
def aoI(a b c:Int)(W:AW):cX Tryz.prog 123 1 [(0,.agg #[.ae a,.ae b,.ae c])] W=some (.slice (some ⟨W.next,0,none⟩) 1 1,W.add (.cells [.ae a,.ae b,.ae c])):=aT (by kernel_rfl) rfl
def AT{v:ge}{sv:ad}{W:AW}(hs:ig W sv v.ax)(hg:Good v.ax):∃r W',aY (.func (.func 62) #[] #[]) [fH v sv] W=some (r,W')/\Le W W'/\amz W' r (jb v.ax):=by
 have aM:Le W (W.add (.cells [.ae v.sh,.ae v.cL,.ae v.eO,sv])):=(Le.refl W).add _;have hc:aH (W.add (.cells [.ae v.sh,.ae v.cL,.ae v.eO,sv])) W.next=some [.ae v.sh,.ae v.cL,.ae v.eO,sv]:=bC;have hn:W.next<(W.add (.cells [.ae v.sh,.ae v.cL,.ae v.eO,sv])).next:=by rw[AW.av];omega
 refine aaS ?_ It;unfold Es;simp only[SX];generalize hW1:W.add (.cells [.ae v.sh,.ae v.cL,.ae v.eO,sv])=W1 at *;have c3:∀W',Le W1 W'->bu (.pointer (some ⟨W.next,3,none⟩)) W'=some (sv,W'):=λW' k=>aP (by rw[k.aH hn];exact hc) rfl
 have Gr:∀(k:Nat) (W':AW),k<1000000->bO Tryz.prog .add 3 false true (.ae (k:Int)) (.ae 1) W'=some (.ae ((k+1:Nat):Int),W'):=λk W' hk=>mF (by omega) (by omega)
 have dS:=hg.len;refine a8 v.ax.length (by omega) (λi R W'=>Le W1 W'/\R 1=.pointer (some ⟨W.next,0,none⟩)/\R 4=.ae (i:Int)/\sO W1.next W' 3 Mv (R 3) (CY v.ax i))
  (λr=>Le W1 r.2.2/\r.1=.exit 0/\sO W1.next r.2.2 3 Mv (r.2.1 3) (CY v.ax v.ax.length)) ⟨.refl _,rfl,rfl,sO.nil _ _ _ _⟩ ?_ ?_ ?_
 ·rintro i R W' hi ⟨hl,h1,h4,hG⟩;unfold rn;have e1:((i:Int)<(v.ax.length:Int)):=by omega
  simp only[SX,h1,h4,aI,c3 _ hl,hs.len tW,e1];obtain⟨b,o,rv,g1,g2,_,_,g5,_⟩:=hs.get hi;obtain⟨r1,r2,r3⟩:=hg.rows _ (cG hi);have pP:=(Ar hg (by omega:i<=v.ax.length)).2;refine a8 v.ax[i].rows.length (by omega) (λk R W'=>Le W1 W'/\R 1=.pointer (some ⟨W.next,0,none⟩)/\R 4=.ae (i:Int)/\R 5=.ae (k:Int)/\sO W1.next W' 3 Mv (R 3) (CY v.ax i++Fm i v.ax[i].rows k))
   (λr=>Le W1 r.2.2/\r.1=.exit 2/\r.2.1 1=.pointer (some ⟨W.next,0,none⟩)/\r.2.1 4=.ae (i:Int)/\sO W1.next r.2.2 3 Mv (r.2.1 3) (CY v.ax (i+1))) ⟨hl,h1,h4,rfl,by rw[show Fm i v.ax[i].rows 0=[]from rfl,fp];exact hG⟩ ?_ ?_ ?_
  ·rintro k R W' hk ⟨hl,h1,h4,h5,hG⟩;unfold nF;have e1:((k:Int)<(v.ax[i].rows.length:Int)):=by omega
   have g2':=g2.mono (aM.trans hl);simp only[SX,h1,h4,h5,aI,c3 _ hl,g1,g5 _ (aM.trans hl),g2'.len vw,e1];obtain⟨p,p1,p2⟩:=g2.get hk;have hrk:=r3 _ (cG hk);have Ti:=Lx (i:=i) r3 (by omega:k<=v.ax[i].rows.length);have hsb:=(sT r3 k).1;refine a8 v.ax[i].rows[k].toNat (by omega) (λm R W'=>Le W1 W'/\R 1=.pointer (some ⟨W.next,0,none⟩)/\R 4=.ae (i:Int)/\R 5=.ae (k:Int)/\R 6=.ae (m:Int)/\sO W1.next W' 3 Mv (R 3) (CY v.ax i++Fm i v.ax[i].rows k++yI i k m))
    (λr=>Le W1 r.2.2/\r.1=.exit 4/\r.2.1 1=.pointer (some ⟨W.next,0,none⟩)/\r.2.1 4=.ae (i:Int)/\r.2.1 5=.ae (k:Int)/\sO W1.next r.2.2 3 Mv (r.2.1 3) (CY v.ax i++Fm i v.ax[i].rows (k+1))) ⟨hl,h1,h4,h5,rfl,by rw[show yI i k 0=[]from rfl,fp];exact hG⟩ ?_ ?_ ?_
   ·rintro m R W' hm ⟨hl,h1,h4,h5,h6,hG⟩;unfold kz;have e1:((m:Int)<v.ax[i].rows[k]):=by omega
    simp only[SX,h1,h4,h5,h6,aI,c3 _ hl,g1,g5 _ (aM.trans hl),p1,p2 _ (aM.trans hl),e1,aoh,aoI];have hGm:=hG.mono ((Le.refl W').add (.cells [.ae (i:Int),.ae (k:Int),.ae (m:Int)]));have hlb:(CY v.ax i++Fm i v.ax[i].rows k++yI i k m).length+1<100000:=by rw[cD,cD,SC];omega
    obtain⟨v',W2,q1,q2,q3,q4⟩:=sO.push (P:=Tryz.prog) (a:=(i,k,m)) (b:=W'.next) (c:=1) ao6 S9 abC hGm bC (by omega) (by omega) (by rw[AW.av];have:=hl.next;omega);simp only[SX,q1,Gr m _ (by omega),af];refine .inl ⟨aj,q4 _ (hl.add _) (aR _),h1,h4,h5,rfl,?_⟩;rw[YZ,<-iK];exact q2
   ·rintro R W' ⟨hl,h1,h4,h5,h6,hG⟩;unfold kz;have e1:¬((v.ax[i].rows[k].toNat:Int)<v.ax[i].rows[k]):=by omega
    simp only[SX,h1,h4,h5,h6,aI,c3 _ hl,g1,g5 _ (aM.trans hl),p1,p2 _ (aM.trans hl),e1,af];refine⟨by simp,hl,aj,h1,h4,h5,?_⟩;rw[F8 _ _ hk,<-iK];exact hG
   ·rintro⟨x,R,W'⟩ ⟨hl,rfl,h1,h4,h5,hG⟩;simp only at hl h1 h4 h5 hG;simp only[SX,h5,Gr k _ (by omega),af];exact .inl ⟨aj,hl,h1,h4,rfl,hG⟩
  ·rintro R W' ⟨hl,h1,h4,h5,hG⟩;unfold nF;have e1:¬((v.ax[i].rows.length:Int)<(v.ax[i].rows.length:Int)):=by omega
   have g2':=g2.mono (aM.trans hl);simp only[SX,h1,h4,h5,aI,c3 _ hl,g1,g5 _ (aM.trans hl),g2'.len vw,e1,af];refine⟨by simp,hl,aj,h1,h4,?_⟩;rw[Fh _ hi];exact hG
  ·rintro⟨x,R,W'⟩ ⟨hl,rfl,h1,h4,hG⟩;simp only at hl h1 h4 hG;simp only[SX,h4,Gr i _ (by omega),af];exact .inl ⟨aj,hl,h1,rfl,hG⟩
 ·rintro R W' ⟨hl,h1,h4,hG⟩;unfold rn;have e1:¬((v.ax.length:Int)<(v.ax.length:Int)):=by omega
  simp only[SX,h1,h4,aI,c3 _ hl,hs.len tW,e1,af];exact⟨by simp,hl,aj,hG⟩
 ·rintro⟨x,R,W'⟩ ⟨hl,rfl,hG⟩;simp only at hl hG;simp only[SX,af];exact⟨aM.trans hl,hG.row S9 ahz⟩
def ahP:((#[123]:Array ag)[0]?).bind Tryz.prog.underlying=some (.slice 177):=by kernel_rfl
def A3{v:ge}{sv:ad}{W:AW}(hs:ig W sv v.ax)(hv:v.ax.length<1000)(hr:∀s∈v.ax,s.rows.length<1000):aY (.func (.func 48) #[] #[]) [fH v sv] W=some (.tuple #[.ae (dn v).1,.ae (dn v).2],W):=by
 refine aQ rfl ?_ Kf;unfold He;have aM:Le W (W.add (.cells [.ae v.sh,.ae v.cL,.ae v.eO,sv])):=(Le.refl W).add _;have hc:aH (W.add (.cells [.ae v.sh,.ae v.cL,.ae v.eO,sv])) W.next=some [.ae v.sh,.ae v.cL,.ae v.eO,sv]:=bC;have hn:W.next<(W.add (.cells [.ae v.sh,.ae v.cL,.ae v.eO,sv])).next:=by rw[AW.av];omega
 simp only[SX,aI];generalize hW1:W.add (.cells [.ae v.sh,.ae v.cL,.ae v.eO,sv])=W1 at *;have c0:bu (.pointer (some ⟨W.next,0,none⟩)) W1=some (.ae v.sh,W1):=aP hc rfl;have c1:bu (.pointer (some ⟨W.next,1,none⟩)) W1=some (.ae v.cL,W1):=aP hc rfl;have c2:bu (.pointer (some ⟨W.next,2,none⟩)) W1=some (.ae v.eO,W1):=aP hc rfl;have c3:bu (.pointer (some ⟨W.next,3,none⟩)) W1=some (sv,W1):=aP hc rfl;have c4:dF 4 (.pointer (some ⟨W.next,0,none⟩)) W1=some (fH v sv,W1):=xT hc rfl;have LP:=hs.mono aM;simp only[SX,c0,wh,Di];unfold dn Ev;cases n1:mu v.sh 1 16;case true=>simp only[SX,AN,bi,af];exact⟨aj,aM⟩
 simp only[SX,c1,wh,Di];cases n2:mu v.cL 1 1000000000;case true=>simp only[SX,AN,Bool.or_true,bi,af];exact⟨aj,aM⟩
 simp only[SX,c2,wh,Di];cases n3:mu v.eO 1 1000000000;case true=>simp only[SX,Bool.or_true,bi,af];exact⟨aj,aM⟩
 simp only[SX,c3,hs.len tW,Bool.or_self,gY,b9];by_cases n4:v.ax.length=0;case pos=>
  have e:((v.ax.length:Int)=0):=by omega
  simp only[SX,e,an n4,af];exact⟨aj,aM⟩
 have e4:¬((v.ax.length:Int)=0):=by omega
 simp only[SX,e4,aq n4];by_cases n5:8<v.ax.length;case pos=>
  have e:((8:Int)<(v.ax.length:Int)):=by omega
  simp only[SX,e,an n5,af];exact⟨aj,aM⟩
 have e5:¬((8:Int)<(v.ax.length:Int)):=by omega
 simp only[SX,e5,aq n5];refine a8 v.ax.length (by omega) (λk R W'=>W'=W1/\R 1=.pointer (some ⟨W.next,0,none⟩)/\R 4=.ae (k:Int)/\oI v.ax k=none)
  (λr=>r.2.2=W1/\((r.1=.exit 0/\r.2.1 1=.pointer (some ⟨W.next,0,none⟩)/\oI v.ax v.ax.length=none)\/(r.1=.ret/\∃i e,r.2.1 2=.ae ((i:Nat):Int)/\r.2.1 3=.ae e/\oI v.ax v.ax.length=some (i,e)))) ⟨rfl,rfl,rfl,rfl⟩ ?_ ?_ ?_
 ·rintro k R W' hk ⟨rfl,h1,h4,hb⟩;unfold sE;have e1:((k:Int)<(v.ax.length:Int)):=by omega
  have e2:(k:Int)+1=((k+1:Nat):Int):=by omega
  have ea:=bc W' k 1;simp only[SX,h1,h4,aI,c3,hs.len tW,e1,c4,VJ LP hv hk (hr _ (cG hk))];have hbs:=AP hb hk;by_cases hz:wP v.ax[k] (v.ax.take k)=0
  ·rw[an hz]at hbs;simp only[SX,hz,ea,af];exact .inl ⟨aj,aj,h1,by rw[<-e2];rfl,hbs⟩
  ·rw[aq hz]at hbs;simp only[SX,hz,af];exact .inr ⟨by simp,aj,.inr ⟨aj,k,_,rfl,rfl,sy hbs (by omega)⟩⟩
 ·rintro R W' ⟨rfl,h1,h4,hb⟩;unfold sE;have e1:¬((v.ax.length:Int)<(v.ax.length:Int)):=by omega
  simp only[SX,h1,h4,aI,c3,hs.len tW,e1,af];exact⟨by simp,aj,.inl ⟨aj,h1,hb⟩⟩
 ·rintro⟨x,R,W'⟩ ⟨hW,hq⟩;simp only at hW hq;subst hW;rcases hq with⟨rfl,h1,hb⟩|⟨rfl,i,e,h2,h3,hb⟩
  ·rw[hb];have hg:=Good.of (by omega) hb;obtain⟨r,W2,q1,q2,q3⟩:=AT LP hg;simp only[SX,h1,c4,q1,q3.len ahP,tB hg];by_cases n6:4096<bG v.ax
   ·simp only[SX,n6,bi,af];exact⟨aj,aM.trans q2⟩
   ·simp only[SX,n6,b9,af];exact⟨aj,aM.trans q2⟩
  ·rw[hb];simp only[SX,h2,h3,af];exact⟨aj,aM⟩
def cF{v:ge}(h:(dn v).2=0):Good v.ax/\Ev v=false/\0<v.ax.length/\oI v.ax v.ax.length=none/\bG v.ax<=4096/\(dn v).1=0:=by
 unfold dn at h|-;split at h
 ·exact absurd h (by decide)
 rename_i h1;split at h
 ·exact absurd h (by decide)
 rename_i h2;split at h
 ·exact absurd h (by decide)
 rename_i h3;cases hb:oI v.ax v.ax.length with
 |some r=>
  obtain⟨i,e⟩:=r;rw[hb]at h;simp only at h;subst h;exfalso;have:∀n,oI v.ax n≠some (i,0):=by
   intro n;induction n with
   |zero=>simp[oI]
   |succ n ih=>
    intro hn;have LK:(match oI v.ax n with|some r=>some r|none=>match v.ax[n]? with|some s=>if wP s (v.ax.take n)=0 then none else some (n,wP s (v.ax.take n))|none=>none)=some (i,0):=hn;cases hbn:oI v.ax n with
    |some r=>rw[hbn]at LK;simp only at LK;rw[LK]at hbn;exact ih hbn
    |none=>
     rw[hbn]at LK;simp only at LK;split at LK
     ·split at LK
      ·cases LK
      ·rename_i hz;injection LK with LK;injection LK with _ e;exact hz e
     ·cases LK
  exact this _ hb
 |none=>
  rw[hb]at h;simp only at h|-;split at h
  ·exact absurd h (by decide)
  rename_i h4;rw[aq h4,aq h1,aq h2,aq h3];exact⟨Good.of (by omega) hb,by simpa using h1,by omega,aj,by omega,rfl⟩
def jC(v:ge)(sv:ad)(W:AW):∃W1,rD (fH v sv) W=some (.pointer (some ⟨W.next,0,none⟩),W1)/\Le W W1/\W.next<W1.next/\
 (∀W',Le W1 W'->dF 4 (.pointer (some ⟨W.next,0,none⟩)) W'=some (fH v sv,W'))/\(∀W',Le W1 W'->bu (.pointer (some ⟨W.next,0,none⟩)) W'=some (.ae v.sh,W'))/\(∀W',Le W1 W'->bu (.pointer (some ⟨W.next,3,none⟩)) W'=some (sv,W')):=by
 have hc:aH (W.add (.cells [.ae v.sh,.ae v.cL,.ae v.eO,sv])) W.next=some [.ae v.sh,.ae v.cL,.ae v.eO,sv]:=bC;have hn:W.next<(W.add (.cells [.ae v.sh,.ae v.cL,.ae v.eO,sv])).next:=by rw[AW.av];omega
 exact⟨_,aor _ _ _ _ W,(Le.refl W).add _,hn,λW' k=>xT (by rw[k.aH hn];exact hc) rfl,λW' k=>aP (by rw[k.aH hn];exact hc) rfl,λW' k=>aP (by rw[k.aH hn];exact hc) rfl⟩
def cn(v:ge):Int×Int:=if(dn v).2=0 then(bG v.ax,0)else(0,(dn v).2)
def uJ{v:ge}{sv:ad}{W:AW}(hs:ig W sv v.ax)(hv:v.ax.length<1000)(hr:∀s∈v.ax,s.rows.length<1000):aY (.func (.func 30) #[] #[]) [fH v sv] W=some (.tuple #[.ae (cn v).1,.ae (cn v).2],W):=by
 refine aQ rfl ?_ Ku;unfold HA cn;obtain⟨W1,hB,aM,hn,c4,c0,c3⟩:=jC v sv W;simp only[SX,hB,c4 _ (.refl _),A3 (hs.mono aM) hv hr];by_cases he:(dn v).2=0
 ·obtain⟨r,W2,q1,q2,q3⟩:=AT (hs.mono aM) (cF he).1;simp only[SX,aK he,q1,q3.len ahP,tB (cF he).1,an he,af];exact⟨aj,aM.trans q2⟩
 ·simp only[SX,he,b9,af];exact⟨aj,aM⟩
structure iq where
 sec:Nat
 row:Nat
 first:Int
 many:Int
abbrev L9(r:iq):ad:=.agg #[.ae (r.sec:Int),.ae (r.row:Int),.ae r.first,.ae r.many]
def sL(l:List mZ)(i:Nat)(rows:List Int)(k:Nat):List iq:=(List.range k).map λj=>⟨i,j,bG (l.take i)+hZ (rows.take j),rows.getD j 0⟩
def qw(l:List mZ)(n:Nat):List iq:=(List.range n).flatMap λi=>match l[i]? with
 |some s=>sL l i s.rows s.rows.length
 |none=>[]
def eZ(l:List mZ):List iq:=qw l l.length
def pR(l:List mZ)(i:Nat)(rows:List Int){k:Nat}(hk:k<rows.length):sL l i rows (k+1)=sL l i rows k++[⟨i,k,bG (l.take i)+hZ (rows.take k),rows[k]⟩]:=by unfold sL;rw[qW,qX,mc,mY,pi,bJ hk,oL]
def nD(l:List mZ){n:Nat}(hn:n<l.length):qw l (n+1)=qw l n++sL l n l[n].rows l[n].rows.length:=by unfold qw;rw[qW,jo,fN,Ba,fp,bJ hn]
def adg{l:List mZ}{i:Nat}{rows:List Int}{k n:Nat}(h:k<=n)(hn:n<=rows.length):sL l i rows k<+:sL l i rows n:=by
 induction n with
 |zero=>obtain rfl:k=0:=by omega
        exact List.prefix_refl _
 |succ n ih=>
  by_cases e:k=n+1
  ·subst e;exact List.prefix_refl _
  ·rw[pR l i rows (by omega)];exact(ih (by omega) (by omega)).trans (IX _ _)
def YC{l:List mZ}{k n:Nat}(h:k<=n)(hn:n<=l.length):qw l k<+:qw l n:=by
 induction n with
 |zero=>obtain rfl:k=0:=by omega
        exact List.prefix_refl _
 |succ n ih=>
  by_cases e:k=n+1
  ·subst e;exact List.prefix_refl _
  ·rw[nD l (by omega)];exact(ih (by omega) (by omega)).trans (IX _ _)
def aeW{l:List mZ}{i k:Nat}(hi:i<l.length)(hk:k<l[i].rows.length):(qw l i++sL l i l[i].rows k)++[⟨i,k,bG (l.take i)+hZ (l[i].rows.take k),l[i].rows[k]⟩]<+:eZ l:=by rw[iK,<-pR l i _ hk];refine List.IsPrefix.trans ?_ (YC (k:=i+1) (by omega) (aR _));rw[nD l hi];exact(List.prefix_append_right_inj _).2 (adg (by omega) (aR _))
def atz(a b c d:Int)(W:AW):fd Tryz.prog 163 [(0,.ae a),(1,.ae b),(2,.ae c),(3,.ae d)] W=some (.agg #[.ae a,.ae b,.ae c,.ae d],W):=aT (by kernel_rfl) rfl
def agc{v:ge}{sv f:ad}{bx:Nat}{W0 W:AW}(hs:ig W0 sv v.ax)(hg:Good v.ax)(hb:bu (.pointer (some ⟨bx,3,none⟩)) W=some (sv,W))(I:List iq->AW->Prop)(Q:AW->Prop)
 (hI:I [] W)(hS:∀pre W',I pre W'->Le W0 W')(hA:∀pre W' cs,I pre W'->I pre (W'.add (.cells cs)))
 (step:∀pre r W',pre++[r]<+:eZ v.ax->I pre W'->∃b W2,aY f [L9 r] W'=some (.bool b,W2)/\(b=true->I (pre++[r]) W2)/\(b=false->Q W2)):
 ∃W2,aY (.func (.func 120) #[] #[.pointer (some ⟨bx,0,none⟩)]) [f] W=some (.tuple #[],W2)/\(I (eZ v.ax) W2\/Q W2):=by
 have jL:Ok (xC aY f (.pointer (some ⟨bx,0,none⟩)) W) λr=>r.1=.tuple #[]/\(I (eZ v.ax) r.2\/Q r.2):=by
  unfold xC;have dS:=hg.len;have Gr:∀(k:Nat) (W':AW),k<1000000->bO Tryz.prog .add 3 false true (.ae (k:Int)) (.ae 1) W'=some (.ae ((k+1:Nat):Int),W'):=λk W' hk=>mF (by omega) (by omega)
  simp only[SX,aI,hb,hs.len tW];refine a8 v.ax.length (by omega) (λi R W'=>R 0=f/\R 3=.ae (bG (v.ax.take i))/\R 9=sv/\R 10=.ae (v.ax.length:Int)/\R 11=.ae (i:Int)/\I (qw v.ax i) W')
   (λr=>(r.1=.exit 0/\I (eZ v.ax) r.2.2)\/(r.1=.ret/\Q r.2.2)) ⟨rfl,rfl,rfl,rfl,rfl,hI⟩ ?_ ?_ ?_
  ·rintro i R W' hi ⟨h0,h3,h9,Jv,Um,sf⟩;unfold qU;have e1:((i:Int)<(v.ax.length:Int)):=by omega
   obtain⟨b,o,rv,g1,g2,g3,_⟩:=hs.get hi;obtain⟨r1,r2,r3⟩:=hg.rows _ (cG hi);have htb:0<=bG (v.ax.take i)/\bG (v.ax.take i)<=1024*i:=by have:=Ar hg (by omega:i<=v.ax.length);omega
   have hI2:=hA _ _ [.string (bf v.ax[i].name),rv,.ae v.ax[i].q] sf;have hc2:aH (W'.add (.cells [.string (bf v.ax[i].name),rv,.ae v.ax[i].q])) W'.next=some [.string (bf v.ax[i].name),rv,.ae v.ax[i].q]:=bC;simp only[SX,h9,Jv,Um,e1,g1,g3 _ (hS _ _ sf),ajr,ahZ de (pG _) (Row.one g2) (cI _ _),iD,aI];generalize hW2:W'.add (.cells [.string (bf v.ax[i].name),rv,.ae v.ax[i].q])=W2 at *;have d1:bu (.pointer (some ⟨W'.next,1,none⟩)) W2=some (rv,W2):=aP hc2 rfl;simp only[SX,d1,g2.len vw];refine a8 v.ax[i].rows.length (by omega) (λk R W'=>R 0=f/\R 3=.ae (bG (v.ax.take i)+hZ (v.ax[i].rows.take k))/\R 4=.ae (i:Int)/\R 9=sv/\R 10=.ae (v.ax.length:Int)/\R 11=.ae (i:Int)/\R 17=rv/\R 18=.ae (v.ax[i].rows.length:Int)/\R 19=.ae (k:Int)/\I (qw v.ax i++sL v.ax i v.ax[i].rows k) W')
    (λr=>(r.1=.exit 2/\r.2.1 0=f/\r.2.1 3=.ae (bG (v.ax.take (i+1)))/\r.2.1 9=sv/\r.2.1 10=.ae (v.ax.length:Int)/\r.2.1 11=.ae (i:Int)/\I (qw v.ax (i+1)) r.2.2)\/(r.1=.ret/\Q r.2.2))
    ⟨h0,by rw[tj,show hZ []=0 from rfl,ui];exact h3,rfl,h9,Jv,Um,rfl,rfl,rfl,by rw[show sL v.ax i v.ax[i].rows 0=[]from rfl,fp];exact hI2⟩ ?_ ?_ ?_
   ·rintro k R W' hk ⟨h0,h3,h4,h9,Jv,Um,h17,h18,h19,sf⟩;unfold nj;have e1:((k:Int)<(v.ax[i].rows.length:Int)):=by omega
    obtain⟨p,p1,p2⟩:=g2.get hk;obtain⟨c,W3,s1,s2,s3⟩:=step _ ⟨i,k,bG (v.ax.take i)+hZ (v.ax[i].rows.take k),v.ax[i].rows[k]⟩ W' (aeW hi hk) sf;have hsb:=(sT r3 k).1;have hsn:=r3 _ (cG hk);have eb:=fh W3 (bG (v.ax.take i)+hZ (v.ax[i].rows.take k)) (v.ax[i].rows[k]);simp only[SX,h0,h3,h4,h17,h18,h19,e1,p1,p2 _ (hS _ _ sf),atz,s1];cases c
    ·simp only[SX,af];exact .inr ⟨by simp,.inr ⟨aj,s3 rfl⟩⟩
    ·simp only[SX,eb,Gr k _ (by omega),af];refine .inl ⟨aj,h0,?_,h4,h9,Jv,Um,h17,h18,rfl,?_⟩
     ·rw[sz hk,<-Int.add_assoc];rfl
     ·rw[pR _ _ _ hk,<-iK];exact s2 rfl
   ·rintro R W' ⟨h0,h3,h4,h9,Jv,Um,h17,h18,h19,sf⟩;unfold nj;have e1:¬((v.ax[i].rows.length:Int)<(v.ax[i].rows.length:Int)):=by omega
    simp only[SX,h18,h19,e1,af];refine⟨by simp,.inl ⟨aj,h0,?_,h9,Jv,Um,?_⟩⟩
    ·rw[tS hi];rw[cO]at h3;exact h3
    ·rw[nD _ hi];exact sf
   ·rintro⟨x,R,W'⟩ hq;rcases hq with⟨rfl,h0,h3,h9,Jv,Um,sf⟩|⟨rfl,hq⟩
    ·simp only at h0 h3 h9 Jv Um sf;simp only[SX,Um,Gr i _ (by omega),af];exact .inl ⟨aj,h0,h3,h9,Jv,rfl,sf⟩
    ·simp only[SX,af];exact .inr ⟨by simp,.inr ⟨aj,hq⟩⟩
  ·rintro R W' ⟨h0,h3,h9,Jv,Um,sf⟩;unfold qU;have e1:¬((v.ax.length:Int)<(v.ax.length:Int)):=by omega
   simp only[SX,Jv,Um,e1,af];exact⟨by simp,.inl ⟨aj,sf⟩⟩
  ·rintro⟨x,R,W'⟩ hq;rcases hq with⟨rfl,sf⟩|⟨rfl,hq⟩
   ·simp only[SX,af];exact⟨aj,.inl sf⟩
   ·simp only[SX,af];exact⟨aj,.inr hq⟩
 obtain⟨⟨r,W'⟩,h1,h2,h3⟩:=jL;simp only at h2 h3;subst h2;exact⟨W',by rw[HS h1,jx rfl],h3⟩
def Pj{v:ge}{sv:ad}(W:AW):∃W1,aY (.func (.func 94) #[] #[]) [fH v sv] W=some (.func (.func 120) #[] #[.pointer (some ⟨W.next,0,none⟩)],W1)/\Le W W1/\W.next<W1.next/\(∀W',Le W1 W'->bu (.pointer (some ⟨W.next,3,none⟩)) W'=some (sv,W')):=by
 obtain⟨W1,hB,aM,hn,c4,c0,c3⟩:=jC v sv W;refine⟨W1,?_,aM,hn,c3⟩;have:CJ aY (fH v sv) W=some (.func (.func 120) #[] #[.pointer (some ⟨W.next,0,none⟩)],W1):=by unfold CJ;simp only[SX,hB]
 rw[MA this,jx rfl]
def Uq{v:ge}{sv:ad}{W0 W:AW}{bx nt:Nat}{R:Nat->ad}{ps:Array Tmp}{ac bd:Code}(hs:ig W0 sv v.ax)(hg:Good v.ax)
 (hb:bu (.pointer (some ⟨bx,3,none⟩)) (W.add (.loop .ready none R nt ps ac bd))=some (sv,W.add (.loop .ready none R nt ps ac bd)))(hp:ps.size=1)
 (J:List iq->AW->Prop)(Q:X->AW->Prop)(h0:J [] (W.add (.loop .ready none R nt ps ac bd)))
 (hS:∀pre W',J pre W'->Le W0 W')(hA:∀pre W' cs,J pre W'->W.next<W'.next->J pre (W'.add (.cells cs)))(hP:∀pre W' o,J pre W'->J pre (W'.put W.next o))(hQ:∀x W' o,Q x W'->Q x (W'.put W.next o))
 (d:Nat)(has:∀r W' R',R'=nS ps.toList [L9 r] R->fW Tryz.prog aY false nt ac LT R' W' np=some (.normal,iJ R' (some d) (.pointer (some ⟨W'.next,0,none⟩)),W'.add (.cells [.ae (r.sec:Int),.ae (r.row:Int),.ae r.first,.ae r.many])))
 (step:∀pre r W' b R',R'=iJ (nS ps.toList [L9 r] R) (some d) (.pointer (some ⟨b,0,none⟩))->pre++[r]<+:eZ v.ax->J pre W'->W.next<W'.next->aU W' b=some [.ae (r.sec:Int),.ae (r.row:Int),.ae r.first,.ae r.many]->W.next<b->b<W'.next->
   Ok (fW Tryz.prog aY false nt bd LT R' W' np) λq=>W'.next<=q.2.2.next/\q.2.2.get W.next=W'.get W.next/\((q.1=.normal/\J (pre++[r]) q.2.2)\/(q.1≠ .normal/\Q q.1 q.2.2))):
 ∃x W2,kX aY (.func (.func 120) #[] #[.pointer (some ⟨bx,0,none⟩)]) (.loop .ready none R nt ps ac bd) W=some (x,W2.kill W.next)/\((x=.normal/\J (eZ v.ax) W2)\/(x≠ .normal/\Q x W2)):=by
 obtain⟨W2,h1,h2⟩:=agc (f:=.func (.yield W.next) #[] #[]) (W:=W.add (.loop .ready none R nt ps ac bd)) hs hg hb
  (λpre W'=>J pre W'/\W.next<W'.next/\W'.get W.next=some (.loop .ready none R nt ps ac bd))
  (λW'=>∃x,x≠ .normal/\Q x W'/\W'.get W.next=some (.loop .done x.jump R nt ps ac bd))
  ⟨h0,by rw[AW.av];omega,AW.aL _ _⟩ (λpre W' h=>hS _ _ h.1)
  (λpre W' cs h=>⟨hA _ _ _ h.1 h.2.1,by rw[AW.av];omega,by rw[AW.aG _ _ (by omega)];exact h.2.2⟩)
  (λpre r W' oY ⟨hJ,mC,dX⟩=>by
    have hJ2:=hP _ _ (.loop .busy none R nt ps ac bd) (hA _ _ [.ae (r.sec:Int),.ae (r.row:Int),.ae r.first,.ae r.many] hJ mC);obtain⟨⟨x,R2,W3⟩,k1,k2,k3,k4⟩:=step pre r _ W'.next _ rfl oY hJ2 (by rw[AW.bH,AW.av];omega) (by rw[bQ _ (by omega)];exact de) mC (by rw[AW.bH,AW.av];omega);simp only at k1 k2 k3 k4;rw[AW.aW]at k3;have hy:=E8 (P:=Tryz.prog) (args:=[L9 r]) dX (by rw[hp];rfl) (has r W' _ rfl) (by rw[AW.aG _ _ (by omega)];exact dX) k1 k3;have hn3:W.next<W3.next:=by rw[AW.bH,AW.av]at k2;omega
    rcases k4 with⟨rfl,k4⟩|⟨kx,k4⟩
    ·exact⟨true,_,hy,λ_=>⟨hP _ _ _ k4,by rw[AW.bH];exact hn3,AW.aW _ _ _⟩,λh=>by cases h⟩
    ·refine⟨false,W3.put W.next (.loop .done x.jump R nt ps ac bd),?_,λh=>by(cases h),λ_=>⟨x,kx,hQ _ _ _ k4,AW.aW _ _ _⟩⟩;refine hy.trans ?_;cases x with
     |normal=>exact absurd rfl kx
     |exit i=>rfl
     |ret=>rfl)
 rcases h2 with⟨h2,h3,h4⟩|⟨x,h2,h3,h4⟩
 ·exact⟨.normal,W2,wQ h1 h4 (by simp),.inl ⟨rfl,h2⟩⟩
 ·exact⟨x,W2,KV h1 h4,.inr ⟨h2,h3⟩⟩
def PD{v:ge}{sv:ad}{W0 W:AW}{bx nt:Nat}{R:Nat->ad}{ps:Array Tmp}{ac bd:Code}{ρ:Type}{K:X×AW->Option ρ}{G:ρ->Prop}(hs:ig W0 sv v.ax)(hg:Good v.ax)
 (hb:bu (.pointer (some ⟨bx,3,none⟩)) (W.add (.loop .ready none R nt ps ac bd))=some (sv,W.add (.loop .ready none R nt ps ac bd)))(hp:ps.size=1)
 (J:List iq->AW->Prop)(Q:X->AW->Prop)(h0:J [] (W.add (.loop .ready none R nt ps ac bd)))
 (hS:∀pre W',J pre W'->Le W0 W')(hA:∀pre W' cs,J pre W'->W.next<W'.next->J pre (W'.add (.cells cs)))(hP:∀pre W' o,J pre W'->J pre (W'.put W.next o))(hQ:∀x W' o,Q x W'->Q x (W'.put W.next o))
 (d:Nat)(has:∀r W' R',R'=nS ps.toList [L9 r] R->fW Tryz.prog aY false nt ac LT R' W' np=some (.normal,iJ R' (some d) (.pointer (some ⟨W'.next,0,none⟩)),W'.add (.cells [.ae (r.sec:Int),.ae (r.row:Int),.ae r.first,.ae r.many])))
 (step:∀pre r W' b R',R'=iJ (nS ps.toList [L9 r] R) (some d) (.pointer (some ⟨b,0,none⟩))->pre++[r]<+:eZ v.ax->J pre W'->W.next<W'.next->aU W' b=some [.ae (r.sec:Int),.ae (r.row:Int),.ae r.first,.ae r.many]->W.next<b->b<W'.next->
   Ok (fW Tryz.prog aY false nt bd LT R' W' np) λq=>W'.next<=q.2.2.next/\q.2.2.get W.next=W'.get W.next/\((q.1=.normal/\J (pre++[r]) q.2.2)\/(q.1≠ .normal/\Q q.1 q.2.2)))
 (after:∀x W2,(x=.normal/\J (eZ v.ax) W2)\/(x≠ .normal/\Q x W2)->Ok (K (x,W2.kill W.next)) G):
 Ok (eY (kX aY (.func (.func 120) #[] #[.pointer (some ⟨bx,0,none⟩)]) (.loop .ready none R nt ps ac bd) W) K) G:=by
 obtain⟨x,W2,h1,h2⟩:=Uq hs hg hb hp J Q h0 hS hA hP hQ d has step;rw[h1,Ee];exact after x W2 h2
def asD(p:Tmp)(v:ad)(R:Nat->ad):nS (#[p]:Array Tmp).toList [v] R=iJ R (some p) v:=rfl
def dV(l:List iq):Int:=hZ (l.map (·.many))
def mm:Int->List iq->Prop
 |_,[]=>True
 |s,r::l=>r.first=s/\mm (s+r.many) l
def nN:dV []=0:=rfl
def fz(r:iq)(l:List iq):dV (r::l)=r.many+dV l:=rfl
def oW(a b:List iq):dV (a++b)=dV a+dV b:=by
 induction a with
 |nil=>simp[nN]
 |cons r a ih=>rw[pb,fz,fz,ih];omega
def mm.append:∀{a b:List iq} {s:Int},mm s a->mm (s+dV a) b->mm s (a++b)
 |[],_,s,_,h=>by rw[nN,ui]at h;exact h
 |r::a,b,s,⟨h1,h2⟩,h=>⟨h1,mm.append h2 (by rw[fz,<-Int.add_assoc]at h;exact h)⟩
def mm.at:∀{a b:List iq} {r:iq} {s:Int},mm s (a++r::b)->r.first=s+dV a
 |[],_,_,s,⟨h,_⟩=>by rw[h,nN,ui]
 |x::a,b,r,s,⟨_,h⟩=>by rw[mm.at h,fz,Int.add_assoc]
def Dt(l:List mZ)(i:Nat)(rows:List Int):∀{k:Nat},k<=rows.length->dV (sL l i rows k)=hZ (rows.take k)
 |0,_=>rfl
 |k+1,hk=>by rw[pR l i rows (by omega),oW,Dt l i rows (by omega),sz (by omega),fz,nN,ui]
def HC(l:List mZ)(i:Nat)(rows:List Int):∀{k:Nat},k<=rows.length->mm (bG (l.take i)) (sL l i rows k)
 |0,_=>trivial
 |k+1,hk=>by rw[pR l i rows (by omega)];exact(HC l i rows (by omega)).append ⟨by rw[Dt l i rows (by omega)],aj⟩
def Ga(l:List mZ):∀{n:Nat},n<=l.length->dV (qw l n)=bG (l.take n)
 |0,_=>rfl
 |n+1,hn=>by rw[nD l (by omega),oW,Ga l (by omega),Dt l n _ (aR _),tS (by omega),cO]
def Ey(l:List mZ):∀{n:Nat},n<=l.length->mm 0 (qw l n)
 |0,_=>trivial
 |n+1,hn=>by rw[nD l (by omega)];refine(Ey l (by omega)).append ?_;rw[Ga l (by omega),Int.zero_add];exact HC l n _ (aR _)
def DY(l:List mZ):dV (eZ l)=bG l:=by have:=Ga l (aR l.length);rwa [cO]at this
def uh(l:List mZ):mm 0 (eZ l):=Ey l (aR _)
def Tl(l:List mZ)(r:iq):Prop:=∃(hi:r.sec<l.length) (hk:r.row<l[r.sec].rows.length),r.many=l[r.sec].rows[r.row]
def sK{l:List mZ}{r:iq}(h:r∈eZ l):Tl l r:=by unfold eZ qw at h;obtain⟨i,hi,h⟩:=List.mem_flatMap.1 h;rw[pL]at hi;rw[bJ hi]at h;unfold sL at h;obtain⟨k,hk,rfl⟩:=mB.1 h;rw[pL]at hk;exact⟨hi,hk,by simp[pi,bJ hk]⟩
def Tl.many{l:List mZ}{r:iq}(h:Tl l r)(hg:Good l):1<=r.many/\r.many<=64/\r.sec<8/\r.row<16:=by obtain⟨hi,hk,hm⟩:=h;obtain⟨_,h2,h3⟩:=hg.rows _ (cG hi);have:=h3 _ (cG hk);have:=hg.len;omega
def AM{l:List iq}(h:∀r∈l,1<=r.many):(l.length:Int)<=dV l:=by
 induction l with
 |nil=>simp[nN]
 |cons r l ih=>
  have h1:=h r (by simp);have h2:=ih λx hx=>h x (by simp[hx])
  rw[fz,cP];omega
def M2{a l:List iq}(h:a<+:l)(hm:∀r∈l,1<=r.many):0<=dV a/\dV a<=dV l:=by
 obtain⟨b,rfl⟩:=h;have h1:=AM (l:=a) λr hr=>hm r (by simp[hr])
 have h2:=AM (l:=b) λr hr=>hm r (by simp[hr])
 rw[oW];omega
def Be{l:List mZ}(hg:Good l):0<=bG l/\bG l<=8192:=by have h:=(Ar hg (aR l.length));rw[cO]at h;have:=hg.len;omega
def Do{l:List mZ}(hg:Good l){pre:List iq}{r:iq}(h:pre++[r]<+:eZ l):Tl l r/\r.first=dV pre/\0<=dV pre/\dV (pre++[r])<=8192/\1<=r.many/\r.many<=64/\dV (pre++[r])=dV pre+r.many:=by
 have hm:∀r∈eZ l,1<=r.many:=λr hr=>((sK hr).many hg).1
 have hr:r∈eZ l:=h.subset (by simp);have h1:=M2 h hm;have h2:=M2 ((IX pre [r]).trans h) hm;rw[DY]at h1;obtain⟨b,hb⟩:=h;have hf:=uh l;rw[<-hb,iK]at hf;have:=mm.at hf;have hx:=(sK hr).many hg;have:=Be hg;refine⟨sK hr,by omega,by omega,by omega,by omega,by omega,?_⟩;rw[oW,fz,nN,ui]
def M1(l:List mZ)(i:Nat)(rows:List Int):∀{k:Nat},k<=rows.length->Fm i rows k=(sL l i rows k).flatMap λr=>yI r.sec r.row r.many.toNat
 |0,_=>rfl
 |k+1,hk=>by rw[F8 i rows (by omega),pR l i rows (by omega),jo,<-M1 l i rows (by omega),fN,Ba,fp]
def Au(l:List mZ):jb l=(eZ l).flatMap λr=>yI r.sec r.row r.many.toNat:=by
 have:∀n,n<=l.length->CY l n=(qw l n).flatMap λr=>yI r.sec r.row r.many.toNat:=by
  intro n;induction n with
  |zero=>intro _;rfl
  |succ n ih=>intro hn;rw[Fh l (by omega),nD l (by omega),jo,<-ih (by omega),<-M1 l n _ (aR _)]
 exact this _ (aR _)
def oL3(x:ad)(W:AW):iU Tryz.prog 3 x W=bu x W:=by kernel_rfl
def alQ(x:ad)(W:AW):iU Tryz.prog 35 x W=bu x W:=by kernel_rfl
def akJ(x:ad)(W:AW):iU Tryz.prog 163 x W=dF 4 x W:=by kernel_rfl
def al3(W:AW):dg Tryz.prog 3 W=some (.pointer (some ⟨W.next,0,none⟩),W.add (.cells [.ae 0])):=aT (by kernel_rfl) rfl
def aun(W:AW):dg Tryz.prog 35 W=some (.pointer (some ⟨W.next,0,none⟩),W.add (.cells [.ae 0])):=aT (by kernel_rfl) rfl
def afJ(W:AW):dg Tryz.prog 163 W=some (.pointer (some ⟨W.next,0,none⟩),W.add (.cells [.ae 0,.ae 0,.ae 0,.ae 0])):=aT (by kernel_rfl) rfl
def ai8(W:AW):fd Tryz.prog 163 [] W=some (.agg #[.ae 0,.ae 0,.ae 0,.ae 0],W):=aT (by kernel_rfl) rfl
def aqg{b:Nat}{a c d e x y z u:ad}{W:AW}(h:aU W b=some [x,y,z,u])(h1:Eng.one a=true)(h2:Eng.one c=true)(h3:Eng.one d=true)(h4:Eng.one e=true):fm 4 (.pointer (some ⟨b,0,none⟩)) (.agg #[a,c,d,e]) W=some (ak,W.put b (.cells [a,c,d,e])):=by rw[Uw,h,bM];have hc:(Value.agg #[a,c,d,e]).cells=#[a,c,d,e]:=XW _;rw[hc,an ⟨rfl,by simp,by simp[h1,h2,h3,h4]⟩];rfl
def UH{b:Nat}{x:ad}{n:Int}{W:AW}(h:aU W b=some [x]):fm 1 (.pointer (some ⟨b,0,none⟩)) (.ae n) W=some (ak,W.put b (.cells [.ae n])):=by rw[xq,h];rfl
def MM{b:Nat}{x:ad}{W:AW}(h:aU W b=some [x]):bu (.pointer (some ⟨b,0,none⟩)) W=some (x,W):=aP (j5 h) rfl
def Jr{b o:Nat}{cs:List ad}{x:ad}{W:AW}(h:aU W b=some cs)(hv:cs[o]? =some x):bu (.pointer (some ⟨b,o,none⟩)) W=some (x,W):=aP (j5 h) hv
def KE{v:ge}{sv:ad}{W:AW}(hs:fC W sv v.ax)(hv:v.ax.length<1000):aY (.func (.func 55) #[] #[]) [fH v sv] W=some (.tuple #[.ae (cn v).1,.ae (cn v).2],W):=by
 refine aQ rfl ?_ LA;unfold GU cn;obtain⟨W1,hB,aM,hn,c4,c0,c3⟩:=jC v sv W;have l2:Le W1 (W1.add (.cells [.ae 0])):=(Le.refl W1).add _;have hr:aU (W1.add (.cells [.ae 0])) W1.next=some [.ae 0]:=de;have hn2:W1.next<(W1.add (.cells [.ae 0])).next:=by rw[AW.av];omega
 simp only[SX,hB,al3];generalize W1.add (.cells [.ae 0])=W2 at *;simp only[SX,c4 _ l2,uM (hs.mono (aM.trans l2)) hv];by_cases he:(dn v).2=0;case neg=>simp only[SX,he,b9,UH hr,bB,oL3,MM (bZ _),bM,af];exact⟨aj,(aM.trans l2).put (by have:=aM.next;omega) _⟩
 obtain⟨hg,-⟩:=cF he;obtain⟨W3,q1,q2,q3,q4⟩:=Pj (v:=v) (sv:=sv) W2;have l3:W1.next<W3.next:=by have:=q2.next;omega
 simp only[SX,aK he,q1,an he];refine PD (hs.mono aM).1 hg (q4 _ ((Le.refl _).add _)) rfl (λpre W'=>Le W1 W'/\aU W' W1.next=some [.ae (dV pre)]) (λ_ _=>False) ⟨(l2.trans q2).add _,by rw[fL _ l3,q2.aU hn2];exact hr⟩ (λ_ _ h=>h.1)
  (λpre W' cs h hl=>⟨h.1.add _,by rw[fL _ (by omega)];exact h.2⟩) (λpre W' o h=>⟨h.1.put (by omega) _,by rw[bQ _ (by omega)];exact h.2⟩) (λ_ _ _ h=>h) 6 ?_ ?_ ?_
 ·intro r W' R' hR;have r17:R' 17=L9 r:=by rw[hR];rfl
  rw[Cw];unfold yq;simp only[SX,afJ,r17,aqg de (cI _ _) (cI _ _) (cI _ _) (cI _ _),iD];rfl
 ·intro pre r W' b R' hR oY ⟨h1,h2⟩ hl hb As lA;have r2:R' 2=.pointer (some ⟨W1.next,0,none⟩):=by rw[hR];rfl
  have r6:R' 6=.pointer (some ⟨b,0,none⟩):=by rw[hR];rfl
  clear hR;rw[CG];unfold yi;obtain⟨k1,k2,k3,k4,k5,k6,k7⟩:=Do hg oY;have ea:=fh W' (dV pre) r.many;simp only[SX,r2,r6,MM h2,Jr (o:=3) hb rfl,ea,UH h2,aI,af];exact⟨by rw[AW.bH];omega,by rw[AW.ay _ _ (by omega)],.inl ⟨aj,h1.put (aR _) _,by rw[k7];exact bZ _⟩⟩
 ·rintro x W4 (⟨rfl,h1,h2⟩|⟨_,h⟩);case inr=>exact h.elim
  have h3:aU (W4.kill W3.next) W1.next=some [.ae (dV (eZ v.ax))]:=by rw[<-h2];unfold aU;rw[AW.dm _ (by omega)]
  simp only[SX,MM h3,UH h3,bB,oL3,MM (bZ _),bM,DY,af];exact⟨aj,(aM.trans (h1.kill (by omega))).put (by have:=aM.next;omega) _⟩
abbrev aah(r:iq):List ad:=[.ae (r.sec:Int),.ae (r.row:Int),.ae r.first,.ae r.many]
def ae0{α:Type}{p:α->Bool}{pre l:List α}{r:α}(h:pre++[r]<+:l)(h0:∀x∈pre,p x=false)(h1:p r=true):l.find? p=some r:=by obtain⟨b,rfl⟩:=h;rw[iK,List.find?_append,List.find?_eq_none.2 (λx hx=>by simp[h0 x hx]),pb,List.find?_cons_of_pos h1];rfl
def ahm{α:Type}{p:α->Bool}{l:List α}(h0:∀x∈l,p x=false):l.find? p=none:=List.find?_eq_none.2 (λx hx=>by simp[h0 x hx])
def Rp{α:Type}{p:α->Bool}{pre:List α}{r:α}(h0:∀x∈pre,p x=false)(h1:p r=false):∀x∈pre++[r],p x=false:=by
 intro x hx;rcases mj.1 hx with h|h
 ·exact h0 x h
 ·rw[ki.1 h];exact h1
def aq1(n:Int)(W:AW):∃W1,rD (.ae n) W=some (.pointer (some ⟨W.next,0,none⟩),W1)/\W1.next=W.next+1/\Le W W1/\aU W1 W.next=some [.ae n]:=
 ⟨_,Q8 _ _,AW.av _ _,(Le.refl W).add _,de⟩
def anW(W:AW):∃W1,dg Tryz.prog 3 W=some (.pointer (some ⟨W.next,0,none⟩),W1)/\W1.next=W.next+1/\Le W W1/\aU W1 W.next=some [.ae 0]:=⟨_,al3 W,AW.av _ _,(Le.refl W).add _,de⟩
def aq4(W:AW):∃W1,dg Tryz.prog 35 W=some (.pointer (some ⟨W.next,0,none⟩),W1)/\W1.next=W.next+1/\Le W W1/\aU W1 W.next=some [.ae 0]:=⟨_,aun W,AW.av _ _,(Le.refl W).add _,de⟩
def aii(W:AW):∃W1,dg Tryz.prog 163 W=some (.pointer (some ⟨W.next,0,none⟩),W1)/\W1.next=W.next+1/\Le W W1/\aU W1 W.next=some [.ae 0,.ae 0,.ae 0,.ae 0]:=⟨_,afJ W,AW.av _ _,(Le.refl W).add _,de⟩
def Bp{W:AW}{b c:Nat}(h:b≠c):aU (W.kill b) c=aU W c:=by unfold aU;rw[W.dm h]
def ld4{b:Nat}{x y z u:ad}{W:AW}(h:aU W b=some [x,y,z,u]):dF 4 (.pointer (some ⟨b,0,none⟩)) W=some (.agg #[x,y,z,u],W):=xT (j5 h) rfl
def NP{b:Nat}{a c d e:Int}{x y z u:ad}{W:AW}(h:aU W b=some [x,y,z,u]):fm 4 (.pointer (some ⟨b,0,none⟩)) (.agg #[.ae a,.ae c,.ae d,.ae e]) W=some (ak,W.put b (.cells [.ae a,.ae c,.ae d,.ae e])):=aqg h rfl rfl rfl rfl
def yk(bP:Int)(r:iq):Bool:=decide (r.first<=bP)&&decide (bP<r.first+r.many)
abbrev zs:List ad:=[.ae 0,.ae 0,.ae 0,.ae 0]
abbrev aod:iq:=⟨0,0,0,0⟩
def lO(v:ge)(bP:Int):iq×Int:=if(dn v).2=0 then(match(eZ v.ax).find? (yk bP)with
 |some r=>(r,0)
 |none=>(aod,4))else(aod,(dn v).2)
def ag9{v:ge}{sv:ad}{W:AW}{bP:Int}(hs:fC W sv v.ax)(hv:v.ax.length<1000):aY (.func (.func 215) #[] #[]) [fH v sv,.ae bP] W=some (.tuple #[L9 (lO v bP).1,.ae (lO v bP).2],W):=by
 refine aQ rfl ?_ L6;unfold Lc lO;obtain⟨W1,hB,aM,hn,c4,c0,c3⟩:=jC v sv W;obtain⟨W2,b2,n2,l2,r2⟩:=aq1 bP W1;obtain⟨W3,b3,n3,l3,r3⟩:=aii W2;obtain⟨W4,b4,n4,l4,r4⟩:=aq4 W3;have r34:aU W4 W2.next=some [.ae 0,.ae 0,.ae 0,.ae 0]:=by rw[l4.aU (by omega)];exact r3
 have l24:=l3.trans l4;have Qh:=aM.trans l2;have hsn:=aM.next;simp only[SX,hB,b2,b3,b4,c4 _ (l2.trans l24),uM (hs.mono (Qh.trans l24)) hv];by_cases he:(dn v).2=0;case neg=>
  have p1:aU (W4.put W2.next (.cells (zs))) W3.next=some [.ae 0]:=by rw[bQ _ (by omega)];exact r4
  have p2:∀x,aU ((W4.put W2.next (.cells (zs))).put W3.next x) W2.next=some (zs):=λx=>by rw[bQ _ (by omega)];exact bZ _
  simp only[SX,he,b9,ai8,NP r34,UH p1,AS,akJ,alQ,ld4 (p2 _),MM (bZ _),bM,af];exact⟨rfl,((Qh.trans l24).put (by omega) _).put (by omega) _⟩
 obtain⟨hg,-⟩:=cF he;obtain⟨W5,q1,q2,q3,q4⟩:=Pj (v:=v) (sv:=sv) W4;have hn5:=q2.next;simp only[SX,aK he,q1,an he];refine PD (hs.mono Qh).1 hg (q4 _ ((Le.refl _).add _)) rfl (λpre W'=>Le W2 W'/\aU W' W2.next=some (zs)/\aU W' W3.next=some [.ae 0]/\∀r∈pre,yk bP r=false)
  (λx W'=>x=.ret/\Le W2 W'/\∃r,(eZ v.ax).find? (yk bP)=some r/\aU W' W2.next=some (aah r)/\aU W' W3.next=some [.ae 0])
  ⟨(l24.trans q2).add _,by rw[fL _ (by omega),q2.aU (by omega)];exact r34,by rw[fL _ (by omega),q2.aU (by omega)];exact r4,by simp⟩ (λ_ _ h=>h.1)
  (λpre W' cs h hl=>⟨h.1.add _,by rw[fL _ (by omega)];exact h.2.1,by rw[fL _ (by omega)];exact h.2.2.1,h.2.2.2⟩)
  (λpre W' o h=>⟨h.1.put (by omega) _,by rw[bQ _ (by omega)];exact h.2.1,by rw[bQ _ (by omega)];exact h.2.2.1,h.2.2.2⟩)
  (λx W' o ⟨h1,h2,r,h3,h4,h5⟩=>⟨h1,h2.put (by omega) _,r,h3,by rw[bQ _ (by omega)];exact h4,by rw[bQ _ (by omega)];exact h5⟩) 8 ?_ ?_ ?_
 ·intro r W' R' hR;have r17:R' 20=L9 r:=by rw[hR];rfl
  rw[EY];unfold Ay;simp only[SX,afJ,r17,NP de,iD];rfl
 ·intro pre r W' b R' hR oY ⟨h1,h2,h3,h4⟩ hl hb As lA;have f3:R' 3=.pointer (some ⟨W1.next,0,none⟩):=by rw[hR];rfl
  have f4:R' 4=.pointer (some ⟨W2.next,0,none⟩):=by rw[hR];rfl
  have f5:R' 5=.pointer (some ⟨W3.next,0,none⟩):=by rw[hR];rfl
  have f8:R' 8=.pointer (some ⟨b,0,none⟩):=by rw[hR];rfl
  clear hR;rw[ED];unfold Al;obtain⟨k1,k2,k3,k4,k5,k6,k7⟩:=Do hg oY;have ea:=fh W' r.first r.many;have n8:aU W' W1.next=some [.ae bP]:=by rw[h1.aU (by omega)];exact r2
  simp only[SX,f3,f8,MM n8,Jr (o:=2) hb rfl,aI];have nH:yk bP r=(decide (r.first<=bP)&&decide (bP<r.first+r.many)):=rfl;by_cases t1:r.first<=bP;case neg=>rw[aJ t1,pj]at nH;simp only[SX,t1,af];exact⟨aR _,aj,.inl ⟨aj,h1,h2,h3,Rp h4 nH⟩⟩
  simp only[SX,aK t1,Jr (o:=2) hb rfl,Jr (o:=3) hb rfl,ea];by_cases t2:bP<r.first+r.many;case neg=>rw[aJ t2,Ec]at nH;simp only[SX,t2,af];exact⟨aR _,aj,.inl ⟨aj,h1,h2,h3,Rp h4 nH⟩⟩
  rw[aK t1,aK t2]at nH;have p1:aU (W'.put W2.next (.cells (aah r))) W3.next=some [.ae 0]:=by rw[bQ _ (by omega)];exact h3
  simp only[SX,aK t2,f4,f5,ld4 hb,NP h2,UH p1,af];exact⟨aR _,by rw[AW.ay _ _ (by omega),AW.ay _ _ (by omega)],.inr ⟨by simp,aj,(h1.put (by omega) _).put (by omega) _,r,ae0 oY h4 nH,by rw[bQ _ (by omega)];exact bZ _,bZ _⟩⟩
 ·rintro x W6 (⟨rfl,h1,h2,h3,h4⟩|⟨_,rfl,h1,r,h2,h3,h4⟩)
  ·have k2:aU (W6.kill W5.next) W2.next=some (zs):=by rw[Bp (by omega)];exact h2
   have k3:aU ((W6.kill W5.next).put W2.next (.cells (zs))) W3.next=some [.ae 0]:=by rw[bQ _ (by omega),Bp (by omega)];exact h3
   have p2:∀x,aU (((W6.kill W5.next).put W2.next (.cells (zs))).put W3.next x) W2.next=some (zs):=λx=>by rw[bQ _ (by omega)];exact bZ _
   simp only[SX,ai8,NP k2,UH k3,AS,akJ,alQ,ld4 (p2 _),MM (bZ _),bM,ahm h4,af];exact⟨rfl,(((Qh.trans h1).kill (by omega)).put (by omega) _).put (by omega) _⟩
  ·have k2:aU (W6.kill W5.next) W2.next=some (aah r):=by rw[Bp (by omega)];exact h3
   have k3:aU (W6.kill W5.next) W3.next=some [.ae 0]:=by rw[Bp (by omega)];exact h4
   simp only[SX,AS,akJ,alQ,ld4 k2,MM k3,bM,h2,af];exact⟨aj,(Qh.trans h1).kill (by omega)⟩
def gS(sec:Int)(r:iq):Bool:=decide ((r.sec:Int)=sec)
def Q4:List iq->Int
 |[]=>0
 |r::_=>r.first
def ofE(v:ge)(sec:Int):Int×Int×Int:=if(dn v).2=0 then
 if dV ((eZ v.ax).filter (gS sec))=0 then(0,0,4)else(Q4 ((eZ v.ax).filter (gS sec)),dV ((eZ v.ax).filter (gS sec)),0)
 else(0,0,(dn v).2)
def nB{α:Type}{p:α->Bool}{pre:List α}{r:α}(h:p r=true):(pre++[r]).filter p=pre.filter p++[r]:=by simp[vz,h]
def sQ{α:Type}{p:α->Bool}{pre:List α}{r:α}(h:p r=false):(pre++[r]).filter p=pre.filter p:=by simp[vz,h]
def XI{l:List iq}{r:iq}(h:l≠[]):Q4 (l++[r])=Q4 l:=by
 cases l with
 |nil=>exact absurd rfl h
 |cons=>rfl
def apA{v:ge}{sv:ad}{W:AW}{sec:Int}(hs:fC W sv v.ax)(hv:v.ax.length<1000):aY (.func (.func 211) #[] #[]) [fH v sv,.ae sec] W=some (.tuple #[.ae (ofE v sec).1,.ae (ofE v sec).2.1,.ae (ofE v sec).2.2],W):=by
 refine aQ rfl ?_ Q5;unfold SS ofE;obtain⟨W1,hB,aM,hn,c4,c0,c3⟩:=jC v sv W;obtain⟨W2,b2,n2,l2,r2⟩:=aq1 sec W1;obtain⟨W3,b3,n3,l3,r3⟩:=anW W2;obtain⟨W4,b4,n4,l4,r4⟩:=anW W3;have r34:aU W4 W2.next=some [.ae 0]:=by rw[l4.aU (by omega)];exact r3
 have l24:=l3.trans l4;have Qh:=aM.trans l2;have hsn:=aM.next;have e2:∀(W':AW) a b,aU ((W'.put W2.next (.cells a)).put W3.next b) W2.next=some a:=λW' a b=>by rw[bQ _ (by omega)];exact bZ _
 have e3:∀(W':AW) a,aU (W'.put W2.next a) W3.next=aU W' W3.next:=λW' a=>bQ _ (by omega)
 simp only[SX,hB,b2,b3,b4,c4 _ (l2.trans l24),uM (hs.mono (Qh.trans l24)) hv];by_cases he:(dn v).2=0;case neg=>simp only[SX,he,b9,UH r34,UH ((e3 _ _).trans r4),DI,oL3,MM (e2 _ _ _),MM (bZ _),bM,af];exact⟨aj,((Qh.trans l24).put (by omega) _).put (by omega) _⟩
 obtain⟨hg,-⟩:=cF he;obtain⟨W5,q1,q2,q3,q4⟩:=Pj (v:=v) (sv:=sv) W4;have hn5:=q2.next;simp only[SX,aK he,q1,an he];refine PD (hs.mono Qh).1 hg (q4 _ ((Le.refl _).add _)) rfl (λpre W'=>Le W2 W'/\aU W' W2.next=some [.ae (Q4 (pre.filter (gS sec)))]/\aU W' W3.next=some [.ae (dV (pre.filter (gS sec)))])
  (λx W'=>False)
  ⟨(l24.trans q2).add _,by rw[fL _ (by omega),q2.aU (by omega)];exact r34,by rw[fL _ (by omega),q2.aU (by omega)];exact r4⟩ (λ_ _ h=>h.1)
  (λpre W' cs h hl=>⟨h.1.add _,by rw[fL _ (by omega)];exact h.2.1,by rw[fL _ (by omega)];exact h.2.2⟩)
  (λpre W' o h=>⟨h.1.put (by omega) _,by rw[bQ _ (by omega)];exact h.2.1,by rw[bQ _ (by omega)];exact h.2.2⟩)
  (λx W' o h=>h) 9 ?_ ?_ ?_
 ·intro r W' R' hR;have r17:R' 20=L9 r:=by rw[hR];rfl
  rw[Ie];unfold Dz;simp only[SX,afJ,r17,NP de,iD];rfl
 ·intro pre r W' b R' hR oY ⟨h1,h2,h3⟩ hl hb As lA;have f3:R' 3=.pointer (some ⟨W1.next,0,none⟩):=by rw[hR];rfl
  have f4:R' 4=.pointer (some ⟨W2.next,0,none⟩):=by rw[hR];rfl
  have f5:R' 5=.pointer (some ⟨W3.next,0,none⟩):=by rw[hR];rfl
  have f8:R' 9=.pointer (some ⟨b,0,none⟩):=by rw[hR];rfl
  clear hR;rw[If];unfold EP;obtain⟨k1,k2,k3,k4,k5,k6,k7⟩:=Do hg oY;have n8:aU W' W1.next=some [.ae sec]:=by rw[h1.aU (by omega)];exact r2
  have hmp:∀x∈pre,1<=x.many:=λx hx=>((sK (((IX pre [r]).trans oY).subset hx)).many hg).1
  have hms:=AM (l:=pre.filter (gS sec)) (λx hx=>hmp x (tF.1 hx).1);have az4:dV (pre.filter (gS sec))<=dV pre:=by
   have:∀l:List iq,(∀x∈l,1<=x.many)->dV (l.filter (gS sec))<=dV l:=by
    intro l;induction l with
    |nil=>intro _;exact rQ _
    |cons x l ih=>
     intro h;have:=ih λy hy=>h y (by simp[hy])
     have:=h x (by simp);rw[List.filter_cons];split
     ·rw[fz,fz];omega
     ·rw[fz];omega
   exact this _ hmp
  have ea:∀W',bO Tryz.prog .add 3 false false (.ae (dV (pre.filter (gS sec)))) (.ae r.many) W'=some (.ae (dV (pre.filter (gS sec))+r.many),W'):=λW'=>mF (by omega) (by omega)
  simp only[SX,f3,f8,MM n8,Jr (o:=0) hb rfl,aI];by_cases t1:(r.sec:Int)=sec;case neg=>have nH:gS sec r=false:=aJ t1;simp only[SX,t1,af];exact⟨aR _,aj,.inl ⟨aj,h1,by rw[sQ nH];exact h2,by rw[sQ nH];exact h3⟩⟩
  have nH:gS sec r=true:=aK t1;have aqB:dV (pre.filter (gS sec)++[r])=dV (pre.filter (gS sec))+r.many:=by rw[oW,fz,nN,ui]
  simp only[SX,aK t1,f5,MM h3];by_cases t2:dV (pre.filter (gS sec))=0
  ·have avU:pre.filter (gS sec)=[]:=by rw[t2]at hms;exact mi.1 (by omega)
   have IE:aU (W'.put W2.next (.cells [.ae r.first])) b=some (aah r):=by rw[bQ _ (by omega)];exact hb
   simp only[SX,aK t2,f4,Jr (o:=2) hb rfl,Jr (o:=3) IE rfl,UH h2,MM ((e3 _ _).trans h3),ea,UH ((e3 _ _).trans h3),af];exact⟨aR _,by rw[AW.ay _ _ (by omega),AW.ay _ _ (by omega)],.inl ⟨aj,(h1.put (by omega) _).put (by omega) _,by rw[e2,nB nH,avU];rfl,by rw[bZ,nB nH,aqB]⟩⟩
  ·have fe:pre.filter (gS sec)≠[]:=λe=>t2 (by rw[e];rfl)
   simp only[SX,t2,Jr (o:=3) hb rfl,ea,UH h3,af];exact⟨aR _,by rw[AW.ay _ _ (by omega)],.inl ⟨aj,h1.put (by omega) _,by rw[bQ _ (by omega),nB nH,XI fe];exact h2,by rw[bZ,nB nH,aqB]⟩⟩
 ·rintro x W6 (⟨rfl,h1,h2,h3⟩|⟨_,h⟩);case inr=>exact h.elim
  have k2:aU (W6.kill W5.next) W2.next=some [.ae (Q4 ((eZ v.ax).filter (gS sec)))]:=by rw[Bp (by omega)];exact h2
  have k3:aU (W6.kill W5.next) W3.next=some [.ae (dV ((eZ v.ax).filter (gS sec)))]:=by rw[Bp (by omega)];exact h3
  simp only[SX,MM k3];by_cases t2:dV ((eZ v.ax).filter (gS sec))=0
  ·simp only[SX,aK t2,an t2,UH k2,UH ((e3 _ _).trans k3),DI,oL3,MM (e2 _ _ _),MM (bZ _),bM,af];exact⟨aj,(((Qh.trans h1).kill (by omega)).put (by omega) _).put (by omega) _⟩
  ·have Z2:jP true (some (.ae (dV ((eZ v.ax).filter (gS sec))),(W6.kill W5.next).put W2.next (.cells [.ae (Q4 ((eZ v.ax).filter (gS sec)))]))) (.ae (dV ((eZ v.ax).filter (gS sec))))=true:=aeQ rfl (i9 _ _);simp only[SX,t2,MM k2,MM k3,UH k2,MM ((e3 _ _).trans k3),Z2,fM,UH ((e3 _ _).trans k3),DI,oL3,MM (e2 _ _ _),MM (bZ _),bM,af];exact⟨by simp only[b9],(((Qh.trans h1).kill (by omega)).put (by omega) _).put (by omega) _⟩
def aum(W:AW):dg Tryz.prog 177 W=some (.pointer (some ⟨W.next,0,none⟩),W.add (.cells [.ae 0,.ae 0,.ae 0])):=aT (by kernel_rfl) rfl
def XJ(x:ad)(W:AW):iU Tryz.prog 177 x W=dF 3 x W:=by kernel_rfl
def Wd(W:AW):fd Tryz.prog 177 [] W=some (.agg #[.ae 0,.ae 0,.ae 0],W):=aT (by kernel_rfl) rfl
def ads(W:AW):∃W1,dg Tryz.prog 177 W=some (.pointer (some ⟨W.next,0,none⟩),W1)/\W1.next=W.next+1/\Le W W1/\aU W1 W.next=some [.ae 0,.ae 0,.ae 0]:=⟨_,aum W,AW.av _ _,(Le.refl W).add _,de⟩
def ld3{b:Nat}{x y z:ad}{W:AW}(h:aU W b=some [x,y,z]):dF 3 (.pointer (some ⟨b,0,none⟩)) W=some (.agg #[x,y,z],W):=xT (j5 h) rfl
def Hh{b:Nat}{a c d:Int}{x y z:ad}{W:AW}(h:aU W b=some [x,y,z]):fm 3 (.pointer (some ⟨b,0,none⟩)) (.agg #[.ae a,.ae c,.ae d]) W=some (ak,W.put b (.cells [.ae a,.ae c,.ae d])):=ahZ h rfl rfl rfl
def agi{α:Type}{l:List α}{r:α}(h:r∈l):∃pre,pre++[r]<+:l:=by obtain⟨a,b,rfl⟩:=List.append_of_mem h;exact⟨a,⟨b,by simp⟩⟩
def afS{l:List mZ}(hg:Good l){r:iq}(h:r∈eZ l):Tl l r/\0<=r.first/\r.first+r.many<=8192/\1<=r.many/\r.many<=64/\r.sec<8/\r.row<16:=by obtain⟨pre,hp⟩:=agi h;obtain⟨k1,k2,k3,k4,k5,k6,k7⟩:=Do hg hp;have:=k1.many hg;exact⟨k1,by omega,by omega,k5,k6,by omega,by omega⟩
def UK{v:ge}{bP:Int}(h:(lO v bP).2=0):(dn v).2=0/\(lO v bP).1∈eZ v.ax/\(eZ v.ax).find? (yk bP)=some (lO v bP).1/\(lO v bP).1.first<=bP/\bP<(lO v bP).1.first+(lO v bP).1.many:=by
 unfold lO at h|-;by_cases he:(dn v).2=0
 ·rw[an he]at h|-;cases hf:(eZ v.ax).find? (yk bP)with
  |none=>rw[hf]at h;exact absurd h (by decide)
  |some r=>have hi:=List.find?_some hf;unfold yk at hi;simp only[bA,iA]at hi;exact⟨he,PY hf,rfl,hi.1,hi.2⟩
 ·rw[aq he]at h;exact absurd h he
def dC(v:ge)(bP:Int):Tn×Int:=if(lO v bP).2=0 then(((lO v bP).1.sec,(lO v bP).1.row,(bP-(lO v bP).1.first).toNat),0)else((0,0,0),(lO v bP).2)
abbrev afC(p:Tn):ad:=.agg #[.ae (p.1:Int),.ae (p.2.1:Int),.ae (p.2.2:Int)]
def abV{v:ge}{sv:ad}{W:AW}{bP:Int}(hs:fC W sv v.ax)(hv:v.ax.length<1000):aY (.func (.func 200) #[] #[]) [fH v sv,.ae bP] W=some (.tuple #[afC (dC v bP).1,.ae (dC v bP).2],W):=by
 refine aQ rfl ?_ KC;unfold G2 dC;obtain⟨W1,hB,aM,hn,c4,c0,c3⟩:=jC v sv W;obtain⟨W2,b2,n2,l2,r2⟩:=ads W1;obtain⟨W3,b3,n3,l3,r3⟩:=aii W2;have r23:∀x,aU (W3.put W2.next x) W1.next=some [.ae 0,.ae 0,.ae 0]:=λx=>by rw[bQ _ (by omega),l3.aU (by omega)];exact r2
 have hsn:=aM.next;have l03:=(aM.trans l2).trans l3;simp only[SX,hB,b2,b3,c4 _ l2,ag9 (hs.mono (aM.trans l2)) hv,NP r3];by_cases he:(lO v bP).2=0;case neg=>simp only[SX,he,b9,Wd,Hh (r23 _),bB,XJ,ld3 (bZ _),bM,af];exact⟨rfl,(l03.put (by omega) _).put (by omega) _⟩
 obtain⟨h1,h2,h3,h4,h5⟩:=UK he;obtain⟨k1,k2,k3,k4,k5,-,-⟩:=afS (cF h1).1 h2;have hb:=bZ (W:=W3) (b:=W2.next) (aah (lO v bP).1);have ea:∀W',bO Tryz.prog .sub 3 false false (.ae bP) (.ae (lO v bP).1.first) W'=some (.ae (bP-(lO v bP).1.first),W'):=λW'=>tG (by omega) (by omega)
 have et:((bP-(lO v bP).1.first).toNat:Int)=bP-(lO v bP).1.first:=Int.toNat_of_nonneg (by omega);simp only[SX,aK he,an he,aI,Jr (o:=0) hb rfl,Jr (o:=1) hb rfl,Jr (o:=2) hb rfl,ea,aoh,Hh (r23 _),bB,XJ,ld3 (bZ _),bM,af];exact⟨by simp only[afC];rw[et],(l03.put (by omega) _).put (by omega) _⟩
def amz.get{W:AW}{v:ad}{l:List Tn}(h:amz W v l){i:Nat}(hi:i<l.length):∃b o,(∀W' k,nY 3 v (.int k (i:Int)) W'=some (.pointer (some ⟨b,o,none⟩),W'))/\
 ∀W',Le W W'->bu (.pointer (some ⟨b,o,none⟩)) W'=some (.ae (l[i].1:Int),W')/\bu (.pointer (some ⟨b,o+1,none⟩)) W'=some (.ae (l[i].2.1:Int),W')/\dF 3 (.pointer (some ⟨b,o,none⟩)) W'=some (afC l[i],W'):=by
 obtain⟨a,c,rfl,h⟩:=h;rcases h with rfl|⟨b,o,cs,rfl,hb,hc,vL⟩
 ·simp at hi
 ·refine⟨b,o+i*3,λW' k=>rH hi,λW' aM=>?_⟩;have yT:=(aM.aH hb).trans hc;obtain⟨h1,h2,h3⟩:=vL i hi;refine⟨aP yT h1,aP yT h2,?_⟩;have:=aaB h1 h2 h3;rw[Jt,yT,bM,this];rfl
def Na(b:Bool):sW ak b=false:=aT (by unfold sW ak;rfl) rfl
def Sc{α:Type}(p:α->Bool)(l:List α):Nat:=if(l.filter p).length=0 then 0 else l.findIdx p
def Yt{α:Type}{p:α->Bool}{l:List α}{a:α}:Sc p (l++[a])=if p a=true/\(l.filter p).length=0 then l.length else Sc p l:=by
 unfold Sc;cases ha:p a with
 |false=>rw[sQ ha];simp only[gY,false_and,b9];by_cases h:(l.filter p).length=0
         ·rw[an h,an h]
         ·rw[aq h,aq h];have:l.findIdx p<l.length:=by rw[List.findIdx_lt_length];obtain⟨x,hx⟩:=List.exists_mem_of_length_pos (Nat.pos_of_ne_zero h);exact⟨x,(tF.1 hx).1,(tF.1 hx).2⟩
          rw[I1,an this]
 |true=>
  rw[nB ha];by_cases h:(l.filter p).length=0
  ·simp only[h,kE,bi,cD,cP,p8];have hn:l.findIdx p=l.length:=by
    rw[List.findIdx_eq_length];intro x hx;cases hp:p x with
    |false=>rfl
    |true=>have:x∈l.filter p:=tF.2 ⟨hx,hp⟩;rw[mi.1 h]at this;cases this
   rw[bL,I1,bL];simp[List.findIdx_cons,ha]
  ·simp only[h,and_false,b9];have:l.findIdx p<l.length:=by rw[List.findIdx_lt_length];obtain⟨x,hx⟩:=List.exists_mem_of_length_pos (Nat.pos_of_ne_zero h);exact⟨x,(tF.1 hx).1,(tF.1 hx).2⟩
   rw[aq (by rw[cD];simp),I1,an this]
def qD(r:iq):List Tn:=yI r.sec r.row r.many.toNat
def ss(r:iq):(qD r).length=r.many.toNat:=by simp[qD,yI]
def XM(r:iq){i:Nat}(h:i<r.many.toNat):(qD r)[i]? =some (r.sec,r.row,i):=by unfold qD yI;rw[ly,List.getElem?_range h];rfl
def G4:∀{L:List iq} {s bP:Int},mm s L->(∀r∈L,1<=r.many)->s<=bP->bP<s+dV L->
 ∃r,L.find? (yk bP)=some r/\(L.flatMap qD)[(bP-s).toNat]? =some (r.sec,r.row,(bP-r.first).toNat)
 |[],s,bP,_,_,h1,h2=>by rw[nN]at h2;omega
 |r::L,s,bP,⟨hf,hF⟩,hm,h1,h2=>by
  have hr:=hm r (by simp);rw[fz]at h2;by_cases h:bP<s+r.many
  ·refine⟨r,?_,?_⟩
   ·rw[List.find?_cons_of_pos];unfold yk;simp only[bA,iA];omega
   ·rw[fN,IN (by rw[ss];omega),XM _ (by omega),hf]
  ·obtain⟨x,x1,x2⟩:=G4 (s:=s+r.many) hF (λy hy=>hm y (by simp[hy])) (by omega) (by omega:bP<s+r.many+dV L);refine⟨x,?_,?_⟩
   ·rw[List.find?_cons_of_neg,x1];unfold yk;simp only[bA,iA];omega
   ·rw[fN,sU (by rw[ss];omega),ss];rw[show(bP-s).toNat-r.many.toNat=(bP-(s+r.many)).toNat by omega];exact x2
def Dp:∀{L:List iq} {s bP:Int},mm s L->(∀r∈L,1<=r.many)->(bP<s\/s+dV L<=bP)->L.find? (yk bP)=none
 |[],_,_,_,_,_=>rfl
 |r::L,s,bP,⟨hf,hF⟩,hm,h=>by
  have hr:=hm r (by simp);rw[fz]at h;have hp:=AM (l:=L) (λy hy=>hm y (by simp[hy]));rw[List.find?_cons_of_neg]
  ·exact Dp hF (λy hy=>hm y (by simp[hy])) (by omega)
  ·unfold yk;simp only[bA,iA];omega
def Bg(v:ge)(bP:Int):Tn×Int:=if(cn v).2=0 then(if bP<0\/(cn v).1<=bP then((0,0,0),4)else((jb v.ax).getD bP.toNat (0,0,0),0))else((0,0,0),(cn v).2)
def Nc(v:ge)(bP:Int):Bg v bP=dC v bP:=by
 unfold Bg dC lO cn;by_cases he:(dn v).2=0;case neg=>simp only[aq he]
 simp only[an he,bi];obtain⟨hg,-⟩:=cF he;have hm:∀x∈eZ v.ax,1<=x.many:=λx hx=>((sK hx).many hg).1
 have pP:(eZ v.ax).flatMap qD=jb v.ax:=(Au v.ax).symm;by_cases h:bP<0\/bG v.ax<=bP
 ·rw[an h,Dp (uh v.ax) hm (by rw[DY];omega)];rfl
 ·rw[aq h];obtain⟨r,r1,r2⟩:=G4 (uh v.ax) hm (by omega:0<=bP) (by rw[DY];omega);rw[pP,Int.sub_zero]at r2;rw[r1,pi,r2];rfl
def QK{v:ge}{sv:ad}{W:AW}{bP:Int}(hs:ig W sv v.ax)(hv:v.ax.length<1000)(hr:∀s∈v.ax,s.rows.length<1000):aY (.func (.func 107) #[] #[]) [fH v sv,.ae bP] W=some (.tuple #[afC (dC v bP).1,.ae (dC v bP).2],W):=by
 rw[<-Nc];refine aQ rfl ?_ Kb;unfold Hw Bg;obtain⟨W1,hB,aM,hn,c4,c0,c3⟩:=jC v sv W;obtain⟨W2,b2,n2,l2,r2⟩:=ads W1;have hsn:=aM.next;have Qh:=aM.trans l2;simp only[SX,hB,b2,c4 _ l2,uJ (hs.mono Qh) hv hr];by_cases he:(cn v).2=0;case neg=>simp only[SX,he,b9,Na,Wd,Hh r2,bB,XJ,ld3 (bZ _),bM,af];exact⟨rfl,Qh.put (by omega) _⟩
 have e40:¬((4:Int)=0):=by decide
 simp only[SX,aK he,an he];by_cases t1:bP<0
 ·simp only[SX,aK t1,an (Or.inl t1:bP<0\/(cn v).1<=bP),e40,Wd,Hh r2,bB,XJ,ld3 (bZ _),bM,af];exact⟨rfl,Qh.put (by omega) _⟩
 by_cases t2:(cn v).1<=bP
 ·simp only[SX,aJ t1,aK t2,an (Or.inr t2:bP<0\/(cn v).1<=bP),e40,Wd,Hh r2,bB,XJ,ld3 (bZ _),bM,af];exact⟨rfl,Qh.put (by omega) _⟩
 have hvz:(dn v).2=0:=by
  unfold cn at he;split at he
  ·assumption
  ·exact he
 have ug:(cn v).1=bG v.ax:=by unfold cn;rw[an hvz]
 obtain⟨hg,-⟩:=cF hvz;obtain⟨r,W3,q1,q2,q3⟩:=AT (hs.mono Qh) hg;have pP:=tB hg;have mC:bP.toNat<(jb v.ax).length:=by omega
 obtain⟨b,o,p1,p2⟩:=q3.get mC;obtain⟨-,-,p5⟩:=p2 W3 (.refl _);have p1':=λW'=>p1 W' .i64
 rw[Int.toNat_of_nonneg (by omega)]at p1';have r23:aU W3 W1.next=some [.ae 0,.ae 0,.ae 0]:=by rw[q2.aU (by omega)];exact r2
 simp only[SX,aJ t1,aJ t2,aq (λh=>h.elim t1 t2:¬(bP<0\/(cn v).1<=bP)),c4 _ l2,q1,p1',p5,Hh r23,bB,XJ,ld3 (bZ _),bM,af];exact⟨by rw[pi,bJ mC];rfl,(Qh.trans q2).put (by omega) _⟩
def Ha:fx:=λc a=>aV a λb=>az 0 b λd=>aB d λe=>bY e (I 0) λf=>gI f (az 1 b λg=>aB g λh=>gB (aqU h (.int .u32 0)) λi=>gT i (gO 2 b) λj=>gT i (bu j) λk=>gT i (aka k (I 0)) λl=>aO i l (.bool false) λm=>dL .not m λn=>gI n (yO [(I 6,none)]) (yO [(I 0,none)])) (bY e (I 1) λg=>gI g (az 2 b λh=>aB h λi=>gB (aoV i (I 0)) λj=>dL .not j λk=>gI k (yO [(I 6,none)]) (yO [(I 0,none)])) (bY e (I 2) λh=>gI h (az 2 b λi=>aB i λj=>gB (aka j (I 0)) λk=>dL .not k λl=>gI l (yO [(I 6,none)]) (yO [(I 0,none)])) (dL .not (.bool false) λi=>gI i (yO [(I 6,none)]) (yO [(I 0,none)]))))
def Lf{x0 W r}(h:Ha aY x0 W=some r):OG 63 #[] [x0] W r:=oM 28 h (by kernel_rfl)
def Hg:fx:=λc a=>aV a λb=>az 2 b λd=>aB d λe=>az 0 b λf=>aB f λg=>bY g (I 1) λh=>gI h (gB (Mw e (I 0)) λi=>gI i (yO [(I 6,none)]) (yO [(I 0,none)])) (bY g (I 0) λi=>gI i (az 1 b λj=>aB j λk=>gB (afR k (.int .u32 0)) λl=>gI l (yO [(I 6,none)]) (gB (akV e (I 0)) λm=>gI m (yO [(I 6,none)]) (yO [(I 0,none)]))) (bY g (I 2) λj=>gI j (gB (akV e (I 0)) λk=>gI k (yO [(I 6,none)]) (yO [(I 0,none)])) (yO [(I 6,none)])))
def Lm{x0 W r}(h:Hg aY x0 W=some r):OG 97 #[] [x0] W r:=oM 21 h (by kernel_rfl)
def Ed:di:=λc a b=>aV a λd=>aF 87 λe=>aN 5 d λf=>aN 5 d λg=>bT c 187 [f,b] λh=>gA (λW=>jP true (dF 5 d W) g&&true) (bT c 188 [g,I 1] λi=>br 251 2 [(0,h),(1,i)] λj=>bT c 186 [j] λk=>cu k (I 0) λl=>gI l (aN 5 d λm=>aA 5 e m λn=>yO [(e,some 87),(k,none)]) (az 2 d λm=>aB m λn=>bT c 165 [n,b] λo=>ap o 0 λp=>ap o 1 λr=>dL .not p λs=>gI s (aN 5 d λt=>aA 5 e t λu=>yO [(e,some 87),(I 9,none)]) (aN 5 d λt=>bT c 194 [t] λu=>aA 5 e u λv=>yO [(e,some 87),(I 0,none)])))
def H5{x0 x1 W r}(h:Ed aY x0 x1 W=some r):OG 169 #[] [x0,x1] W r:=oM 32 h (by kernel_rfl)
def nk:cE:=λc S=>bK (S 8) (S 7) λa=>gI a (bF 1 (S 6) (S 8) λb=>aB b λd=>gB (aqp d (S 3)) λe=>let T:=q (q (q S 9 [a,b,d]) 5 [d]) 12 [d,S 3,e];gI e (yR (q (q T 15 [d]) 2 [d])) (bD (S 8) (I 1) λf=>yN (q (q T 16 [f]) 8 [f]))) (yE 0 (q S 9 [a]))
def ym:fx:=λc a=>gB (aon a) λb=>gL (nk c) (q (q (cz 0 [a] ai.blank) 2 [I 0,I 0]) 6 [a,b,I 0]) λd S=>gX 0 d (yO [(S 3,none)]) (gR d (yO [(S 2,none)]))
def CX{x0 W r}(h:ym aY x0 W=some r):OG 186 #[] [x0] W r:=oM 18 h (by kernel_rfl)
def JS:di:=λc a b=>aV a λd=>aN 5 d λe=>bT c 97 [e] λf=>cu f (I 0) λg=>gI g (yO [(f,none)]) (gB (Mw b (I 0)) λh=>gI h (yO [(I 7,none)]) (yO [(I 0,none)]))
def Mu{x0 x1 W r}(h:JS aY x0 x1 W=some r):OG 187 #[] [x0,x1] W r:=oM 13 h (by kernel_rfl)
def Hu:di:=λc a b=>aV a λd=>aN 5 d λe=>bT c 97 [e] λf=>cu f (I 0) λg=>gI g (yO [(f,none)]) (az 0 d λh=>aB h λi=>gB (JB i b) λj=>gI j (yO [(I 15,none)]) (yO [(I 0,none)]))
def Ji{x0 x1 W r}(h:Hu aY x0 x1 W=some r):OG 188 #[] [x0,x1] W r:=oM 15 h (by kernel_rfl)
def Ek:di:=λc a b=>br 150 2 [(0,a),(1,b)] λd=>bT c 197 [d] λe=>gI e (yO [(.bool false,none),(I 7,none)]) (gB (Yn a b) λf=>yO [(f,none),(I 0,none)])
def H9{x0 x1 W r}(h:Ek aY x0 x1 W=some r):OG 165 #[] [x0,x1] W r:=oM 13 h (by kernel_rfl)
def Kj:fx:=λc a=>aV a λb=>aF 87 λd=>az 3 b λe=>aB e λf=>az 4 b λg=>aB g λh=>aX 87 [(3,f),(4,h)] λi=>aA 5 d i λj=>yO [(d,some 87)]
def MC{x0 W r}(h:Kj aY x0 W=some r):OG 194 #[] [x0] W r:=oM 8 h (by kernel_rfl)
def Eh:di:=λc a b=>aV a λd=>aF 87 λe=>aN 5 d λf=>bT c 63 [f] λg=>lT g (I 0) λh=>gT h (dh b) λi=>gT h (Mw i (I 0)) λj=>aO h j (.bool false) λk=>gI k (lT (I 7) (I 0) λl=>gI l (aN 5 d λm=>bT c 105 [m,I 1] λn=>cu n (I 0) λo=>gI o (aN 5 d λp=>aA 5 e p λr=>yO [(e,some 87),(n,none)]) (az 2 d λp=>aB p λr=>bT c 68 [r,b] λs=>ap s 0 λt=>ap s 1 λu=>dL .not t λv=>gI v (aN 5 d λw=>aA 5 e w λx=>yO [(e,some 87),(I 9,none)]) (aN 5 d λw=>bT c 106 [w] λx=>aA 5 e x λy=>yO [(e,some 87),(I 0,none)]))) (cu (I 7) (I 0) λm=>gI m (aN 5 d λn=>aA 5 e n λo=>yO [(e,some 87),(I 7,none)]) (az 2 d λn=>aB n λo=>bT c 68 [o,b] λp=>ap p 0 λr=>ap p 1 λs=>dL .not r λt=>gI t (aN 5 d λu=>aA 5 e u λv=>yO [(e,some 87),(I 9,none)]) (aN 5 d λu=>bT c 106 [u] λv=>aA 5 e v λw=>yO [(e,some 87),(I 0,none)])))) (lT g (I 0) λl=>gI l (aN 5 d λm=>bT c 105 [m,I 1] λn=>cu n (I 0) λo=>gI o (aN 5 d λp=>aA 5 e p λr=>yO [(e,some 87),(n,none)]) (az 2 d λp=>aB p λr=>bT c 68 [r,b] λs=>ap s 0 λt=>ap s 1 λu=>dL .not t λv=>gI v (aN 5 d λw=>aA 5 e w λx=>yO [(e,some 87),(I 9,none)]) (aN 5 d λw=>bT c 106 [w] λx=>aA 5 e x λy=>yO [(e,some 87),(I 0,none)]))) (cu g (I 0) λm=>gI m (aN 5 d λn=>aA 5 e n λo=>yO [(e,some 87),(g,none)]) (az 2 d λn=>aB n λo=>bT c 68 [o,b] λp=>ap p 0 λr=>ap p 1 λs=>dL .not r λt=>gI t (aN 5 d λu=>aA 5 e u λv=>yO [(e,some 87),(I 9,none)]) (aN 5 d λu=>bT c 106 [u] λv=>aA 5 e v λw=>yO [(e,some 87),(I 0,none)]))))
def HQ{x0 x1 W r}(h:Eh aY x0 x1 W=some r):OG 69 #[] [x0,x1] W r:=oM 37 h (by kernel_rfl)
def EE:di:=λc a b=>bT c 104 [a,b] λd=>lT d (I 0) λe=>gT e (dh a) λf=>gT e (dh b) λg=>gT e (Yn f g) λh=>aO e h (.bool false) λi=>yO [(i,none),(d,none)]
def Ib{x0 x1 W r}(h:EE aY x0 x1 W=some r):OG 68 #[] [x0,x1] W r:=oM 18 h (by kernel_rfl)
def B8:di:=λc a b=>aV a λd=>aF 87 λe=>aN 5 d λf=>bT c 110 [f,b] λg=>cu g (I 0) λh=>gI h (aN 5 d λi=>aA 5 e i λj=>yO [(e,some 87),(g,none)]) (aN 5 d λi=>bT c 106 [i] λj=>aA 5 e j λk=>yO [(e,some 87),(I 0,none)])
def F9{x0 x1 W r}(h:B8 aY x0 x1 W=some r):OG 73 #[] [x0,x1] W r:=oM 16 h (by kernel_rfl)
def MW:di:=λc a b=>aV a λd=>aF 87 λe=>aN 5 d λf=>bT c 110 [f,b] λg=>lT g (I 0) λh=>gT h (gO 3 d) λi=>gT h (bu i) λj=>gT h (U6 j (.int .u64 18446744073709551615)) λk=>aO h k (.bool false) λl=>gI l (cu (I 17) (I 0) λm=>gI m (aN 5 d λn=>aA 5 e n λo=>yO [(e,some 87),(I 17,none)]) (az 3 d λn=>aB n λo=>gB (VN o (.int .u64 1)) λp=>az 4 d λr=>aB r λs=>aX 87 [(0,I 2),(1,b),(3,p),(4,s)] λt=>aA 5 e t λu=>yO [(e,some 87),(I 0,none)])) (cu g (I 0) λm=>gI m (aN 5 d λn=>aA 5 e n λo=>yO [(e,some 87),(g,none)]) (az 3 d λn=>aB n λo=>gB (VN o (.int .u64 1)) λp=>az 4 d λr=>aB r λs=>aX 87 [(0,I 2),(1,b),(3,p),(4,s)] λt=>aA 5 e t λu=>yO [(e,some 87),(I 0,none)]))
def PW{x0 x1 W r}(h:MW aY x0 x1 W=some r):OG 74 #[] [x0,x1] W r:=oM 28 h (by kernel_rfl)
def Kw:fx:=λc a=>bT c 212 [a] λb=>gB (Mw b (I 0)) λd=>yO [(d,none)]
def LY{x0 W r}(h:Kw aY x0 W=some r):OG 197 #[] [x0] W r:=oM 6 h (by kernel_rfl)
def RR:di:=λc a b=>aV a λd=>aN 5 d λe=>bT c 63 [e] λf=>lT f (I 0) λg=>gT g (gO 0 d) λh=>gT g (bu h) λi=>gT g (dh b) λj=>gT g (JB i j) λk=>aO g k (.bool false) λl=>gI l (yO [(I 15,none)]) (yO [(f,none)])
def Qx{x0 x1 W r}(h:RR aY x0 x1 W=some r):OG 105 #[] [x0,x1] W r:=oM 17 h (by kernel_rfl)
def JO:fx:=λc a=>aV a λb=>aF 87 λd=>az 3 b λe=>aB e λf=>az 4 b λg=>aB g λh=>aX 87 [(3,f),(4,h)] λi=>aA 5 d i λj=>yO [(d,some 87)]
def Mo{x0 W r}(h:JO aY x0 W=some r):OG 106 #[] [x0] W r:=oM 8 h (by kernel_rfl)
def C1:di:=λc a b=>gB (Mw a (I 0)) λd=>gF d (dh b) λe=>gF d (Mw e (I 0)) λf=>aO d (.bool true) f λg=>gI g (yO [(I 7,none)]) (yO [(I 0,none)])
def Cj{x0 x1 W r}(h:C1 aY x0 x1 W=some r):OG 104 #[] [x0,x1] W r:=oM 11 h (by kernel_rfl)
def JZ:di:=λc a b=>aV a λd=>aN 5 d λe=>bT c 105 [e,I 1] λf=>lT f (I 0) λg=>gT g (gO 1 d) λh=>gT g (bu h) λi=>gT g (dh b) λj=>gT g (Vc i j) λk=>aO g k (.bool false) λl=>gI l (yO [(I 14,none)]) (yO [(f,none)])
def L3{x0 x1 W r}(h:JZ aY x0 x1 W=some r):OG 110 #[] [x0,x1] W r:=oM 17 h (by kernel_rfl)
def wJ:cE:=λc S=>gB (agY (S 0)) λa=>bK (S 4) a λb=>let T:=q S 12 [S 4,S 0,a,b];gI b (bF 1 (S 0) (S 4) λd=>aB d λe=>gB (ajn (S 3) e) λf=>bD (S 4) (I 1) λg=>yN (q (q (q (q T 18 [S 3,S 0,S 4,d,e,f]) 3 [f]) 16 [S 4,g]) 4 [g])) (yE 0 T)
def i8:cE:=λc S=>gB (agY (S 0)) λa=>bK (S 4) a λb=>let T:=q S 12 [S 4,S 0,a,b];gI b (bF 1 (S 0) (S 4) λd=>aB d λe=>gB (ajn (S 3) e) λf=>bD (S 4) (I 1) λg=>yN (q (q (q (q T 18 [S 3,S 0,S 4,d,e,f]) 3 [f]) 16 [S 4,g]) 4 [g])) (yE 0 T)
def qy:fx:=λc a=>gB (agY a) λb=>lS b (I 1) λd=>let S:=q (q (cz 0 [a] ai.blank) 2 [I 0]) 5 [a,b,d];gI d (gB (MY 9 (Ig [115,108,105,99,101,115,46,77,105,110,58,32,101,109,112,116,121,32,108,105,115,116])) λe=>gB (zN) λf=>bF 1 a (I 0) λg=>aB g λh=>gL (wJ c) (q (q S 8 [e,a,g,h]) 3 [h,I 1]) λi T=>gX 0 i (yO [(T 3,none)]) yZ) (bF 1 a (I 0) λe=>aB e λf=>gL (i8 c) (q (q S 9 [a,e,f]) 3 [f,I 1]) λg T=>gX 0 g (yO [(T 3,none)]) yZ)
def wn{x0 W r}(h:qy aY x0 W=some r):OG 212 #[] [x0] W r:=oM 25 h (by kernel_rfl)
def B7:di:=λc a b=>aV a λd=>aF 87 λe=>aN 5 d λf=>bT c 193 [f,b] λg=>cu g (I 0) λh=>gI h (aN 5 d λi=>aA 5 e i λj=>yO [(e,some 87),(g,none)]) (aN 5 d λi=>bT c 194 [i] λj=>aA 5 e j λk=>yO [(e,some 87),(I 0,none)])
def E9{x0 x1 W r}(h:B7 aY x0 x1 W=some r):OG 155 #[] [x0,x1] W r:=oM 16 h (by kernel_rfl)
def Nb:di:=λc a b=>aV a λd=>aF 87 λe=>aN 5 d λf=>bT c 193 [f,b] λg=>cu g (I 0) λh=>gI h (aN 5 d λi=>aA 5 e i λj=>yO [(e,some 87),(g,none)]) (aN 5 d λi=>bT c 196 [i,b] λj=>ap j 0 λk=>ap j 1 λl=>aA 5 e k λm=>yO [(e,some 87),(l,none)])
def Ou{x0 x1 W r}(h:Nb aY x0 x1 W=some r):OG 157 #[] [x0,x1] W r:=oM 19 h (by kernel_rfl)
def gn:di:=λc a b=>gJ a λd=>bT c 198 [a,d,b] λe=>yO []
def jg{x0 x1 W r}(h:gn aY x0 x1 W=some r):OG 166 #[] [x0,x1] W r:=oM 9 h (by kernel_rfl)
def KP:di:=λc a b=>aV a λd=>aN 5 d λe=>bT c 188 [e,I 1] λf=>cu f (I 0) λg=>gI g (yO [(f,none)]) (az 1 d λh=>aB h λi=>gB (Vc i b) λj=>gI j (yO [(I 14,none)]) (yO [(I 0,none)]))
def Mz{x0 x1 W r}(h:KP aY x0 x1 W=some r):OG 193 #[] [x0,x1] W r:=oM 15 h (by kernel_rfl)
def HF:di:=λc a b=>aV a λd=>aF 87 λe=>az 3 d λf=>aB f λg=>gB (U6 g (.int .u64 18446744073709551615)) λh=>gI h (aN 5 d λi=>aA 5 e i λj=>yO [(e,some 87),(I 17,none)]) (az 3 d λi=>aB i λj=>gB (VN j (.int .u64 1)) λk=>az 4 d λl=>aB l λm=>aX 87 [(0,I 2),(1,b),(3,k),(4,m)] λn=>aA 5 e n λo=>yO [(e,some 87),(I 0,none)])
def JF{x0 x1 W r}(h:HF aY x0 x1 W=some r):OG 196 #[] [x0,x1] W r:=oM 17 h (by kernel_rfl)
def dE:cE:=λc S=>gB (acU (S 8) (S 1)) λa=>let T:=q S 11 [S 8,S 1,a];gI a (bT c 213 [S 0,S 7,S 8,S 2] λb=>dN (S 8) (S 6) λd=>yN (q (q (q (q T 14 [S 0,S 7,S 8,S 2,b,S 8]) 7 [S 8]) 20 [S 8,S 6,d]) 8 [d])) (yE 0 T)
def dP:cE:=λc S=>gB (acU (S 8) (S 1)) λa=>let T:=q S 33 [S 8,S 1,a];gI a (dN (S 7) (S 6) λb=>bT c 214 [S 0,S 7,b,S 8,S 2] λd=>gB (alg (I 2) (S 6)) λe=>dN (S 8) e λf=>yN (q (q (q (q T 36 [S 0,S 7,S 7,S 6,b,S 8,S 2,d,S 8]) 7 [S 8]) 45 [S 8,S 6,e,f]) 8 [f])) (yE 4 T)
def fc:cE:=λc S=>bK (S 6) (S 1) λa=>let T:=q S 28 [S 6,S 1,a];gI a (gB (alg (I 2) (S 6)) λb=>gL (dP c) (q (q T 31 [S 6,b]) 7 [I 0,b]) λd U=>gX 4 d (dN (U 7) (U 6) λe=>bK e (U 1) λf=>let V:=q (q (q U 49 [U 7,U 6,e]) 9 [e]) 52 [e,U 1,f];gI f (bT c 214 [U 0,U 7,e,U 1,U 2] λg=>gB (akU (U 6) (I 2)) λh=>yN (q (q V 55 [U 0,U 7,e,U 1,U 2,g,U 6,h]) 6 [h])) (gB (akU (U 6) (I 2)) λg=>yN (q (q V 61 [U 6,g]) 6 [g]))) yZ) (yE 2 T)
def jf:pk:=λc a b d=>gL (dE c) (q (q (q (cz 0 [a,b,d] ai.blank) 6 [I 20]) 10 [I 20]) 7 [I 0,I 20]) λe S=>gX 0 e (bT c 213 [S 0,S 7,S 1,S 2] λf=>gL (fc c) (q S 23 [S 0,S 7,S 1,S 2,f]) λg T=>gX 2 g (yO []) yZ) yZ
def kQ{x0 x1 x2 W r}(h:jf aY x0 x1 x2 W=some r):OG 198 #[] [x0,x1,x2] W r:=oM 63 h (by kernel_rfl)
def cY:cE:=λc S=>gB (zb4 (S 9) (S 1)) λa=>gT a (dh (S 3)) λb=>gT a (dh (S 0)) λd=>gT a (dh (S 9)) λe=>gT a (nY 1 d e) λf=>gT a (bu f) λg=>gT a (dh (S 0)) λh=>gT a (dh (S 9)) λi=>gT a (amu i (I 1)) λj=>gT a (nY 1 h j) λk=>gT a (bu k) λl=>gT a (c b [g,l]) λm=>gT a (zb1 m (I 0)) λn=>aO a n (.bool false) λo=>let T:=q S 18 [S 9,S 1,a,a,b,d,e,f,g,h,i,j,k,l,m,n,o];gI o (jk (S 9) (I 1) λp=>jk (S 9) (I 1) λr=>bF 1 (S 0) r λs=>aB s λt=>bF 1 (S 0) (S 9) λu=>aB u λv=>bF 1 (S 0) (S 9) λw=>aA 1 w t λx=>bF 1 (S 0) p λy=>aA 1 y v λz=>jk (S 9) (I 1) λA=>yN (q (q (q T 37 [S 0,S 9,S 0,S 9,p,S 0,S 9,r,s,t,S 0,S 9,u,v,w,y]) 35 [S 9,A]) 9 [A])) (yE 2 T)
def cM:cE:=λc S=>bK (S 8) (S 2) λa=>let T:=q S 12 [S 8,S 2,a];gI a (gL (cY c) (q (q T 17 [S 8]) 9 [S 8]) λb U=>gX 2 b (bD (U 8) (I 1) λd=>yN (q (q U 15 [U 8,d]) 8 [d])) yZ) (yE 0 T)
def dI:GH:=λc a b d e=>bD b (I 1) λf=>gL (cM c) (q (q (cz 0 [a,b,d,e] ai.blank) 10 [b,f]) 8 [f]) λg S=>gX 0 g (yO []) yZ
def eW{x0 x1 x2 x3 W r}(h:dI aY x0 x1 x2 x3 W=some r):OG 213 #[] [x0,x1,x2,x3] W r:=oM 53 h (by kernel_rfl)
def eC:cE:=λc S=>bK (S 10) (S 11) λa=>let T:=q S 31 [S 10,S 11,a];gI a (dN (S 10) (S 11) λb=>fu 3 228 b λd=>gB (XH d (.int .u64 1)) λe=>fu 228 3 e λf=>bF 1 (S 0) f λg=>aB g λh=>bF 1 (S 0) (S 1) λi=>aB i λj=>gB (c (S 4) [h,j]) λk=>lS k (I 0) λl=>let U:=q (q (q T 34 [S 10,S 11,b,d,e,f]) 12 [f]) 40 [S 4,S 0,f,g,h,S 0,S 1,i,j,k,l];gI l (bD f (I 1) λm=>yN (q (q U 51 [f,m]) 10 [m])) (yN (q (q U 53 [f]) 11 [f]))) (yE 0 T)
def eg:cE:=λc S=>jk (S 10) (I 1) λa=>bK (S 13) a λb=>let T:=q S 55 [S 13,S 10,a,b];gI b (bD (S 13) (I 1) λd=>bD (S 13) (I 1) λe=>bF 1 (S 0) e λf=>aB f λg=>bF 1 (S 0) (S 13) λh=>aB h λi=>bF 1 (S 0) (S 13) λj=>aA 1 j g λk=>bF 1 (S 0) d λl=>aA 1 l i λm=>bD (S 13) (I 1) λn=>yN (q (q (q T 61 [S 0,S 13,S 0,S 13,d,S 0,S 13,e,f,g,S 0,S 13,h,i,j,l]) 59 [S 13,n]) 13 [n])) (yE 2 T)
def eh:cE:=λc S=>bK (S 14) (S 15) λa=>let T:=q S 83 [S 14,S 15,a];gI a (dN (S 14) (S 15) λb=>fu 3 228 b λd=>gB (XH d (.int .u64 1)) λe=>fu 228 3 e λf=>bF 1 (S 0) (S 2) λg=>aB g λh=>bF 1 (S 0) f λi=>aB i λj=>gB (c (S 4) [h,j]) λk=>lS k (I 0) λl=>dL .not l λm=>let U:=q (q (q T 86 [S 14,S 15,b,d,e,f]) 16 [f]) 92 [S 4,S 0,S 2,g,h,S 0,f,i,j,k,l,m];gI m (bD f (I 1) λn=>yN (q (q U 104 [f,n]) 14 [n])) (yN (q (q U 106 [f]) 15 [f]))) (yE 4 T)
def eE:cE:=λc S=>gB (zb4 (S 17) (S 14)) λa=>let T:=q S 108 [S 17,S 14,a];gI a (jk (S 17) (I 1) λb=>jk (S 17) (I 1) λd=>bF 1 (S 0) d λe=>aB e λf=>bF 1 (S 0) (S 17) λg=>aB g λh=>bF 1 (S 0) (S 17) λi=>aA 1 i f λj=>bF 1 (S 0) b λk=>aA 1 k h λl=>jk (S 17) (I 1) λm=>yN (q (q (q T 113 [S 0,S 17,S 0,S 17,b,S 0,S 17,d,e,f,S 0,S 17,g,h,i,k]) 111 [S 17,m]) 17 [m])) (yE 6 T)
def dZ:cE:=λc S=>bK (S 20) (S 21) λa=>let T:=q S 149 [S 20,S 21,a];gI a (dN (S 20) (S 21) λb=>fu 3 228 b λd=>gB (XH d (.int .u64 1)) λe=>fu 228 3 e λf=>iB (S 22) f λg=>bF 1 (S 0) g λh=>aB h λi=>bF 1 (S 0) f λj=>aB j λk=>gB (c (S 4) [i,k]) λl=>lS l (I 0) λm=>dL .not m λn=>let U:=q (q (q T 152 [S 20,S 21,b,d,e,f]) 23 [f]) 158 [S 4,S 0,S 22,f,g,h,i,S 0,f,j,k,l,m,n];gI n (bD f (I 1) λo=>yN (q (q U 172 [f,o]) 20 [o])) (yN (q (q U 174 [f]) 21 [f]))) (yE 8 T)
def ez:cE:=λc S=>bK (S 20) (S 21) λa=>let T:=q S 149 [S 20,S 21,a];gI a (dN (S 20) (S 21) λb=>fu 3 228 b λd=>gB (XH d (.int .u64 1)) λe=>fu 228 3 e λf=>iB (S 22) f λg=>bF 1 (S 0) g λh=>aB h λi=>bF 1 (S 0) f λj=>aB j λk=>gB (c (S 4) [i,k]) λl=>lS l (I 0) λm=>dL .not m λn=>let U:=q (q (q T 152 [S 20,S 21,b,d,e,f]) 23 [f]) 158 [S 4,S 0,S 22,f,g,h,i,S 0,f,j,k,l,m,n];gI n (bD f (I 1) λo=>yN (q (q U 172 [f,o]) 20 [o])) (yN (q (q U 174 [f]) 21 [f]))) (yE 8 T)
def lX:LW:=λc a b d e f=>iB d b λg=>bY g (I 1) λh=>let S:=q (cz 0 [a,b,d,e,f] ai.blank) 25 [d,b,g,h];gI h (gL (eC c) (q (q (q (q S 29 [d]) 10 [d]) 30 [e]) 11 [e]) λi T=>gX 0 i (gL (eg c) (q (q T 54 [T 1]) 13 [T 1]) λj U=>gX 2 j (yO []) yZ) yZ) (iB e d λi=>bY i (I 1) λj=>let T:=q S 77 [e,d,i,j];gI j (gL (eh c) (q (q (q (q T 81 [b]) 14 [b]) 82 [d]) 15 [d]) λk U=>gX 4 k (gL (eE c) (q (q U 107 [U 2]) 17 [U 2]) λl V=>gX 6 l (yO []) yZ) yZ) (dN b e λk=>fu 3 228 k λl=>gB (XH l (.int .u64 1)) λm=>fu 228 3 m λn=>dN n d λo=>gB (zb4 d n) λp=>let U:=q (q (q (q (q T 129 [b,e,k,l,m,n]) 18 [n]) 135 [n,d,o]) 19 [o,I 0,I 0]) 138 [d,n,p];gI p (iB o e λr=>jk o (I 1) λs=>gL (dZ c) (q (q (q (q (q (q U 141 [o,e,r]) 20 [r]) 144 [n]) 21 [n]) 147 [o,s]) 22 [s]) λt V=>gX 8 t (iB (V 19) (V 20) λu=>bK (V 20) (V 2) λv=>gT v (dh (V 2)) λw=>gT v (dh u) λx=>gT v (MI w x) λy=>aO v y (.bool false) λz=>gI z (bT c 221 [V 0,V 20,V 2,u,V 4] λA=>bK (V 1) (V 20) λB=>gT B (dh (V 20)) λC=>gT B (dh (V 18)) λD=>gT B (MI C D) λE=>aO B E (.bool false) λF=>gI F (bT c 214 [V 0,V 1,V 20,V 18,V 4] λG=>bK (V 18) u λH=>gT H (dh u) λJ=>gT H (dh (V 3)) λK=>gT H (MI J K) λL=>aO H L (.bool false) λM=>gI M (bT c 214 [V 0,V 18,u,V 3,V 4] λN=>yO []) (yO [])) (bK (V 18) u λG=>gT G (dh u) λH=>gT G (dh (V 3)) λJ=>gT G (MI H J) λK=>aO G K (.bool false) λL=>gI L (bT c 214 [V 0,V 18,u,V 3,V 4] λM=>yO []) (yO []))) (bK (V 1) (V 20) λA=>gT A (dh (V 20)) λB=>gT A (dh (V 18)) λC=>gT A (MI B C) λD=>aO A D (.bool false) λE=>gI E (bT c 214 [V 0,V 1,V 20,V 18,V 4] λF=>bK (V 18) u λG=>gT G (dh u) λH=>gT G (dh (V 3)) λJ=>gT G (MI H J) λK=>aO G K (.bool false) λL=>gI L (bT c 214 [V 0,V 18,u,V 3,V 4] λM=>yO []) (yO [])) (bK (V 18) u λF=>gT F (dh u) λG=>gT F (dh (V 3)) λH=>gT F (MI G H) λJ=>aO F J (.bool false) λK=>gI K (bT c 214 [V 0,V 18,u,V 3,V 4] λL=>yO []) (yO [])))) yZ) (jk o (I 1) λr=>gL (ez c) (q (q (q (q (q (q U 145 [b]) 20 [b]) 146 [d]) 21 [d]) 147 [o,r]) 22 [r]) λs V=>gX 8 s (iB (V 19) (V 20) λt=>bK (V 20) (V 2) λu=>gT u (dh (V 2)) λv=>gT u (dh t) λw=>gT u (MI v w) λx=>aO u x (.bool false) λy=>gI y (bT c 221 [V 0,V 20,V 2,t,V 4] λz=>bK (V 1) (V 20) λA=>gT A (dh (V 20)) λB=>gT A (dh (V 18)) λC=>gT A (MI B C) λD=>aO A D (.bool false) λE=>gI E (bT c 214 [V 0,V 1,V 20,V 18,V 4] λF=>bK (V 18) t λG=>gT G (dh t) λH=>gT G (dh (V 3)) λJ=>gT G (MI H J) λK=>aO G K (.bool false) λL=>gI L (bT c 214 [V 0,V 18,t,V 3,V 4] λM=>yO []) (yO [])) (bK (V 18) t λF=>gT F (dh t) λG=>gT F (dh (V 3)) λH=>gT F (MI G H) λJ=>aO F J (.bool false) λK=>gI K (bT c 214 [V 0,V 18,t,V 3,V 4] λL=>yO []) (yO []))) (bK (V 1) (V 20) λz=>gT z (dh (V 20)) λA=>gT z (dh (V 18)) λB=>gT z (MI A B) λC=>aO z C (.bool false) λD=>gI D (bT c 214 [V 0,V 1,V 20,V 18,V 4] λE=>bK (V 18) t λF=>gT F (dh t) λG=>gT F (dh (V 3)) λH=>gT F (MI G H) λJ=>aO F J (.bool false) λK=>gI K (bT c 214 [V 0,V 18,t,V 3,V 4] λL=>yO []) (yO [])) (bK (V 18) t λE=>gT E (dh t) λF=>gT E (dh (V 3)) λG=>gT E (MI F G) λH=>aO E H (.bool false) λJ=>gI J (bT c 214 [V 0,V 18,t,V 3,V 4] λK=>yO []) (yO [])))) yZ)))
def rF{x0 x1 x2 x3 x4 W r}(h:lX aY x0 x1 x2 x3 x4 W=some r):OG 214 #[] [x0,x1,x2,x3,x4] W r:=oM 220 h (by kernel_rfl)
def ll:cE:=λc S=>gB (JB (S 10) (S 11)) λa=>let T:=q S 18 [S 10,S 11,a];gI a (gB (zb4 (S 10) (S 11)) λb=>let U:=q T 21 [S 10,S 11,b];gI b (iB (S 2) (S 10) λd=>bT c 226 [S 0,d,S 2,S 11,S 4] λe=>iB (S 10) (S 11) λf=>yN (q (q U 24 [S 0,S 2,S 10,d,S 2,S 11,S 4,e,S 10,S 11,f]) 10 [f])) (iB (S 2) (S 10) λd=>dN (S 2) (S 11) λe=>iB e (S 10) λf=>bT c 226 [S 0,d,f,S 10,S 4] λg=>iB (S 11) (S 10) λh=>yN (q (q U 35 [S 0,S 2,S 10,d,S 2,S 11,e,S 10,f,S 10,S 4,g,S 11,S 10,h]) 11 [h]))) (yE 0 T)
def nQ:LW:=λc a b d e f=>iB d b λg=>iB e d λh=>gL (ll c) (q (q (q (q (cz 0 [a,b,d,e,f] ai.blank) 12 [d,b,g]) 10 [g]) 15 [e,d,h]) 11 [h]) λi S=>gX 0 i (iB (S 2) (S 10) λj=>bT c 226 [S 0,j,S 2,S 10,S 4] λk=>yO []) yZ
def sN{x0 x1 x2 x3 x4 W r}(h:nQ aY x0 x1 x2 x3 x4 W=some r):OG 221 #[] [x0,x1,x2,x3,x4] W r:=oM 58 h (by kernel_rfl)
def fP:cE:=λc S=>bK (S 10) (S 3) λa=>let T:=q S 11 [S 10,S 3,a];gI a (dN (S 1) (S 10) λb=>dN (S 2) (S 10) λd=>dN (S 2) (S 10) λe=>bF 1 (S 0) e λf=>aB f λg=>dN (S 1) (S 10) λh=>bF 1 (S 0) h λi=>aB i λj=>bF 1 (S 0) b λk=>aA 1 k g λl=>bF 1 (S 0) d λm=>aA 1 m j λn=>bD (S 10) (I 1) λo=>yN (q (q (q T 16 [S 0,S 1,S 10,b,S 0,S 2,S 10,d,S 0,S 2,S 10,e,f,g,S 0,S 1,S 10,h,i,j,k,m]) 14 [S 10,o]) 10 [o])) (yE 0 T)
def kW:LW:=λc a b d e f=>gL (fP c) (q (cz 0 [a,b,d,e,f] ai.blank) 10 [I 0]) λg S=>gX 0 g (yO []) yZ
def qp{x0 x1 x2 x3 x4 W r}(h:kW aY x0 x1 x2 x3 x4 W=some r):OG 226 #[] [x0,x1,x2,x3,x4] W r:=oM 38 h (by kernel_rfl)
structure fq where
 st:Int
 ow:Int
 dl:Int
 se:Int
 ep:Int
abbrev dJ(x:fq):List ad:=[.ae x.st,.int .u32 x.ow,.ae x.dl,.int .u64 x.se,.int .u64 x.ep]
abbrev iS(x:fq):ad:=.agg #[.ae x.st,.int .u32 x.ow,.ae x.dl,.int .u64 x.se,.int .u64 x.ep]
def Cv:fq:=⟨0,0,0,0,0⟩
def abr{b o:Nat}{cs:List ad}{x:ad}{W:AW}(h:W.get b=some (.cells cs))(hv:cs[o]? =some x):bu (.pointer (some ⟨b,o,none⟩)) W=some (x,W):=aP (ao h) hv
section
variable {W:AW} {b:Nat} {x:fq}
def jl(h:W.get b=some (.cells (dJ x))):bu (.pointer (some ⟨b,0,none⟩)) W=some (.ae x.st,W):=abr h rfl
def vi(h:W.get b=some (.cells (dJ x))):bu (.pointer (some ⟨b,1,none⟩)) W=some (.int .u32 x.ow,W):=abr h rfl
def iZ(h:W.get b=some (.cells (dJ x))):bu (.pointer (some ⟨b,2,none⟩)) W=some (.ae x.dl,W):=abr h rfl
def Gv(h:W.get b=some (.cells (dJ x))):bu (.pointer (some ⟨b,3,none⟩)) W=some (.int .u64 x.se,W):=abr h rfl
def PZ(h:W.get b=some (.cells (dJ x))):bu (.pointer (some ⟨b,4,none⟩)) W=some (.int .u64 x.ep,W):=abr h rfl
def bR(h:W.get b=some (.cells (dJ x))):dF 5 (.pointer (some ⟨b,0,none⟩)) W=some (iS x,W):=bz (ao h) rfl
def MF{z:fq}(h:W.get b=some (.cells (dJ z))):fm 5 (.pointer (some ⟨b,0,none⟩)) (iS x) W=some (ak,W.put b (.cells (dJ x))):=zx (n:=5) (o:=0) (v:=iS x) h rfl (aR _) rfl
end
def aqA(x:fq)(W:AW):rD (iS x) W=some (.pointer (some ⟨W.next,0,none⟩),W.add (.cells (dJ x))):=jR _
def p7(W:AW):dg Tryz.prog 87 W=some (.pointer (some ⟨W.next,0,none⟩),W.add (.cells (dJ Cv))):=aT (by kernel_rfl) rfl
def apc(a b:Int)(W:AW):fd Tryz.prog 87 [(3,.int .u64 a),(4,.int .u64 b)] W=some (iS ⟨0,0,0,a,b⟩,W):=aT (by kernel_rfl) rfl
def iL(x:ad)(W:AW):iU Tryz.prog 87 x W=dF 5 x W:=by kernel_rfl
def qO(x:fq):iw (iS x) (iS x)=true:=pI (by simp[Y6,Ax])
def D8(x:fq):Int:=if x.st=1 then(if x.dl<0 then 6 else 0)else if x.st=0 then(if x.ow=0 then(if x.dl=0 then 0 else 6)else 6)else if x.st=2 then(if x.dl=0 then 0 else 6)else 6
def Rh{x:fq}(h:x.st=1):D8 x=if x.dl<0 then 6 else 0:=by unfold D8;rw[an h]
def nu(x:fq)(W:AW):aY (.func (.func 97) #[] #[]) [iS x] W=some (.ae (D8 x),W):=by
 refine aQ rfl ?_ Lm;unfold Hg;have hg:(W.add (.cells (dJ x))).get W.next=some (.cells (dJ x)):=AW.aL _ _;have aM:Le W (W.add (.cells (dJ x))):=(Le.refl _).add _;simp only[SX,aI];generalize W.add (.cells (dJ x))=W1 at *;unfold D8;by_cases c1:x.st=1
 ·have d1:=aK c1;rw[an c1];by_cases c2:x.dl<0
  ·have d2:=aK c2;simp only[SX,iZ hg,jl hg,d1,d2,an c2,af];exact⟨aj,aM⟩
  ·have d2:=aJ c2;simp only[SX,iZ hg,jl hg,d1,d2,aq c2,af];exact⟨aj,aM⟩
 have d1:=aJ c1;rw[aq c1];by_cases c0:x.st=0
 ·have d0:=aK c0;rw[an c0];by_cases c2:x.ow=0
  ·have d2:=aK c2;rw[an c2];by_cases c3:x.dl=0
   ·have d3:=aK c3;simp only[SX,iZ hg,jl hg,d1,d0,vi hg,d2,d3,an c3,af];exact⟨aj,aM⟩
   ·have d3:=aJ c3;simp only[SX,iZ hg,jl hg,d1,d0,vi hg,d2,d3,aq c3,af];exact⟨aj,aM⟩
  ·have d2:=aJ c2;rw[aq c2];simp only[SX,iZ hg,jl hg,d1,d0,vi hg,d2,af];exact⟨aj,aM⟩
 have d0:=aJ c0;rw[aq c0];by_cases c2:x.st=2
 ·have d2:=aK c2;rw[an c2];by_cases c3:x.dl=0
  ·have d3:=aK c3;simp only[SX,iZ hg,jl hg,d1,d0,d2,d3,an c3,af];exact⟨aj,aM⟩
  ·have d3:=aJ c3;simp only[SX,iZ hg,jl hg,d1,d0,d2,d3,aq c3,af];exact⟨aj,aM⟩
 ·have d2:=aJ c2;rw[aq c2];simp only[SX,iZ hg,jl hg,d1,d0,d2,af];exact⟨aj,aM⟩
def io(x:fq)(W:AW):aY (.func (.func 63) #[] #[]) [iS x] W=some (.ae (D8 x),W):=by
 refine aQ rfl ?_ Lf;unfold Ha;have hg:(W.add (.cells (dJ x))).get W.next=some (.cells (dJ x)):=AW.aL _ _;have aM:Le W (W.add (.cells (dJ x))):=(Le.refl _).add _;simp only[SX,aI];generalize W.add (.cells (dJ x))=W1 at *;unfold D8;by_cases c0:x.st=0
 ·have d0:=aK c0;rw[bL,an c0];by_cases c2:x.ow=0
  ·have d2:=aK c2;rw[an c2];by_cases c3:x.dl=0
   ·have d3:=aK c3;simp only[SX,iZ hg,jl hg,d0,vi hg,d2,d3,an c3,af];exact⟨aj,aM⟩
   ·have d3:=aJ c3;simp only[SX,iZ hg,jl hg,d0,vi hg,d2,d3,aq c3,af];exact⟨aj,aM⟩
  ·have d2:=aJ c2;rw[aq c2];simp only[SX,iZ hg,jl hg,d0,vi hg,d2,af];exact⟨aj,aM⟩
 have d0:=aJ c0;by_cases c1:x.st=1
 ·have d1:=aK c1;rw[an c1];by_cases c2:x.dl<0
  ·have d2:decide (0<=x.dl)=false:=bS;simp only[SX,iZ hg,jl hg,d0,d1,d2,an c2,af];exact⟨aj,aM⟩
  ·have d2:decide (0<=x.dl)=true:=cd;simp only[SX,iZ hg,jl hg,d0,d1,d2,aq c2,af];exact⟨aj,aM⟩
 have d1:=aJ c1;rw[aq c1,aq c0];by_cases c2:x.st=2
 ·have d2:=aK c2;rw[an c2];by_cases c3:x.dl=0
  ·have d3:=aK c3;simp only[SX,iZ hg,jl hg,d1,d0,d2,d3,an c3,af];exact⟨aj,aM⟩
  ·have d3:=aJ c3;simp only[SX,iZ hg,jl hg,d1,d0,d2,d3,aq c3,af];exact⟨aj,aM⟩
 ·have d2:=aJ c2;rw[aq c2];simp only[SX,iZ hg,jl hg,d1,d0,d2,af];exact⟨aj,aM⟩
def IF(x:fq)(t:Int):Int:=if D8 x=0 then(if t<0 then 7 else 0)else D8 x
def wz(x:fq)(w:Int):Int:=if D8 x=0 then(if x.st=w then 0 else 15)else D8 x
def sC(x:fq)(t:Int)(W:AW):aY (.func (.func 187) #[] #[]) [iS x,.ae t] W=some (.ae (IF x t),W):=by
 refine aQ rfl ?_ Mu;unfold JS;have hg:(W.add (.cells (dJ x))).get W.next=some (.cells (dJ x)):=AW.aL _ _;have aM:Le W (W.add (.cells (dJ x))):=(Le.refl _).add _;simp only[SX];generalize W.add (.cells (dJ x))=W1 at *;unfold IF;by_cases c1:D8 x=0
 ·have d1:=aK c1;rw[an c1];by_cases c2:t<0
  ·have d2:=aK c2;simp only[SX,bR hg,nu,d1,d2,an c2,af];exact⟨aj,aM⟩
  ·have d2:=aJ c2;simp only[SX,bR hg,nu,d1,d2,aq c2,af];exact⟨aj,aM⟩
 ·have d1:=aJ c1;simp only[SX,bR hg,nu,d1,aq c1,af];exact⟨aj,aM⟩
def fg(x:fq)(w:Int)(W:AW):aY (.func (.func 188) #[] #[]) [iS x,.ae w] W=some (.ae (wz x w),W):=by
 refine aQ rfl ?_ Ji;unfold Hu;have hg:(W.add (.cells (dJ x))).get W.next=some (.cells (dJ x)):=AW.aL _ _;have aM:Le W (W.add (.cells (dJ x))):=(Le.refl _).add _;simp only[SX,aI];generalize W.add (.cells (dJ x))=W1 at *;unfold wz;by_cases c1:D8 x=0
 ·have d1:=aK c1;rw[an c1];by_cases c2:x.st=w
  ·have d2:=aK c2;simp only[SX,bR hg,nu,d1,jl hg,d2,an c2,af];exact⟨aj,aM⟩
  ·have d2:=aJ c2;simp only[SX,bR hg,nu,d1,jl hg,d2,aq c2,af];exact⟨aj,aM⟩
 ·have d1:=aJ c1;simp only[SX,bR hg,nu,d1,aq c1,af];exact⟨aj,aM⟩
def i7(x:fq)(w:Int)(W:AW):aY (.func (.func 105) #[] #[]) [iS x,.ae w] W=some (.ae (wz x w),W):=by
 refine aQ rfl ?_ Qx;unfold RR;have hg:(W.add (.cells (dJ x))).get W.next=some (.cells (dJ x)):=AW.aL _ _;have aM:Le W (W.add (.cells (dJ x))):=(Le.refl _).add _;simp only[SX,aI];generalize W.add (.cells (dJ x))=W1 at *;unfold wz;by_cases c1:D8 x=0
 ·have d1:=aK c1;rw[an c1];by_cases c2:x.st=w
  ·have d2:=aK c2;simp only[SX,bR hg,io,jl hg,d2,c1,an c2,af];exact⟨aj,aM⟩
  ·have d2:=aJ c2;simp only[SX,bR hg,io,d1,jl hg,d2,aq c2,af];exact⟨aj,aM⟩
 ·have d1:=aJ c1;simp only[SX,bR hg,io,d1,aq c1,af];exact⟨aj,aM⟩
def mG(x:fq):fq:=⟨0,0,0,x.se,x.ep⟩
def Et(x:fq)(W:AW):∃W1 W2,rD (iS x) W=some (.pointer (some ⟨W.next,0,none⟩),W1)/\dg Tryz.prog 87 W1=some (.pointer (some ⟨W.next+1,0,none⟩),W2)/\Le W W2/\W2.next=W.next+2/\W2.get W.next=some (.cells (dJ x))/\W2.get (W.next+1)=some (.cells (dJ Cv)):=
 ⟨_,_,aqA _ _,by rw[p7,AW.av],((Le.refl _).add _).add _,by rw[AW.av,AW.av],by rw[AW.aG _ _ (by rw[AW.av];omega),AW.aL],by rw[show W.next+1=(W.add (.cells (dJ x))).next by rw[AW.av],AW.aL]⟩
def Bk(x:fq)(W:AW):aY (.func (.func 194) #[] #[]) [iS x] W=some (iS (mG x),W):=by refine aQ rfl ?_ MC;unfold Kj;obtain⟨W1,W2,k1,k2,aM,n2,g1,g2⟩:=Et x W;have st:=MF (x:=mG x) g2;simp only[SX,k1,k2,aI,Gv g1,PZ g1,apc,show iS ⟨0,0,0,x.se,x.ep⟩=iS (mG x)from rfl,st,rT,iL,bR (x:=mG x) (AW.aW _ _ _),bM,af];exact⟨aj,aM.put (by omega) _⟩
def xV(x:fq)(W:AW):aY (.func (.func 106) #[] #[]) [iS x] W=some (iS (mG x),W):=by refine aQ rfl ?_ Mo;unfold JO;obtain⟨W1,W2,k1,k2,aM,n2,g1,g2⟩:=Et x W;have st:=MF (x:=mG x) g2;simp only[SX,k1,k2,aI,Gv g1,PZ g1,apc,show iS ⟨0,0,0,x.se,x.ep⟩=iS (mG x)from rfl,st,rT,iL,bR (x:=mG x) (AW.aW _ _ _),bM,af];exact⟨aj,aM.put (by omega) _⟩
def alf:((#[251]:Array ag)[0]?).bind Tryz.prog.underlying=some (.slice 35):=by kernel_rfl
def NH(a b:Int)(W:AW):cX Tryz.prog 251 2 [(0,.ae a),(1,.ae b)] W=some (.slice (some ⟨W.next,0,none⟩) 2 2,W.add (.cells [.ae a,.ae b])):=aT (by kernel_rfl) rfl
def adD{W:AW}{v:ad}{a b:Int}(h:dR W v [a,b]):aY (.func (.func 186) #[] #[]) [v] W=some (.ae (if a=0 then b else a),W):=by
 refine aQ rfl ?_ CX;unfold ym;have dS:∀V,Le W V->aZ Tryz.prog .len #[251] 3 #[false] [v] V=some (.ae 2,V):=λV hV=>by have:=(h.mono hV).len alf;exact this V 3 #[false]
 obtain⟨p0,i0,k0⟩:=dR.get h (i:=0) (by simp);obtain⟨p1,i1,k1⟩:=dR.get h (i:=1) (by simp);simp only[SX,dS W (Le.refl _)];refine a8 2 (by omega) (λi R V=>V=W/\R 3=.ae 0/\R 6=v/\R 7=.ae 2/\R 8=.ae (i:Int)/\(1<=i->a=0)/\(2<=i->b=0))
  (λr=>r.2.2=W/\((r.1=.exit 0/\r.2.1 3=.ae 0/\a=0/\b=0)\/(r.1=.ret/\r.2.1 2=.ae (if a=0 then b else a)))) ⟨rfl,rfl,rfl,rfl,rfl,by omega,by omega⟩ ?_ ?_ ?_
 ·rintro i R V hi ⟨rfl,r3,r6,r7,r8,ha,hb⟩;unfold nk;have t1:((i:Int)<2):=by omega
  have t2:=λW'=>bc W' i 1
  have e3:((i+1:Nat):Int)=(i:Int)+1:=by omega
  rcases(by omega:i=0\/i=1)with rfl|rfl
  ·have e0:∀W' k,nY 1 v (.int k ((0:Nat):Int)) W'=some (p0,W'):=i0;have l0:bu p0 V=some (.ae a,V):=k0 V (Le.refl _);by_cases c:a=0
   ·have d:=aK c;simp only[SX,r3,r6,r7,r8,t1,e0,l0,d,t2,af];exact .inl ⟨aj,aj,r3,r6,r7,by rw[e3];rfl,λ_=>c,by omega⟩
   ·have d:=aJ c;simp only[SX,r3,r6,r7,r8,t1,e0,l0,d,af];exact .inr ⟨by simp,aj,.inr ⟨aj,by rw[aq c];rfl⟩⟩
  ·have e0:∀W' k,nY 1 v (.int k ((1:Nat):Int)) W'=some (p1,W'):=i1;have l0:bu p1 V=some (.ae b,V):=k1 V (Le.refl _);have ha:=ha (aR _);by_cases c:b=0
   ·have d:=aK c;simp only[SX,r3,r6,r7,r8,t1,e0,l0,d,t2,af];exact .inl ⟨aj,aj,r3,r6,r7,by rw[e3];rfl,λ_=>ha,λ_=>c⟩
   ·have d:=aJ c;simp only[SX,r3,r6,r7,r8,t1,e0,l0,d,af];exact .inr ⟨by simp,aj,.inr ⟨aj,by rw[an ha];rfl⟩⟩
 ·rintro R V ⟨rfl,r3,r6,r7,r8,ha,hb⟩;unfold nk;have t1:¬(((2:Nat):Int)<2):=by omega
  simp only[SX,r7,r8,t1,af];exact⟨by simp,aj,.inl ⟨aj,r3,ha (by omega),hb (by omega)⟩⟩
 ·rintro⟨q,R,V⟩ ⟨rfl,hq⟩;simp only at hq;rcases hq with⟨rfl,r3,ha,hb⟩|⟨rfl,r2⟩
  ·simp only[SX,r3,af];exact⟨by rw[an ha,hb],Le.refl _⟩
  ·simp only[SX,r2,af];exact⟨aj,Le.refl _⟩
end Go.Proofs.YtmaoneengdafhaaGreatDoor
namespace Go.Proofs.YtmaoneengdafhaaGreatDoor.Ho
open Go Go.Eng
def aeU:((#[150]:Array ag)[0]?).bind Tryz.prog.underlying=some (.slice 2):=by kernel_rfl
def ahH(a b:Int)(W:AW):cX Tryz.prog 150 2 [(0,.ae a),(1,.ae b)] W=some (.slice (some ⟨W.next,0,none⟩) 2 2,W.add (.cells [.ae a,.ae b])):=aT (by kernel_rfl) rfl
def ac1(a b:Int)(W:AW):aZ Tryz.prog .min #[2,2] 2 #[false,false] [.ae a,.ae b] W=some (.ae (min a b),W):=by
 have e:aZ Tryz.prog .min #[2,2] 2 #[false,false] [.ae a,.ae b] W=(pA Tryz.prog ([Value.int .i64 a,.ae b].all bN) (builtin .min #[2,2] 2 #[false,false] #[.ae a,.ae b])).map λv=>(v,W):=by unfold aZ;rfl
 rw[e];have e2:builtin .min #[2,2] 2 #[false,false] #[.ae a,.ae b]=(do pure (.value (<-Builtin.min_ #[2,2] 2 #[.ae a,.ae b]))):=rfl;rw[e2];refine M6 ?_ rfl _ rfl;unfold Builtin.min_;simp only[List.foldlM_cons,List.foldlM_nil,gl,Builtin.min2,jv,bM];congr 2;split<;>omega
def agP{W:AW}{v:ad}{a b:Int}(h:dR W v [a,b]):aY (.func (.func 212) #[] #[]) [v] W=some (.ae (min a b),W):=by
 refine aQ rfl ?_ wn;unfold qy;obtain⟨p0,i1,i2⟩:=h.get (i:=0) (by simp);have i1':∀W' k,nY 1 v (.int k 0) W'=some (p0,W'):=i1;have i2':∀W',Le W W'->bu p0 W'=some (.ae a,W'):=i2;obtain⟨p1,j1,j2⟩:=h.get (i:=1) (by simp);have j1':∀W' k,nY 1 v (.int k 1) W'=some (p1,W'):=j1;have j2':∀W',Le W W'->bu p1 W'=some (.ae b,W'):=j2;have t0:¬((([a,b]:List Int).length:Int)<1):=by simp
 have tl:(([a,b]:List Int).length:Int)=2:=by simp
 simp only[SX,h.len aeU,t0,i1',i2' _ (.refl _)];refine a8 1 (by omega) (λk R W'=>W'=W/\R 0=v/\R 4=.ae (1+(k:Int))/\R 3=.ae (if k=0 then a else min a b))
  (λr=>r.1=.exit 0/\r.2.2=W/\r.2.1 3=.ae (min a b)) ⟨rfl,rfl,rfl,rfl⟩ ?_ ?_ ?_
 ·rintro k R W' hk ⟨rfl,r0,r4,r3⟩;obtain rfl:k=0:=by omega
  unfold i8;have r4':R 4=.ae 1:=r4;have r3':R 3=.ae a:=r3;have t1:((1:Int)<2):=by omega
  have t2:=λW'=>bc W' 1 1
  simp only[SX,r0,r4',r3',h.len aeU,tl,t1,j1',j2' _ (.refl _),ac1,t2,af];exact .inl ⟨aj,aj,r0,rfl,rfl⟩
 ·rintro R W' ⟨rfl,r0,r4,r3⟩;unfold i8;have t1:¬(1+((1:Nat):Int)<2):=by omega
  simp only[SX,r0,r4,h.len aeU,tl,t1,af];exact⟨by simp,aj,aj,r3⟩
 ·rintro⟨x,R,W'⟩ ⟨hx,rfl,r3⟩;simp only at hx r3;subst hx;simp only[SX,r3,af];exact⟨aj,.refl _⟩
def Rz{W:AW}{v:ad}{a b:Int}(h:dR W v [a,b]):aY (.func (.func 197) #[] #[]) [v] W=some (.bool (decide (min a b<0)),W):=by refine aQ rfl ?_ LY;unfold Kw;simp only[SX,agP h,af];exact⟨aj,.refl _⟩
def M8{a b:Int}(ha:0<=a)(hb:0<=b)(W:AW):aY (.func (.func 165) #[] #[]) [.ae a,.ae b] W=some (.tuple #[.bool (decide (a<=b)),.ae 0],W):=by refine aQ rfl ?_ H9;unfold Ek;have hI:dR (W.add (.cells [.ae a,.ae b])) (.slice (some ⟨W.next,0,none⟩) 2 2) [a,b]:=Tg [a,b] 2 W;have hm:=Rz hI;rw[aJ (show¬min a b<0 by omega)]at hm;simp only[SX,ahH,hm,af];exact⟨aj,(Le.refl _).add _⟩
end Go.Proofs.YtmaoneengdafhaaGreatDoor.Ho
namespace Go.Proofs.YtmaoneengdafhaaGreatDoor
open Go Go.Eng
def wq1:sW ak false=false:=aT rfl rfl
def wq2:sW ak true=false:=aT rfl rfl
def vF(x:fq)(now:Int):Int:=if IF x now≠0 then IF x now else if wz x 1≠0 then wz x 1 else if x.dl<=now then 0 else 9
def lL(x:fq)(now:Int):fq:=if vF x now=0 then mG x else x
def QS(x:fq)(now:Int)(W:AW):aY (.func (.func 169) #[] #[]) [iS x,.ae now] W=some (.tuple #[iS (lL x now),.ae (vF x now)],W):=by
 refine aQ rfl ?_ H5;unfold Ed;obtain⟨W1,W2,k1,k2,aM,n2,g1,g2⟩:=Et x W;have hI:dR (W2.add (.cells [.ae (IF x now),.ae (wz x 1)])) (.slice (some ⟨W2.next,0,none⟩) 2 2) [IF x now,wz x 1]:=by refine⟨_,2,rfl,.inr ⟨W2.next,0,[.ae (IF x now),.ae (wz x 1)],rfl,by rw[AW.av];omega,bC,λi hi=>?_⟩⟩;rcases(by simp at hi;omega:i=0\/i=1)with rfl|rfl<;>rfl
 have Ry:=adD hI;obtain⟨W3,hW3⟩:∃W3,W3=W2.add (.cells [.ae (IF x now),.ae (wz x 1)]):=⟨_,rfl⟩;rw[<-hW3]at Ry;have l3:Le W2 W3:=by rw[hW3];exact(Le.refl _).add _
 have h1:=(l3.get W.next (by omega)).trans g1;have h2:=(l3.get (W.next+1) (by omega)).trans g2;have n3:=l3.next;have mf:∀o,Le W (W3.put (W.next+1) o):=λo=>(aM.trans l3).put (by omega) o
 have st:=λy=>MF (x:=y) h2
 have ld:=λy=>bR (x:=y) (W:=W3.put (W.next+1) (.cells (dJ y))) (b:=W.next+1) (AW.aW _ _ _)
 by_cases c1:IF x now=0;case neg=>
  have e1:vF x now=IF x now:=by unfold vF;rw[an c1]
  have e2:lL x now=x:=by unfold lL;rw[aq (by rw[e1];exact c1)]
  have d1:=aJ c1;rw[aq c1]at Ry;simp only[SX,k1,k2,bR g1,sC,cV,qO,oz,fg,NH,<-hW3,Ry,d1,bR h1,st x,bB,iL,ld x,bM,af];exact⟨by rw[e1,e2],mf _⟩
 rw[an c1]at Ry;by_cases c2:wz x 1=0;case neg=>
  have e1:vF x now=wz x 1:=by unfold vF;rw[bL,an c2]
  have e2:lL x now=x:=by unfold lL;rw[aq (by rw[e1];exact c2)]
  have d1:=aJ c2;simp only[SX,k1,k2,bR g1,sC,cV,qO,oz,fg,NH,<-hW3,Ry,d1,bR h1,st x,bB,iL,ld x,bM,af];exact⟨by rw[e1,e2],mf _⟩
 have d1:=aK c2;obtain⟨hs,hn⟩:0<=x.dl/\0<=now:=by
  unfold IF at c1;unfold wz at c2;by_cases c:D8 x=0
  ·rw[an c]at c1 c2;by_cases c3:x.st=1
   ·have h4:=Rh c3;rw[c]at h4;refine⟨?_,?_⟩
    ·by_cases c4:x.dl<0
     ·rw[an c4]at h4;omega
     ·omega
    ·by_cases c4:now<0
     ·rw[an c4]at c1;omega
     ·omega
   ·rw[aq c3]at c2;omega
  ·rw[aq c]at c1;exact absurd c1 c
 have hp:=Ho.M8 hs hn W3;by_cases c3:x.dl<=now
 ·have d3:=aK c3;rw[d3]at hp;have e1:vF x now=0:=by unfold vF;rw[bL,bL,an c3]
  have e2:lL x now=mG x:=by unfold lL;rw[an e1]
  simp only[SX,k1,k2,bR g1,sC,cV,qO,oz,fg,NH,<-hW3,Ry,d1,aI,iZ h1,hp,bR h1,Bk,st (mG x),bB,iL,ld (mG x),bM,af];exact⟨by rw[e1,e2],mf _⟩
 ·have d3:=aJ c3;rw[d3]at hp;have e1:vF x now=9:=by unfold vF;rw[bL,bL,aq c3]
  have e2:lL x now=x:=by unfold lL;rw[aq (by rw[e1];decide)]
  simp only[SX,k1,k2,bR g1,sC,cV,qO,oz,fg,NH,<-hW3,Ry,d1,aI,iZ h1,hp,bR h1,st x,bB,iL,ld x,bM,af];exact⟨by rw[e1,e2],mf _⟩
def DU(a b:Int)(W:AW):aY (.func (.func 68) #[] #[]) [.ae a,.ae b] W=some (.tuple #[.bool (decide (0<=a)&&decide (0<=b)&&decide (a<=b)),.ae (if 0<=a/\0<=b then 0 else 7)],W):=by
 have hb:aY (.func (.func 104) #[] #[]) [.ae a,.ae b] W=some (.ae (if 0<=a/\0<=b then 0 else 7),W):=by
  refine aQ rfl ?_ Cj;unfold C1;by_cases c1:a<0
  ·have d1:=aK c1;simp only[SX,d1,af];exact⟨by rw[bL],Le.refl _⟩
  ·have d1:=aJ c1;by_cases c2:b<0
   ·have d2:=aK c2;simp only[SX,d1,d2,af];exact⟨by rw[bL],Le.refl _⟩
   ·have d2:=aJ c2;simp only[SX,d1,d2,af];exact⟨by rw[kH],Le.refl _⟩
 refine aQ rfl ?_ Ib;unfold EE;by_cases c:0<=a/\0<=b
 ·rw[an c]at hb|-;rw[aK c.1,aK c.2];have d:decide ((0:Int)=0)=true:=rfl;simp only[SX,hb,gK,af];exact⟨aj,Le.refl _⟩
 ·rw[aq c]at hb|-;have d:decide ((7:Int)=0)=false:=rfl;have hf:(decide (0<=a)&&decide (0<=b)&&decide (a<=b))=false:=by
   by_cases c1:0<=a
   ·rw[aJ (show¬0<=b fromλh=>c ⟨c1,h⟩),Ec];rfl
   ·rw[aJ c1];rfl
  simp only[SX,hb,d,hf,af];exact⟨aj,Le.refl _⟩
def OT(x:fq)(now:Int)(W:AW):aY (.func (.func 69) #[] #[]) [iS x,.ae now] W=some (.tuple #[iS (lL x now),.ae (vF x now)],W):=by
 refine aQ rfl ?_ HQ;unfold Eh;obtain⟨W1,W2,k1,k2,aM,n2,g1,g2⟩:=Et x W;have mf:∀o,Le W (W2.put (W.next+1) o):=λo=>aM.put (by omega) o
 have st:=λy=>MF (x:=y) g2
 have ld:=λy=>bR (x:=y) (W:=W2.put (W.next+1) (.cells (dJ y))) (b:=W.next+1) (AW.aW _ _ _)
 have d00:decide ((0:Int)=0)=true:=rfl;have d70:decide ((7:Int)=0)=false:=rfl;by_cases c0:D8 x=0;case neg=>
  have d0:=aJ c0;have t1:IF x now=D8 x:=by unfold IF;rw[aq c0]
  have e1:vF x now=D8 x:=by unfold vF;rw[t1,an c0]
  have e2:lL x now=x:=by unfold lL;rw[aq (by rw[e1];exact c0)]
  simp only[SX,k1,k2,bR g1,io,d0,st x,bB,iL,ld x,bM,af];exact⟨by rw[e1,e2],mf _⟩
 have d0:=aK c0;by_cases c1:now<0
 ·have d1:=aK c1;have t1:IF x now=7:=by unfold IF;rw[an c0,an c1]
  have e1:vF x now=7:=by unfold vF;rw[t1,an (by decide)]
  have e2:lL x now=x:=by unfold lL;rw[aq (by rw[e1];decide)]
  simp only[SX,k1,k2,bR g1,io,c0,d1,d70,st x,bB,iL,ld x,bM,af];exact⟨by rw[e1,e2],mf _⟩
 have d1:=aJ c1;have t1:IF x now=0:=by unfold IF;rw[an c0,aq c1]
 have nH:=i7 x 1 W2;by_cases c2:wz x 1=0;case neg=>
  have d2:=aJ c2;have e1:vF x now=wz x 1:=by unfold vF;rw[bL,an c2]
  have e2:lL x now=x:=by unfold lL;rw[aq (by rw[e1];exact c2)]
  simp only[SX,k1,k2,bR g1,io,c0,d1,nH,d2,st x,bB,iL,ld x,bM,af];exact⟨by rw[e1,e2],mf _⟩
 have d2:=aK c2;have hs:0<=x.dl:=by
  unfold wz at c2;rw[an c0]at c2;by_cases c3:x.st=1
  ·have h4:=Rh c3;rw[c0]at h4;by_cases c4:x.dl<0
   ·rw[an c4]at h4;omega
   ·omega
  ·rw[aq c3]at c2;omega
 have hp:=DU x.dl now W2;rw[aK hs,aK (show 0<=now by omega),kH,gK,gK]at hp;rw[c2]at nH;by_cases c3:x.dl<=now
 ·have d3:=aK c3;rw[d3]at hp;have e1:vF x now=0:=by unfold vF;rw[bL,bL,an c3]
  have e2:lL x now=mG x:=by unfold lL;rw[an e1]
  simp only[SX,k1,k2,bR g1,io,c0,d1,nH,aI,iZ g1,hp,xV,st (mG x),bB,iL,ld (mG x),bM,af];exact⟨by rw[e1,e2],mf _⟩
 ·have d3:=aJ c3;rw[d3]at hp;have e1:vF x now=9:=by unfold vF;rw[bL,bL,aq c3]
  have e2:lL x now=x:=by unfold lL;rw[aq (by rw[e1];decide)]
  simp only[SX,k1,k2,bR g1,io,c0,d1,nH,aI,iZ g1,hp,st x,bB,iL,ld x,bM,af];exact⟨by rw[e1,e2],mf _⟩
def lW(x:fq)(o:Int):Int:=if wz x 1≠0 then wz x 1 else if x.ow=o then 0 else 14
def IW(x:fq)(o:Int)(W:AW):aY (.func (.func 193) #[] #[]) [iS x,.int .u32 o] W=some (.ae (lW x o),W):=by
 refine aQ rfl ?_ Mz;unfold KP lW;have hg:(W.add (.cells (dJ x))).get W.next=some (.cells (dJ x)):=AW.aL _ _;have aM:Le W (W.add (.cells (dJ x))):=(Le.refl _).add _;simp only[SX,aI];generalize W.add (.cells (dJ x))=W1 at *;by_cases c:wz x 1=0
 ·have d:=aK c;rw[bL];by_cases c2:x.ow=o
  ·have d2:=aK c2;simp only[SX,bR hg,fg,d,vi hg,d2,an c2,af];exact⟨aj,aM⟩
  ·have d2:=aJ c2;simp only[SX,bR hg,fg,d,vi hg,d2,aq c2,af];exact⟨aj,aM⟩
 ·have d:=aJ c;rw[an c];simp only[SX,bR hg,fg,d,af];exact⟨aj,aM⟩
def sJ(x:fq)(o:Int)(W:AW):aY (.func (.func 110) #[] #[]) [iS x,.int .u32 o] W=some (.ae (lW x o),W):=by
 refine aQ rfl ?_ L3;unfold JZ lW;have hg:(W.add (.cells (dJ x))).get W.next=some (.cells (dJ x)):=AW.aL _ _;have aM:Le W (W.add (.cells (dJ x))):=(Le.refl _).add _;simp only[SX,aI];generalize W.add (.cells (dJ x))=W1 at *;by_cases c:wz x 1=0
 ·have d:=aK c;rw[bL];by_cases c2:x.ow=o
  ·have d2:=aK c2;simp only[SX,bR hg,i7,vi hg,d2,an c2,c,af];exact⟨aj,aM⟩
  ·have d2:=aJ c2;simp only[SX,bR hg,i7,d,vi hg,d2,aq c2,af];exact⟨aj,aM⟩
 ·have d:=aJ c;rw[an c];simp only[SX,bR hg,i7,d,af];exact⟨aj,aM⟩
def Mg(x:fq)(o:Int):fq:=if lW x o=0 then mG x else x
def Ob(x:fq)(o:Int)(W:AW):aY (.func (.func 155) #[] #[]) [iS x,.int .u32 o] W=some (.tuple #[iS (Mg x o),.ae (lW x o)],W):=by
 refine aQ rfl ?_ E9;unfold B7 Mg;obtain⟨W1,W2,k1,k2,aM,n2,g1,g2⟩:=Et x W;have mf:∀o,Le W (W2.put (W.next+1) o):=λo=>aM.put (by omega) o
 have st:=λy=>MF (x:=y) g2
 have ld:=λy=>bR (x:=y) (W:=W2.put (W.next+1) (.cells (dJ y))) (b:=W.next+1) (AW.aW _ _ _)
 by_cases c:lW x o=0
 ·have d:=aK c;simp only[SX,k1,k2,bR g1,IW,d,Bk,st (mG x),bB,iL,ld (mG x),bM,an c,af];exact⟨by rw[c],mf _⟩
 ·have d:=aJ c;simp only[SX,k1,k2,bR g1,IW,d,st x,bB,iL,ld x,bM,aq c,af];exact⟨aj,mf _⟩
def Mh(x:fq)(o:Int)(W:AW):aY (.func (.func 73) #[] #[]) [iS x,.int .u32 o] W=some (.tuple #[iS (Mg x o),.ae (lW x o)],W):=by
 refine aQ rfl ?_ F9;unfold B8 Mg;obtain⟨W1,W2,k1,k2,aM,n2,g1,g2⟩:=Et x W;have mf:∀o,Le W (W2.put (W.next+1) o):=λo=>aM.put (by omega) o
 have st:=λy=>MF (x:=y) g2
 have ld:=λy=>bR (x:=y) (W:=W2.put (W.next+1) (.cells (dJ y))) (b:=W.next+1) (AW.aW _ _ _)
 by_cases c:lW x o=0
 ·have d:=aK c;simp only[SX,k1,k2,bR g1,sJ,d,xV,st (mG x),bB,iL,ld (mG x),bM,an c,af];exact⟨by rw[c],mf _⟩
 ·have d:=aJ c;simp only[SX,k1,k2,bR g1,sJ,d,st x,bB,iL,ld x,bM,aq c,af];exact⟨aj,mf _⟩
def ah9(o a b:Int)(W:AW):fd Tryz.prog 87 [(0,.ae 2),(1,.int .u32 o),(3,.int .u64 a),(4,.int .u64 b)] W=some (iS ⟨2,o,0,a,b⟩,W):=aT (by kernel_rfl) rfl
def VM{t:ag}{c d:Bool}{a b:Int}(W:AW):bO Tryz.prog .add t c d (.int .u64 a) (.int .u64 b) W=some (.int .u64 (IntKind.u64.wrap (a+b)),W):=mQ (by simp only[H7,sr,Ap])
def Io(x:fq):Int:=if x.se=18446744073709551615 then 17 else 0
def Fv(x:fq)(o:Int):fq:=if Io x=0 then⟨2,o,0,IntKind.u64.wrap (x.se+1),x.ep⟩else x
def Si(x:fq)(o:Int)(W:AW):aY (.func (.func 196) #[] #[]) [iS x,.int .u32 o] W=some (.tuple #[iS (Fv x o),.ae (Io x)],W):=by
 refine aQ rfl ?_ JF;unfold HF Fv Io;obtain⟨W1,W2,k1,k2,aM,n2,g1,g2⟩:=Et x W;have mf:∀o,Le W (W2.put (W.next+1) o):=λo=>aM.put (by omega) o
 have st:=λy=>MF (x:=y) g2
 have ld:=λy=>bR (x:=y) (W:=W2.put (W.next+1) (.cells (dJ y))) (b:=W.next+1) (AW.aW _ _ _)
 by_cases c:x.se=18446744073709551615
 ·have d:=aK c;simp only[SX,k1,k2,aI,Gv g1,d,bR g1,st x,bB,iL,ld x,bM,an c,af];exact⟨rfl,mf _⟩
 ·have d:=aJ c;simp only[SX,k1,k2,aI,Gv g1,PZ g1,d,VM,ah9,st ⟨2,o,0,IntKind.u64.wrap (x.se+1),x.ep⟩,bB,iL,ld ⟨2,o,0,IntKind.u64.wrap (x.se+1),x.ep⟩,bM,aq c,af];exact⟨rfl,mf _⟩
def EX(x:fq)(o:Int):Int:=if lW x o≠0 then lW x o else Io x
def Ge(x:fq)(o:Int):fq:=if EX x o=0 then Fv x o else x
def adM{x:fq}{o:Int}(h:Io x≠0):Fv x o=x:=by unfold Fv;rw[aq h]
def aba(x:fq)(o:Int)(W:AW):aY (.func (.func 157) #[] #[]) [iS x,.int .u32 o] W=some (.tuple #[iS (Ge x o),.ae (EX x o)],W):=by
 refine aQ rfl ?_ Ou;unfold Nb Ge EX;obtain⟨W1,W2,k1,k2,aM,n2,g1,g2⟩:=Et x W;have mf:∀o,Le W (W2.put (W.next+1) o):=λo=>aM.put (by omega) o
 have st:=λy=>MF (x:=y) g2
 have ld:=λy=>bR (x:=y) (W:=W2.put (W.next+1) (.cells (dJ y))) (b:=W.next+1) (AW.aW _ _ _)
 by_cases c:lW x o=0
 ·have d:=aK c;have e:(if Io x=0 then Fv x o else x)=Fv x o:=by
   split
   ·rfl
   ·rename_i h;exact(adM h).symm
  simp only[SX,k1,k2,bR g1,IW,Si,st (Fv x o),bB,iL,ld (Fv x o),bM,c,aq (show¬((0:Int)≠0)by omega),e,af];exact⟨aj,mf _⟩
 ·have d:=aJ c;simp only[SX,k1,k2,bR g1,IW,d,st x,bB,iL,ld x,bM,an c,aq c,af];exact⟨aj,mf _⟩
def YY(x:fq)(o:Int)(W:AW):aY (.func (.func 74) #[] #[]) [iS x,.int .u32 o] W=some (.tuple #[iS (Ge x o),.ae (EX x o)],W):=by
 refine aQ rfl ?_ PW;unfold MW Ge EX;obtain⟨W1,W2,k1,k2,aM,n2,g1,g2⟩:=Et x W;have mf:∀o,Le W (W2.put (W.next+1) o):=λo=>aM.put (by omega) o
 have st:=λy=>MF (x:=y) g2
 have ld:=λy=>bR (x:=y) (W:=W2.put (W.next+1) (.cells (dJ y))) (b:=W.next+1) (AW.aW _ _ _)
 have d17:(!decide ((17:Int)=0))=true:=rfl;by_cases c:lW x o=0
 ·have d:=aK c;by_cases c2:x.se=18446744073709551615
  ·have d2:=aK c2;have e1:Io x=17:=by unfold Io;rw[an c2]
   simp only[SX,k1,k2,aI,bR g1,Gv g1,sJ,d2,d17,st x,bB,iL,ld x,bM,c,aq (show¬((0:Int)≠0)by omega),e1,aq (show¬((17:Int)=0)by omega),af];exact⟨aj,mf _⟩
  ·have d2:=aJ c2;have e1:Io x=0:=by unfold Io;rw[aq c2]
   have e2:Fv x o=⟨2,o,0,IntKind.u64.wrap (x.se+1),x.ep⟩:=by unfold Fv;rw[an e1]
   simp only[SX,k1,k2,aI,bR g1,Gv g1,PZ g1,sJ,d2,VM,ah9,st ⟨2,o,0,IntKind.u64.wrap (x.se+1),x.ep⟩,bB,iL,ld ⟨2,o,0,IntKind.u64.wrap (x.se+1),x.ep⟩,bM,c,aq (show¬((0:Int)≠0)by omega),e1,e2,bi,af];exact⟨aj,mf _⟩
 ·have d:=aJ c;simp only[SX,k1,k2,bR g1,sJ,d,st x,bB,iL,ld x,bM,an c,aq c,af];exact⟨aj,mf _⟩
def g27:Tryz.prog.eqGuardType Tryz.prog.depth 48=false:=by kernel_rfl
noncomputable def KB(r:Option Bool):List (Int×Int)->Option Bool
 |[]=>r
 |p::l=>match some (p.1==p.2)with
  |some true=>KB r l
  |some false=>some false
  |none=>none
def Gd(b:Bool):∀l:List (Int×Int),KB (some b) l=some ((l.all λp=>p.1==p.2)&&b)
 |[]=>rfl
 |p::l=>by
  unfold KB;cases h:p.1==p.2 with
  |true=>simp only[dz,h,gK];exact Gd b l
  |false=>simp only[dz,h,pj]
def q27(k ow un se sc n to t1 t2 t3 t4 nw k' ow' un' se' sc' n' to' VQ Vg Uk VO nw':Int):PB Tryz.prog 8 48 (.agg (iX k ow un se sc n to t1 t2 t3 t4 nw)) (.agg (iX k' ow' un' se' sc' n' to' VQ Vg Uk VO nw'))=
 KB (match yd [(t1,VQ),(t2,Vg),(t3,Uk),(t4,VO)]with|some true=>yd [(nw,nw')]|some false=>some false|none=>none) [(k,k'),(ow,ow'),(un,un'),(se,se'),(sc,sc'),(n,n'),(to,to')]:=by kernel_rfl
def ajQ(k ow un se sc n to t1 t2 t3 t4 nw k' ow' un' se' sc' n' to' VQ Vg Uk VO nw':Int):Bool:=
 ([(k,k'),(ow,ow'),(un,un'),(se,se'),(sc,sc'),(n,n'),(to,to')]:List (Int×Int)).all (λp=>p.1==p.2)&&(([(t1,VQ),(t2,Vg),(t3,Uk),(t4,VO)]:List (Int×Int)).all (λp=>p.1==p.2)&&([(nw,nw')]:List (Int×Int)).all (λp=>p.1==p.2))
def ai6(k ow un se sc n to t1 t2 t3 t4 nw k' ow' un' se' sc' n' to' VQ Vg Uk VO nw':Int)(c d:Bool)(W:AW):
 bO Tryz.prog .neq 48 c d (.agg #[.ae k,.int .u32 ow,.ae un,.ae se,.ae sc,.ae n,.int .u32 to,.int .u32 t1,.int .u32 t2,.int .u64 t3,.int .u64 t4,.ae nw]) (.agg #[.ae k',.int .u32 ow',.ae un',.ae se',.ae sc',.ae n',.int .u32 to',.int .u32 VQ,.int .u32 Vg,.int .u64 Uk,.int .u64 VO,.ae nw']) W=
  some (.bool (!ajQ k ow un se sc n to t1 t2 t3 t4 nw k' ow' un' se' sc' n' to' VQ Vg Uk VO nw'),W):=by
 refine sd g27 ((q27 ..).trans ?_);have h:(match yd [(t1,VQ),(t2,Vg),(t3,Uk),(t4,VO)]with|some true=>yd [(nw,nw')]|some false=>some false|none=>none)=some (([(t1,VQ),(t2,Vg),(t3,Uk),(t4,VO)]:List (Int×Int)).all (λp=>p.1==p.2)&&([(nw,nw')]:List (Int×Int)).all (λp=>p.1==p.2)):=by
  rw[sD];cases([(t1,VQ),(t2,Vg),(t3,Uk),(t4,VO)]:List (Int×Int)).all (λp=>p.1==p.2)with
  |true=>rw[gK];exact sD _
  |false=>rfl
 rw[h,Gd];rfl
def e1:∀b0 b1 b2 b3 b4 b5 b6 b7:Bool,Mb b0 b1 b2 b3 b4 b5 b6 b7 1=if(b1||(b2||(b3||(b4||(b5||(b6||b7))))))=true then 2 else 0:=by decide+kernel
def e7:∀b0 b1 b2 b3 b4 b5 b6 b7:Bool,Mb b0 b1 b2 b3 b4 b5 b6 b7 7=if(b3||(b4||(b5||(b6||b7))))=true then 2 else 0:=by decide+kernel
def e27:∀b0 b1 b2 b3 b4 b5 b6 b7:Bool,Mb b0 b1 b2 b3 b4 b5 b6 b7 27=if(b2||(b5||(b6||b7)))=true then 2 else 0:=by decide+kernel
def e99:∀b0 b1 b2 b3 b4 b5 b6 b7:Bool,Mb b0 b1 b2 b3 b4 b5 b6 b7 99=if(b2||(b3||(b4||b7)))=true then 2 else 0:=by decide+kernel
def e67:∀b0 b1 b2 b3 b4 b5 b6 b7:Bool,Mb b0 b1 b2 b3 b4 b5 b6 b7 67=if(b2||(b3||(b4||(b5||b7))))=true then 2 else 0:=by decide+kernel
def e64:∀b0 b1 b2 b3 b4 b5 b6 b7:Bool,Mb b0 b1 b2 b3 b4 b5 b6 b7 64=if(b0||(b1||(b2||(b3||(b4||(b5||b7))))))=true then 2 else 0:=by decide+kernel
def e11:∀b0 b1 b2 b3 b4 b5 b6 b7:Bool,Mb b0 b1 b2 b3 b4 b5 b6 b7 11=if(b2||(b4||(b5||(b6||b7))))=true then 2 else 0:=by decide+kernel
def atM:∀b0 b1 b2 b3 b4 b5 b6 b7:Bool,Mb b0 b1 b2 b3 b4 b5 b6 b7 128=if(b0||(b1||(b2||(b3||(b4||(b5||b6))))))=true then 2 else 0:=by decide+kernel
def ap2(W:AW):dg Tryz.prog 48 W=some (.pointer (some ⟨W.next,0,none⟩),W.add (.cells [.ae 0,.int .u32 0,.ae 0,.ae 0,.ae 0,.ae 0,.int .u32 0,.int .u32 0,.int .u32 0,.int .u64 0,.int .u64 0,.ae 0])):=aT (by kernel_rfl) rfl
def apu(k:Int)(W:AW):fd Tryz.prog 48 [(0,.ae k)] W=some (.agg #[.ae k,.int .u32 0,.ae 0,.ae 0,.ae 0,.ae 0,.int .u32 0,.int .u32 0,.int .u32 0,.int .u64 0,.int .u64 0,.ae 0],W):=aT (by kernel_rfl) rfl
def ao4{ρ:Type}{c:Bool}{a b:ρ}{G:ρ->Prop}(h1:c=false->G a)(h2:c=true->G b):Ok (qR (!c) (some a) (some b)) G:=by
 cases c with
 |false=>exact af.2 (h1 rfl)
 |true=>exact af.2 (h2 rfl)
def UF(k ow un se sc n to t1 t2 t3 t4 nw:Int)(W:AW):Ok (ux aY (.agg (iX k ow un se sc n to t1 t2 t3 t4 nw)) W) λr=>r.1=.ae (zI k ow un se sc n to t1 t2 t3 t4 nw)/\Le W r.2:=by
 by_cases hk:k<1\/12<k
 ·have h1:∀m:Int,1<=m/\m<=12->decide (k=m)=false:=λm h1=>bS
  unfold ux iX;simp(maxDischargeDepth:=9) only[SX,MX,HX,Nat.reduceAdd,Nat.reduceLeDiff,Nat.reduceLT,ap2,apu,dY,o8,iV,h1 1 (by decide),h1 2 (by decide),h1 3 (by decide),h1 4 (by decide),h1 5 (by decide),h1 6 (by decide),h1 7 (by decide),h1 8 (by decide),h1 9 (by decide),h1 10 (by decide),h1 11 (by decide),h1 12 (by decide)];unfold zI;rw[an hk]
 obtain rfl|rfl|rfl|rfl|rfl|rfl|rfl|rfl|rfl|rfl|rfl|rfl:k=1\/k=2\/k=3\/k=4\/k=5\/k=6\/k=7\/k=8\/k=9\/k=10\/k=11\/k=12:=by omega
 all_goals
  unfold ux iX zI Qs
  simp(maxDischargeDepth:=9) only[SX,MX,HX,Nat.reduceAdd,Nat.reduceLeDiff,Nat.reduceLT,ap2,apu,ai6,ip,Int.reduceEq,dY,o8,iV]
  refine ao4 (λhb=>?_) (λhb=>?_)
  all_goals
   refine⟨ii (Value.int .i64) ?_,by simp(maxDischargeDepth:=9) only[HX]⟩
   rw[bL]
   simp only[TU,Int.reduceToNat,List.getD_cons_succ,List.getD_cons_zero,e1,e7,e11,e27,e64,e67,e99,atM]
   unfold ajQ at hb
   simp only[dz,wU,oz,pd,bA,uw,uW,decide_eq_false_iff_not,Bool.and_eq_false_iff,beq_eq_false_iff_ne,uO,and_true,ne_eq,not_true_eq_false,false_or,or_false]at hb|-
   split<;>first|rfl|(exfalso;omega)
def Hd(k ow un se sc n to t1 t2 t3 t4 nw:Int)(W:AW):aY (.func (.func 32) #[] #[]) [.agg (iX k ow un se sc n to t1 t2 t3 t4 nw)] W=some (.ae (zI k ow un se sc n to t1 t2 t3 t4 nw),W):=
 aQ rfl (UF k ow un se sc n to t1 t2 t3 t4 nw W) Kc
structure kP where
 k:Int
 ow:Int
 un:Int
 se:Int
 sc:Int
 n:Int
 to:Int
 t1:Int
 t2:Int
 t3:Int
 t4:Int
 nw:Int
structure mE where
 er:Int
 se:Int
 n:Int
 dl:Int
 t1:Int
 t2:Int
 t3:Int
 t4:Int
 pl:Int
def ZT:kP:=⟨0,0,0,0,0,0,0,0,0,0,0,0⟩
def gz:mE:=⟨0,0,0,0,0,0,0,0,0⟩
abbrev yc(o:kP):ad:=.agg #[.ae o.k,.int .u32 o.ow,.ae o.un,.ae o.se,.ae o.sc,.ae o.n,.int .u32 o.to,.int .u32 o.t1,.int .u32 o.t2,.int .u64 o.t3,.int .u64 o.t4,.ae o.nw]
abbrev fX(r:mE):ad:=.agg #[.ae r.er,.ae r.se,.ae r.n,.ae r.dl,.int .u32 r.t1,.int .u32 r.t2,.int .u64 r.t3,.int .u64 r.t4,.ae r.pl]
structure gD where
 id:Int
 th:Int
 ret:Bool
 op:kP
 rp:mE
structure kU where
 id:Int
 th:Int
 fr:Int
 to:Int
 op:kP
 rp:mE
abbrev O8(e:gD):List ad:=[.ae e.id,.ae e.th,.bool e.ret,.ae e.op.k,.int .u32 e.op.ow,.ae e.op.un,.ae e.op.se,.ae e.op.sc,.ae e.op.n,.int .u32 e.op.to,.int .u32 e.op.t1,.int .u32 e.op.t2,.int .u64 e.op.t3,.int .u64 e.op.t4,.ae e.op.nw,
 .ae e.rp.er,.ae e.rp.se,.ae e.rp.n,.ae e.rp.dl,.int .u32 e.rp.t1,.int .u32 e.rp.t2,.int .u64 e.rp.t3,.int .u64 e.rp.t4,.ae e.rp.pl]
abbrev gf(e:kU):List ad:=[.ae e.id,.ae e.th,.ae e.fr,.ae e.to,.ae e.op.k,.int .u32 e.op.ow,.ae e.op.un,.ae e.op.se,.ae e.op.sc,.ae e.op.n,.int .u32 e.op.to,.int .u32 e.op.t1,.int .u32 e.op.t2,.int .u64 e.op.t3,.int .u64 e.op.t4,.ae e.op.nw,
 .ae e.rp.er,.ae e.rp.se,.ae e.rp.n,.ae e.rp.dl,.int .u32 e.rp.t1,.int .u32 e.rp.t2,.int .u64 e.rp.t3,.int .u64 e.rp.t4,.ae e.rp.pl]
abbrev evV(e:gD):ad:=.agg (O8 e).toArray
abbrev GQ(e:kU):ad:=.agg (gf e).toArray
def ev0:gD:=⟨0,0,false,ZT,gz⟩
def Z5:kU:=⟨0,0,0,0,ZT,gz⟩
def BI{b o:Nat}{cs:List ad}{x:ad}{W:AW}(h:W.get b=some (.cells cs))(hv:cs[o]? =some x):bu (.pointer (some ⟨b,o,none⟩)) W=some (x,W):=aP (ao h) hv
def alj{W:AW}{b:Nat}{cs:List ad}(h:W.get b=some (.cells cs)):aU W b=some cs:=by unfold aU;rw[h]
def aaz{cs vs:List ad}(h:cs.length=vs.length):ip cs 0 vs=vs:=by unfold ip;rw[tj,jG,aI,<-h,Eu,fp]
def gU{n b:Nat}{cs:List ad}{vs:Array ad}{W:AW}(h:W.get b=some (.cells cs))(h1:cs.length=n)(h2:vs.size=n)(h3:vs.toList.all Eng.one=true):fm n (.pointer (some ⟨b,0,none⟩)) (.agg vs) W=some (ak,W.put b (.cells vs.toList)):=by have hl:=Array.length_toList (xs:=vs);rw[DP,alj h,bM,an ⟨h2,by omega,h3⟩,aaz (by omega)]
def avE{t:ag}{zs vs:List ad}{n:Nat}(ha:∀W:AW,dg Tryz.prog t W=some (.pointer (some ⟨W.next,0,none⟩),W.add (.cells zs)))(h1:zs.length=n)(h2:vs.length=n)(h3:vs.all Eng.one=true)(W:AW):
 ∃V V2,dg Tryz.prog t W=some (.pointer (some ⟨W.next,0,none⟩),V)/\fm n (.pointer (some ⟨W.next,0,none⟩)) (.agg vs.toArray) V=some (ak,V2)/\Le W V2/\V2.next=W.next+1/\V2.get W.next=some (.cells vs):=by
 refine⟨_,_,ha W,gU (AW.aL _ _) h1 (by simpa using h2) (by simpa using h3),((Le.refl _).add _).put (aR _) _,by rw[AW.bH,AW.av],?_⟩;rw[AW.aW]
def aom(W:AW):dg Tryz.prog 52 W=some (.pointer (some ⟨W.next,0,none⟩),W.add (.cells (O8 ev0))):=aT (by kernel_rfl) rfl
def KA(W:AW):dg Tryz.prog 77 W=some (.pointer (some ⟨W.next,0,none⟩),W.add (.cells (gf Z5))):=aT (by kernel_rfl) rfl
def WW(W:AW):fd Tryz.prog 48 [] W=some (yc ZT,W):=aT (by kernel_rfl) rfl
def Nf(W:AW):fd Tryz.prog 50 [] W=some (fX gz,W):=aT (by kernel_rfl) rfl
def aa1(e:gD)(W:AW):∃V V2,dg Tryz.prog 52 W=some (.pointer (some ⟨W.next,0,none⟩),V)/\fm 24 (.pointer (some ⟨W.next,0,none⟩)) (evV e) V=some (ak,V2)/\Le W V2/\V2.next=W.next+1/\V2.get W.next=some (.cells (O8 e)):=
 avE (n:=24) (vs:=O8 e) aom rfl rfl rfl W
section
variable {W:AW} {b:Nat} {e:gD} {h:kU}
def pF(x:W.get b=some (.cells (O8 e))):dF 12 (.pointer (some ⟨b,3,none⟩)) W=some (yc e.op,W):=bz (ao x) rfl
def zQ(x:W.get b=some (.cells (O8 e))):dF 9 (.pointer (some ⟨b,15,none⟩)) W=some (fX e.rp,W):=bz (ao x) rfl
def rq(x:W.get b=some (.cells (O8 e))):bu (.pointer (some ⟨b,0,none⟩)) W=some (.ae e.id,W):=BI x rfl
def CF(x:W.get b=some (.cells (O8 e))):bu (.pointer (some ⟨b,1,none⟩)) W=some (.ae e.th,W):=BI x rfl
def Bj(x:W.get b=some (.cells (O8 e))):bu (.pointer (some ⟨b,2,none⟩)) W=some (.bool e.ret,W):=BI x rfl
def I5(x:W.get b=some (.cells (gf h))):dF 25 (.pointer (some ⟨b,0,none⟩)) W=some (GQ h,W):=bz (ao x) rfl
def aag(x:W.get b=some (.cells (gf h))):bu (.pointer (some ⟨b,2,none⟩)) W=some (.ae h.fr,W):=BI x rfl
def C2(x:W.get b=some (.cells (gf h))):bu (.pointer (some ⟨b,3,none⟩)) W=some (.ae h.to,W):=BI x rfl
def abN(x:W.get b=some (.cells (gf h))):bu (.pointer (some ⟨b,0,none⟩)) W=some (.ae h.id,W):=BI x rfl
end
def xf{α:Type}(z:Nat)(f:α->List ad)(cs:List ad)(p:Nat)(e:α):Prop:=(cs.drop p).take z=f e
abbrev QF(W:AW)(v:ad)(l:List gD):Prop:=Row W 24 (xf 24 O8) v l
abbrev G9(W:AW)(v:ad)(l:List kU):Prop:=Row W 25 (xf 25 gf) v l
def ga{α:Type}{z:Nat}{f:α->List ad}{cs:List ad}{p:Nat}{e:α}(h:xf z f cs p e){j:Nat}(hj:j<z):cs[p+j]? =(f e)[j]? :=by unfold xf at h;rw[<-h,lY,an hj,qZ]
def A2{α:Type}{z:Nat}{f:α->List ad}(hf:∀a,(f a).length=z)(a:α)(pre post:List ad):xf z f (pre++(f a++post)) pre.length a:=by unfold xf;rw[xW,<-hf a,xj]
def ahg(e:gD):(O8 e).length=24:=rfl
def kB(e:kU):(gf e).length=25:=rfl
def Pu(e:kU):(gf e).all Eng.one=true:=rfl
def sY:((#[25]:Array ag)[0]?).bind Tryz.prog.underlying=some (.slice 52):=by kernel_rfl
def MU:((#[78]:Array ag)[0]?).bind Tryz.prog.underlying=some (.slice 77):=by kernel_rfl
def NJ:((#[28]:Array ag)[0]?).bind Tryz.prog.underlying=some (.slice 3):=by kernel_rfl
def QF.get{W:AW}{v:ad}{l:List gD}(h:QF W v l){i:Nat}(hi:i<l.length):
 ∃b o,(∀W' k,nY 24 v (.int k (i:Int)) W'=some (.pointer (some ⟨b,o,none⟩),W'))/\b<W.next/\∀W',W'.get b=W.get b->dF 24 (.pointer (some ⟨b,o,none⟩)) W'=some (evV l[i],W')/\bu (.pointer (some ⟨b,o,none⟩)) W'=some (.ae l[i].id,W')/\bu (.pointer (some ⟨b,o+1,none⟩)) W'=some (.ae l[i].th,W')/\bu (.pointer (some ⟨b,o+2,none⟩)) W'=some (.bool l[i].ret,W')/\dF 9 (.pointer (some ⟨b,o+15,none⟩)) W'=some (fX l[i].rp,W'):=by
 obtain⟨b,o,cs,h1,h2,h3,h4⟩:=h.elem hi;refine⟨b,o,h1,h2,λW' hg=>?_⟩;have hc:aH W' b=some cs:=by
  have:aH W' b=aH W b:=by unfold aH;rw[hg]
  rw[this];exact h3
 have e0:(cs.drop o).take 24=O8 l[i]:=h4;refine⟨?_,aP hc ((ga h4 (j:=0) (by omega)).trans rfl),aP hc ((ga h4 (j:=1) (by omega)).trans rfl),aP hc ((ga h4 (j:=2) (by omega)).trans rfl),?_⟩
 ·have:=bz (n:=24) (o:=o) hc (by rw[e0];rfl);rw[e0]at this;exact this
 ·have e9:(cs.drop (o+15)).take 9=(O8 l[i]).drop 15:=by rw[<-e0,List.drop_take,xF]
  have:=bz (n:=9) (o:=o+15) hc (by rw[e9];rfl);rw[e9]at this;exact this
def G9.get{W:AW}{v:ad}{l:List kU}(h:G9 W v l){i:Nat}(hi:i<l.length):
 ∃b o,(∀W' k,nY 25 v (.int k (i:Int)) W'=some (.pointer (some ⟨b,o,none⟩),W'))/\b<W.next/\∀W',W'.get b=W.get b->dF 25 (.pointer (some ⟨b,o,none⟩)) W'=some (GQ l[i],W')/\bu (.pointer (some ⟨b,o,none⟩)) W'=some (.ae l[i].id,W')/\bu (.pointer (some ⟨b,o+1,none⟩)) W'=some (.ae l[i].th,W')/\bu (.pointer (some ⟨b,o+2,none⟩)) W'=some (.ae l[i].fr,W')/\bu (.pointer (some ⟨b,o+3,none⟩)) W'=some (.ae l[i].to,W'):=by
 obtain⟨b,o,cs,h1,h2,h3,h4⟩:=h.elem hi;refine⟨b,o,h1,h2,λW' hg=>?_⟩;have hc:aH W' b=some cs:=by
  have:aH W' b=aH W b:=by unfold aH;rw[hg]
  rw[this];exact h3
 have e0:(cs.drop o).take 25=gf l[i]:=h4;refine⟨?_,aP hc ((ga h4 (j:=0) (by omega)).trans rfl),aP hc ((ga h4 (j:=1) (by omega)).trans rfl),aP hc ((ga h4 (j:=2) (by omega)).trans rfl),aP hc ((ga h4 (j:=3) (by omega)).trans rfl)⟩;have:=bz (n:=25) (o:=o) hc (by rw[e0];rfl);rw[e0]at this;exact this
def auB:Tryz.prog.eqGuardType Tryz.prog.depth 50=false:=by kernel_rfl
def asR(a b c d t1 t2 t3 t4 p a' b' c' d' VQ Vg Uk VO p':Int):PB Tryz.prog 8 50 (.agg #[.ae a,.ae b,.ae c,.ae d,.int .u32 t1,.int .u32 t2,.int .u64 t3,.int .u64 t4,.ae p]) (.agg #[.ae a',.ae b',.ae c',.ae d',.int .u32 VQ,.int .u32 Vg,.int .u64 Uk,.int .u64 VO,.ae p'])=
 KB (match yd [(t1,VQ),(t2,Vg),(t3,Uk),(t4,VO)]with|some true=>yd [(p,p')]|some false=>some false|none=>none) [(a,a'),(b,b'),(c,c'),(d,d')]:=by kernel_rfl
def aoX{r:Option Bool}{rb:Bool}(hr:r=some rb)(l:List (Int×Int)):(match yd l with|some true=>r|some false=>some false|none=>none)=some ((l.all λp=>p.1==p.2)&&rb):=by
 rw[sD];cases l.all λp=>p.1==p.2 with
 |true=>rw[gK];exact hr
 |false=>rfl
open Classical in
def Nr(x y:mE)(c d:Bool)(W:AW):bO Tryz.prog .neq 50 c d (fX x) (fX y) W=some (.bool (!decide (x=y)),W):=by
 refine sd auB ((asR ..).trans ?_);rw[aoX (sD _),Gd];congr 1;obtain⟨a,b,c,d,t1,t2,t3,t4,p⟩:=x;obtain⟨a',b',c',d',VQ,Vg,Uk,VO,p'⟩:=y;rw[um];simp only[dz,wU,oz,bA,uw,iA,mE.mk.injEq];constructor
 ·rintro⟨⟨h1,h2,h3,h4⟩,⟨h5,h6,h7,h8⟩,h9⟩;exact⟨h1,h2,h3,h4,h5,h6,h7,h8,h9⟩
 ·rintro⟨h1,h2,h3,h4,h5,h6,h7,h8,h9⟩;exact⟨⟨h1,h2,h3,h4⟩,⟨h5,h6,h7,h8⟩,h9⟩
open Classical in
def ah6(x y:kP)(c d:Bool)(W:AW):bO Tryz.prog .neq 48 c d (yc x) (yc y) W=some (.bool (!decide (x=y)),W):=by
 refine(ai6 ..).trans ?_;congr 3;congr 1;obtain⟨k,ow,un,se,sc,n,to,t1,t2,t3,t4,nw⟩:=x;obtain⟨k',ow',un',se',sc',n',to',VQ,Vg,Uk,VO,nw'⟩:=y;unfold ajQ;rw[um];simp only[dz,wU,oz,bA,uw,iA,kP.mk.injEq];constructor
 ·rintro⟨⟨h1,h2,h3,h4,h5,h6,h7⟩,⟨h8,h9,Jv,Um⟩,h12⟩;exact⟨h1,h2,h3,h4,h5,h6,h7,h8,h9,Jv,Um,h12⟩
 ·rintro⟨h1,h2,h3,h4,h5,h6,h7,h8,h9,Jv,Um,h12⟩;exact⟨⟨h1,h2,h3,h4,h5,h6,h7⟩,⟨h8,h9,Jv,Um⟩,h12⟩
def zZ(o:kP):Int:=zI o.k o.ow o.un o.se o.sc o.n o.to o.t1 o.t2 o.t3 o.t4 o.nw
def Nj(o:kP){W:AW}(h:GW W):aY (.func (.func 51) #[] #[]) [yc o] W=some (.ae (zZ o),W):=D1 _ _ _ _ _ _ _ _ _ _ _ _ h
def GI(o:kP)(W:AW):aY (.func (.func 32) #[] #[]) [yc o] W=some (.ae (zZ o),W):=Hd _ _ _ _ _ _ _ _ _ _ _ _ W
end Go.Proofs.YtmaoneengdafhaaGreatDoor
