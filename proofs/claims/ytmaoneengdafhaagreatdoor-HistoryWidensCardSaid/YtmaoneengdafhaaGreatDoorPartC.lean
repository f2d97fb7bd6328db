/- A part: contracts and laws. -/
import Derived.Test.YtmaoneengdafhaaGreatDoorPartB
import Derived.Test.YtmaoneengdafhaaGreatDoorChecked
set_option linter.unusedVariables false
set_option linter.unusedSimpArgs false
set_option linter.unusedSectionVars false
set_option linter.defProp false
noncomputable section
open Go renaming TypeId->ae,Value->ad,undef->ak
set_option maxRecDepth 100000
namespace Go.Proofs.YtmaoneengdafhaaGreatDoor
open Go Go.Eng
noncomputable instance opens:ah:=acX (λid ops=>T.get (path (H9 id ops)) tab) [0,1,3,4]
noncomputable def Bz(i:Nat):Code:=IY Tryz.prog i
def PK(c:UInt8):Bool:=decide (97<=c.toNat)&&decide (c.toNat<=122)||decide (48<=c.toNat)&&decide (c.toNat<=57)||c.toNat==45
def B2(l:List UInt8):Bool:=match l with
 |[]=>false
 |c::_=>decide (97<=c.toNat)&&decide (c.toNat<=122)&&decide (l.length<=16)&&l.all PK
def Bh:List ad->Option ad
 |[]=>some (.bool true)
 |_=>none
def MN:List Nat:=[2,7,51,164,217,254]
noncomputable def specs:Eng.Callee:=Ld [(7,Ae 7 jz Bh),(51,Xv 51),(164,LJ 164)]
noncomputable def bf:Eng.Callee:=om Tryz.prog MN specs
abbrev GW(W:AW):Prop:=Ew jz W
def GW.cells{W:AW}(h:GW W):aC W 0=some tF:=Fm (h (0,tF) (by simp[jz])).1
def GW.pos{W:AW}(h:GW W):0<W.next:=(h (0,tF) (by simp[jz])).2
def OA{W:AW}(h:GW W):bf (.func (.func 7) #[] #[]) [] W=some (.bool true,W):=by have h0:Ae 7 jz Bh (.func (.func 7) #[] #[]) [] W=some (.bool true,W):=UF h rfl rfl rfl;have h1:specs (.func (.func 7) #[] #[]) [] W=some (.bool true,W):=h0;have h2:=Jh (P:=Tryz.prog) (bad:=MN) (spec:=specs) (i:=7) (by decide) h1;rw[HE (.refl _)]at h2;exact h2
def Q9{W:AW}{r:ad×AW}{args:List ad}(h:tj W args r):bf (.func (.func 164) #[] #[]) args W=some r:=by
 have h1:specs (.func (.func 164) #[] #[]) args W=some r:=by show LJ 164 (.func (.func 164) #[] #[]) args W=_;exact YV h
 have h2:=Jh (P:=Tryz.prog) (bad:=MN) (spec:=specs) (i:=164) (by decide) h1;obtain⟨b,zs,i,hi,rfl,hg,rfl⟩:=h;rw[pC rfl]at h2;exact h2
def H3(k ow un se sc n to t1 t2 t3 t4 nw:Int):Int:=if k<1\/12<k then 2 else PP ow un se sc n to t1 t2 t3 t4 nw (PW.getD k.toNat 0)
def zU(k ow un se sc n to t1 t2 t3 t4 nw:Int){W:AW}(h:GW W):bf (.func (.func 51) #[] #[]) [.agg (kS k ow un se sc n to t1 t2 t3 t4 nw)] W=some (.af (H3 k ow un se sc n to t1 t2 t3 t4 nw),W):=by
 have h1:specs (.func (.func 51) #[] #[]) [.agg (kS k ow un se sc n to t1 t2 t3 t4 nw)] W=some (.af (H3 k ow un se sc n to t1 t2 t3 t4 nw),W):=by
  show Xv 51 (.func (.func 51) #[] #[]) [.agg (kS k ow un se sc n to t1 t2 t3 t4 nw)] W=_;unfold Xv kS;simp only[qi,Array.isEmpty_empty,ki,Jn];unfold H3;by_cases hk:k<1\/12<k
  ·have hd:(decide (k<1)||decide (12<k))=true:=by simpa using hk
   rw[aq hk];simp only[hd]
  ·have hd:(decide (k<1)||decide (12<k))=false:=by simp;omega
   rw[ap hk];simp only[hd,(h (0,tF) (by simp[jz])).1];have RN:k.toNat<13:=by omega
   have:tF[k.toNat]? =some (.af (PW.getD k.toNat 0)):=by unfold tF;rw[jH];have h13:PW.length=13:=rfl;rw[bS (by omega),lh,bS (by omega)];rfl
   simp only[this]
 have h2:=Jh (P:=Tryz.prog) (bad:=MN) (spec:=specs) (i:=51) (by decide) h1;rw[acr (.refl _)]at h2;exact h2
def bJ(W:AW)(a b:Int)(h1: -9223372036854775808<=a+b:=by omega)(h2:a+b<9223372036854775808:=by omega):bs Tryz.prog .add 3 false true (.af a) (.af b) W=some (.af (a+b),W):=oU h1 h2
def jT(W:AW)(a b:Int)(h1: -9223372036854775808<=a+b:=by omega)(h2:a+b<9223372036854775808:=by omega):bs Tryz.prog .add 3 false false (.af a) (.af b) W=some (.af (a+b),W):=oU h1 h2
def uH(W:AW)(a b:Int)(h1: -9223372036854775808<=a-b:=by omega)(h2:a-b<9223372036854775808:=by omega):bs Tryz.prog .sub 3 false true (.af a) (.af b) W=some (.af (a-b),W):=vl h1 h2
def Fb(W:AW)(a b:Int)(h1: -9223372036854775808<=a-b:=by omega)(h2:a-b<9223372036854775808:=by omega):bs Tryz.prog .sub 3 false false (.af a) (.af b) W=some (.af (a-b),W):=vl h1 h2
section
abbrev OG(i:Nat)(cs:Array ad)(a:List ad)(W:AW)(r:ad×AW):Prop:=bf (.func (.func i) #[] cs) a W=some (gc W r)
def pr3{α β γ:Type}{a a':α}{b b':β}{c c':γ}(h:(a,b,c)=(a',b',c')):a=a'/\b=b'/\c=c':=by injection h with h1 h2;injection h2 with h2 h3;exact⟨h1,h2,h3⟩
def oM(nt:Nat){i:Nat}{cs:Array ad}{a:List ad}{t:Option (ad×AW)}{W:AW}{r:ad×AW}(h:t=some r)
 (hk:(Jw i MN,acu Tryz.prog i nt (a.length+cs.toList.length),Wy Tryz.prog bf nt (IY Tryz.prog i) (Vq Tryz.prog i) (a++cs.toList) W)=(false,true,t)):OG i cs a W r:=by
 obtain⟨h1,h2,h3⟩:=pr3 hk;exact afu (fs:=#[]) (n:=a.length+cs.toList.length) h1 h2 (aN _) (h3.trans h)
abbrev dF:=Eng.Callee->ah.Fr->AW->Option LT
abbrev ak7:=Eng.Callee->ah.Fr->ad->ad->ad->AW->Option LT
abbrev anV:=Eng.Callee->AW->Option (ad×AW)
abbrev iu:=Eng.Callee->ad->AW->Option (ad×AW)
abbrev fg:=Eng.Callee->ad->ad->AW->Option (ad×AW)
abbrev yc:=Eng.Callee->ad->ad->ad->AW->Option (ad×AW)
abbrev Yf:=Eng.Callee->ad->ad->ad->ad->AW->Option (ad×AW)
abbrev Zs:=Eng.Callee->ad->ad->ad->ad->ad->AW->Option (ad×AW)
abbrev afS:=Eng.Callee->ad->ad->ad->ad->ad->ad->AW->Option (ad×AW)
variable {α ρ:Type}
def gB(m:AW->Option (α×AW))(k:α->AW->Option ρ)(W:AW):Option ρ:=dN (m W) λr=>k r.1 r.2
def gT(g:ad)(m:AW->Option (ad×AW))(k:ad->AW->Option ρ)(W:AW):Option ρ:=dN (nj (qk g true) (m W) (some (ak,W))) λr=>k r.1 r.2
def gF(g:ad)(m:AW->Option (ad×AW))(k:ad->AW->Option ρ)(W:AW):Option ρ:=dN (nj (qk g false) (m W) (some (ak,W))) λr=>k r.1 r.2
def gL(f:ah.Fr->AW->Option LT)(R:ah.Fr)(k:X->ah.Fr->AW->Option ρ)(W:AW):Option ρ:=dN (ge f R W) λr=>k r.1 r.2.1 r.2.2
def gI(v:ad)(t e:AW->Option ρ)(W:AW):Option ρ:=Jy v (t W) (e W)
def gX(i:Nat)(x:X)(t e:AW->Option ρ)(W:AW):Option ρ:=xv i x (t W) (e W)
def gM(x:X)(t e:AW->Option ρ)(W:AW):Option ρ:=tP x (t W) (e W)
def gR(x:X)(t:AW->Option ρ)(W:AW):Option ρ:=DN x (t W)
def gN(x:X)(t:AW->Option ρ)(W:AW):Option ρ:=ael x (t W)
def gA(g:AW->Bool)(t:AW->Option ρ)(W:AW):Option ρ:=nj (g W) (t W) none
def yZ(W:AW):Option ρ:=none
def yN(F:ah.Fr)(W:AW):Option LT:=some (X.normal,F,W)
def yR(F:ah.Fr)(W:AW):Option LT:=some (X.ret,F,W)
def yE(i:Nat)(F:ah.Fr)(W:AW):Option LT:=some (X.exit i,F,W)
def yV(x:X)(F:ah.Fr)(W:AW):Option LT:=some (x,F,W)
def yO(l:List (ad×Option ae))(W:AW):Option (ad×AW):=iS Tryz.prog l W
def aE(i:Nat)(x:ad)(k:ad->AW->Option ρ)(W:AW):Option ρ:=dN (mL i x W) λr=>k r.1 r.2
def aF(x:ad)(k:ad->AW->Option ρ)(W:AW):Option ρ:=dN (bG x W) λr=>k r.1 r.2
def bu(n:Nat)(x:ad)(k:ad->AW->Option ρ)(W:AW):Option ρ:=dN (fd n x W) λr=>k r.1 r.2
def bR(n:Nat)(x i:ad)(k:ad->AW->Option ρ)(W:AW):Option ρ:=dN (nR n x i W) λr=>k r.1 r.2
def cH(c:Eng.Callee)(i:Nat)(l:List ad)(k:ad->AW->Option ρ)(W:AW):Option ρ:=dN (c (rB i) l W) λr=>k r.1 r.2
def zc(c:Eng.Callee)(i:Nat)(l:List ad)(W:AW):Option (ad×AW):=c (rB i) l W
def I(n:Int):ad:=.af n
def q(R:ah.Fr)(n:Nat)(l:List ad):ah.Fr:=List.rec (motive:=λ_=>Nat->ah.Fr->ah.Fr) (λ_ R=>R) (λv _ ih n R=>ih (n+1) (fM R (some n) v)) l n R
@[congr] theorem aoF {α:Type} {m m':Option α} (k:α->Option ρ) (h:m=m'):dN m k=dN m' k:=by rw[h]
@[congr] theorem aor {v v':ad} (a b:Option ρ) (h:v=v'):Jy v a b=Jy v' a b:=by rw[h]
@[congr] theorem ao1 {v v':Bool} (a b:ρ) (h:v=v'):nj v a b=nj v' a b:=by rw[h]
@[congr] theorem asu {v v':X} (i:Nat) (a b:Option ρ) (h:v=v'):xv i v a b=xv i v' a b:=by rw[h]
@[congr] theorem ar5 {v v':X} (a b:Option ρ) (h:v=v'):tP v a b=tP v' a b:=by rw[h]
@[congr] theorem apQ {v v':X} (a:Option ρ) (h:v=v'):DN v a=DN v' a:=by rw[h]
@[congr] theorem ar6 {v v':X} (a:Option ρ) (h:v=v'):ael v a=ael v' a:=by rw[h]
def PE(t:ae)(W:AW):Option (ad×AW):=cl Tryz.prog t W
def C7(t:ae)(v:List (Nat×ad))(W:AW):Option (ad×AW):=dX Tryz.prog t v W
def yq(t:ae)(n:Nat)(v:List (Nat×ad))(W:AW):Option (ad×AW):=dA Tryz.prog t n v W
def TA(p:UnOp)(x:ad)(W:AW):Option (ad×AW):=oUn Tryz.prog p x W
def Ui(s d:ae)(x:ad)(W:AW):Option (ad×AW):=o8 Tryz.prog s d x W
def mS(t:ae)(x i:ad)(W:AW):Option (ad×AW):=px Tryz.prog t x i W
def wt(t:ae)(x:ad)(a b d:Option ad)(W:AW):Option (ad×AW):=ft Tryz.prog t x a b d W
def ri(t:ae)(x y:ad)(W:AW):Option (ad×AW):=eN Tryz.prog t x y W
def uA(t:ae)(m k:ad)(o:Bool)(W:AW):Option (ad×AW):=pT Tryz.prog t m k o W
def pW(t:ae)(m k v:ad)(W:AW):Option (ad×AW):=ii Tryz.prog t m k v W
def C4(t:ae)(r:Option ad)(W:AW):Option (ad×AW):=qu Tryz.prog t r W
def GX(t:ae)(x:ad)(W:AW):Option (ad×AW):=Kd Tryz.prog t x W
def JQ(ts:Array ae)(x y:ad)(W:AW):Option (ad×AW):=dB Tryz.prog W ts x y
def zN(W:AW):Option (ad×AW):=none
def Jj(x y:ad)(W:AW):Option (ad×AW):=bs Tryz.prog .lss 3 false false x y W
def zb1(x y:ad)(W:AW):Option (ad×AW):=bs Tryz.prog .lss 3 false true x y W
def Xn(x y:ad)(W:AW):Option (ad×AW):=bs Tryz.prog .gtr 3 false true x y W
def zb3(x y:ad)(W:AW):Option (ad×AW):=bs Tryz.prog .add 3 false true x y W
def ZA(x y:ad)(W:AW):Option (ad×AW):=bs Tryz.prog .gtr 3 false false x y W
def zb5(x y:ad)(W:AW):Option (ad×AW):=bs Tryz.prog .leq 3 false true x y W
def zb6(x y:ad)(W:AW):Option (ad×AW):=bs Tryz.prog .neq 35 false true x y W
def zb7(x y:ad)(W:AW):Option (ad×AW):=bs Tryz.prog .eql 3 false true x y W
def zb8(x y:ad)(W:AW):Option (ad×AW):=bs Tryz.prog .eql 35 false true x y W
def Jr(x y:ad)(W:AW):Option (ad×AW):=bs Tryz.prog .neq 3 false false x y W
def ahh(x y:ad)(W:AW):Option (ad×AW):=bs Tryz.prog .neq 48 false false x y W
def acA(x y:ad)(W:AW):Option (ad×AW):=bs Tryz.prog .sub 3 false true x y W
def adR(x y:ad)(W:AW):Option (ad×AW):=bs Tryz.prog .neq 50 false false x y W
def L9(x y:ad)(W:AW):Option (ad×AW):=bs Tryz.prog .geq 3 false true x y W
def af6(x y:ad)(W:AW):Option (ad×AW):=bs Tryz.prog .neq 9 false false x y W
def Tc(x y:ad)(W:AW):Option (ad×AW):=bs Tryz.prog .neq 2 false false x y W
def adT(x y:ad)(W:AW):Option (ad×AW):=bs Tryz.prog .add 3 false false x y W
def am9(x y:ad)(W:AW):Option (ad×AW):=bs Tryz.prog .geq 2 false false x y W
def ab7(x y:ad)(W:AW):Option (ad×AW):=bs Tryz.prog .leq 2 false false x y W
def afp(x y:ad)(W:AW):Option (ad×AW):=bs Tryz.prog .eql 9 false false x y W
def YC(x y:ad)(W:AW):Option (ad×AW):=bs Tryz.prog .lss 2 false false x y W
def ac6(x y:ad)(W:AW):Option (ad×AW):=bs Tryz.prog .gtr 2 false false x y W
def ZW(x y:ad)(W:AW):Option (ad×AW):=bs Tryz.prog .and 3 false true x y W
def Zq(x y:ad)(W:AW):Option (ad×AW):=bs Tryz.prog .neq 3 false true x y W
def amG(x y:ad)(W:AW):Option (ad×AW):=bs Tryz.prog .eql 3 false false x y W
def RW(x y:ad)(W:AW):Option (ad×AW):=bs Tryz.prog .geq 3 false false x y W
def am1(x y:ad)(W:AW):Option (ad×AW):=bs Tryz.prog .neq 5 false true x y W
def UE(x y:ad)(W:AW):Option (ad×AW):=bs Tryz.prog .eql 9 false true x y W
def acT(x y:ad)(W:AW):Option (ad×AW):=bs Tryz.prog .lss 5 false true x y W
def aiK(x y:ad)(W:AW):Option (ad×AW):=bs Tryz.prog .gtr 5 false true x y W
def ahq(x y:ad)(W:AW):Option (ad×AW):=bs Tryz.prog .geq 5 false true x y W
def ak9(x y:ad)(W:AW):Option (ad×AW):=bs Tryz.prog .leq 5 false true x y W
def agC(x y:ad)(W:AW):Option (ad×AW):=bs Tryz.prog .sub 3 false false x y W
def akY(x y:ad)(W:AW):Option (ad×AW):=bs Tryz.prog .eql 35 false false x y W
def ah5(x y:ad)(W:AW):Option (ad×AW):=bs Tryz.prog .rem 3 false false x y W
def amu(x y:ad)(W:AW):Option (ad×AW):=bs Tryz.prog .rem 3 false true x y W
def ake(x y:ad)(W:AW):Option (ad×AW):=bs Tryz.prog .add 3 true false x y W
def agm(x y:ad)(W:AW):Option (ad×AW):=bs Tryz.prog .neq 87 false false x y W
def XT(x y:ad)(W:AW):Option (ad×AW):=bs Tryz.prog .neq 43 false false x y W
def aiR(x y:ad)(W:AW):Option (ad×AW):=bs Tryz.prog .eql 31 false true x y W
def Vr(x y:ad)(W:AW):Option (ad×AW):=bs Tryz.prog .lss 2 false true x y W
def aby(x y:ad)(W:AW):Option (ad×AW):=bs Tryz.prog .neq 43 false true x y W
def agG(x y:ad)(W:AW):Option (ad×AW):=bs Tryz.prog .eql 43 false false x y W
def alW(x y:ad)(W:AW):Option (ad×AW):=bs Tryz.prog .sub 2 true false x y W
def anj(x y:ad)(W:AW):Option (ad×AW):=bs Tryz.prog .add 2 false false x y W
def abG(x y:ad)(W:AW):Option (ad×AW):=bs Tryz.prog .add 44 false true x y W
def XU(x y:ad)(W:AW):Option (ad×AW):=bs Tryz.prog .eql 44 false true x y W
def alL(x y:ad)(W:AW):Option (ad×AW):=bs Tryz.prog .neq 44 false false x y W
def afC(x y:ad)(W:AW):Option (ad×AW):=bs Tryz.prog .eql 88 false true x y W
def Yh(x y:ad)(W:AW):Option (ad×AW):=bs Tryz.prog .leq 3 false false x y W
def afQ(x y:ad)(W:AW):Option (ad×AW):=bs Tryz.prog .neq 46 false false x y W
def ahf(x y:ad)(W:AW):Option (ad×AW):=bs Tryz.prog .add 44 false false x y W
def agu(x y:ad)(W:AW):Option (ad×AW):=bs Tryz.prog .shr 44 false true x y W
def an8(x y:ad)(W:AW):Option (ad×AW):=bs Tryz.prog .eql 43 false true x y W
def akj(x y:ad)(W:AW):Option (ad×AW):=bs Tryz.prog .eql 2 false true x y W
def akr(x y:ad)(W:AW):Option (ad×AW):=bs Tryz.prog .geq 2 false true x y W
def acI(x y:ad)(W:AW):Option (ad×AW):=bs Tryz.prog .neq 2 false true x y W
def aif(x y:ad)(W:AW):Option (ad×AW):=bs Tryz.prog .neq 35 false false x y W
def acD(x y:ad)(W:AW):Option (ad×AW):=bs Tryz.prog .mul 3 true false x y W
def ady(x y:ad)(W:AW):Option (ad×AW):=bs Tryz.prog .mul 3 false true x y W
def Ro(x y:ad)(W:AW):Option (ad×AW):=bs Tryz.prog .shr 228 false true x y W
def PQ(x:ad)(W:AW):Option (ad×AW):=aR Tryz.prog .len #[22] 3 #[false] [x] W
def ZB(x:ad)(W:AW):Option (ad×AW):=aR Tryz.prog .len #[9] 3 #[false] [x] W
def zt2(x:ad)(W:AW):Option (ad×AW):=aR Tryz.prog .len #[28] 3 #[false] [x] W
def Z9(x:ad)(W:AW):Option (ad×AW):=aR Tryz.prog .len #[25] 3 #[false] [x] W
def zt4(x y:ad)(W:AW):Option (ad×AW):=aR Tryz.prog .delete #[112,3] 0 #[false,false] [x,y] W
def zt5(x:ad)(W:AW):Option (ad×AW):=aR Tryz.prog .len #[112] 3 #[false] [x] W
def zt6(x:ad)(W:AW):Option (ad×AW):=aR Tryz.prog .len #[78] 3 #[false] [x] W
def zt7(x:ad)(W:AW):Option (ad×AW):=aR Tryz.prog .len #[123] 3 #[false] [x] W
def zt8(x y:ad)(W:AW):Option (ad×AW):=aR Tryz.prog .max #[3,3] 3 #[false,false] [x,y] W
def zt9(x y:ad)(W:AW):Option (ad×AW):=aR Tryz.prog .min #[3,3] 3 #[false,false] [x,y] W
def abX(x:ad)(W:AW):Option (ad×AW):=aR Tryz.prog .len #[40] 3 #[false] [x] W
def amq(x:ad)(W:AW):Option (ad×AW):=aR Tryz.prog .len #[54] 3 #[false] [x] W
def am4(x y:ad)(W:AW):Option (ad×AW):=aR Tryz.prog .min #[3,3] 3 #[false,true] [x,y] W
def FN(x:ad)(W:AW):Option (ad×AW):=aR Tryz.prog .len #[31] 3 #[false] [x] W
def ahl(x:ad)(W:AW):Option (ad×AW):=aR Tryz.prog .len #[88] 3 #[false] [x] W
def HW(x:ad)(W:AW):Option (ad×AW):=aR Tryz.prog .len #[32] 3 #[false] [x] W
def afv(x:ad)(W:AW):Option (ad×AW):=aR Tryz.prog .len #[135] 3 #[false] [x] W
def ahQ(x:ad)(W:AW):Option (ad×AW):=aR Tryz.prog .len #[219] 3 #[false] [x] W
def aip(x y:ad)(W:AW):Option (ad×AW):=aR Tryz.prog .max #[3,3] 3 #[false,true] [x,y] W
def ag6(x:ad)(W:AW):Option (ad×AW):=aR Tryz.prog .len #[251] 3 #[false] [x] W
def Y8(x:ad)(W:AW):Option (ad×AW):=aR Tryz.prog .len #[150] 3 #[false] [x] W
def adS(x y:ad)(W:AW):Option (ad×AW):=aR Tryz.prog .min #[2,2] 2 #[false,false] [x,y] W
abbrev KZ(ρ:Type):=(ad->AW->Option ρ)->AW->Option ρ
def cg(x y:ad):KZ ρ:=gB (zb3 x y)
def aY(a b d:ad):KZ ρ:=gB (pj a b d)
def tD(x y:ad):KZ ρ:=gB (Xn x y)
def b8(x y:ad):KZ ρ:=gB (Jj x y)
def bw(x:ad):KZ ρ:=gB (nG x)
def aI(n:Nat)(x v:ad):KZ ρ:=gB (gv n x v)
def br(t:ae)(v:List (Nat×ad)):KZ ρ:=gB (C7 t v)
def fI(ts:Array ae)(x y:ad):KZ ρ:=gB (JQ ts x y)
def cd(t:ae)(n:Nat)(v:List (Nat×ad)):KZ ρ:=gB (yq t n v)
def aG(t:ae):KZ ρ:=gB (PE t)
def av(x:ad):KZ ρ:=gB (rh x)
def eg(x y:ad):KZ ρ:=gB (zb6 x y)
def aB(x:ad)(i:Nat):KZ ρ:=gB (oZ x i)
def OC(x y:ad):KZ ρ:=gB (zb8 x y)
def ji(x y:ad):KZ ρ:=gB (acA x y)
def jB(p:UnOp)(x:ad):KZ ρ:=gB (TA p x)
def tA(x y:ad):KZ ρ:=gB (zb1 x y)
def iX(x y:ad):KZ ρ:=gB (zb7 x y)
def nf(x:ad):KZ ρ:=gB (zt2 x)
def dL(x y:ad):KZ ρ:=gB (adT x y)
def eh(s d:ae)(x:ad):KZ ρ:=gB (Ui s d x)
def fO(x y:ad):KZ ρ:=gB (agC x y)
def qB(x:ad):KZ ρ:=gB (ahl x)
def PX:=au @gB.eq_1 (au @gT.eq_1 (au @gF.eq_1 (au @gL.eq_1 (au @gI.eq_1 (au @gX.eq_1 (au @gM.eq_1 (au @gR.eq_1 (au @gN.eq_1 (au @gA.eq_1 (au @yZ.eq_1 (au @yN.eq_1 (au @yR.eq_1 (au @yE.eq_1 (au @yV.eq_1 (au @yO.eq_1 (au @aE.eq_1 (au @aF.eq_1 (au @bu.eq_1 (au @bR.eq_1 (@cH.eq_1))))))))))))))))))))
def SX:=au Go.Eng.SX (au PX (au @zc.eq_1 (au @I.eq_1 (au @PE.eq_1 (au @C7.eq_1 (au @yq.eq_1 (au @TA.eq_1 (au @Ui.eq_1 (au @mS.eq_1 (au @wt.eq_1 (au @ri.eq_1 (au @uA.eq_1 (au @pW.eq_1 (au @C4.eq_1 (au @GX.eq_1 (au @JQ.eq_1 (au @zN.eq_1 (au @Jj.eq_1 (au @zb1.eq_1 (au @Xn.eq_1 (au @zb3.eq_1 (au @ZA.eq_1 (au @zb5.eq_1 (au @zb6.eq_1 (au @zb7.eq_1 (au @zb8.eq_1 (au @Jr.eq_1 (au @ahh.eq_1 (au @acA.eq_1 (au @adR.eq_1 (au @L9.eq_1 (au @af6.eq_1 (au @Tc.eq_1 (au @adT.eq_1 (au @am9.eq_1 (au @ab7.eq_1 (au @afp.eq_1 (au @YC.eq_1 (au @ac6.eq_1 (au @ZW.eq_1 (au @Zq.eq_1 (au @amG.eq_1 (au @RW.eq_1 (au @am1.eq_1 (au @UE.eq_1 (au @acT.eq_1 (au @aiK.eq_1 (au @ahq.eq_1 (au @ak9.eq_1 (au @agC.eq_1 (au @akY.eq_1 (au @ah5.eq_1 (au @amu.eq_1 (au @ake.eq_1 (au @agm.eq_1 (au @XT.eq_1 (au @aiR.eq_1 (au @Vr.eq_1 (au @aby.eq_1 (au @agG.eq_1 (au @alW.eq_1 (au @anj.eq_1 (au @abG.eq_1 (au @XU.eq_1 (au @alL.eq_1 (au @afC.eq_1 (au @Yh.eq_1 (au @afQ.eq_1 (au @ahf.eq_1 (au @agu.eq_1 (au @an8.eq_1 (au @akj.eq_1 (au @akr.eq_1 (au @acI.eq_1 (au @aif.eq_1 (au @acD.eq_1 (au @ady.eq_1 (au @Ro.eq_1 (au @PQ.eq_1 (au @ZB.eq_1 (au @zt2.eq_1 (au @Z9.eq_1 (au @zt4.eq_1 (au @zt5.eq_1 (au @zt6.eq_1 (au @zt7.eq_1 (au @zt8.eq_1 (au @zt9.eq_1 (au @abX.eq_1 (au @amq.eq_1 (au @am4.eq_1 (au @FN.eq_1 (au @ahl.eq_1 (au @HW.eq_1 (au @afv.eq_1 (au @ahQ.eq_1 (au @aip.eq_1 (au @ag6.eq_1 (au @Y8.eq_1 (au @adS.eq_1 (au @cg.eq_1 (au @aY.eq_1 (au @tD.eq_1 (au @b8.eq_1 (au @bw.eq_1 (au @aI.eq_1 (au @br.eq_1 (au @fI.eq_1 (au @cd.eq_1 (au @aG.eq_1 (au @av.eq_1 (au @eg.eq_1 (au @aB.eq_1 (au @OC.eq_1 (au @ji.eq_1 (au @jB.eq_1 (au @tA.eq_1 (au @iX.eq_1 (au @nf.eq_1 (au @dL.eq_1 (au @eh.eq_1 (au @fO.eq_1 (@qB.eq_1)))))))))))))))))))))))))))))))))))))))))))))))))))))))))))))))))))))))))))))))))))))))))))))))))))))))))))))))))))))))))))
end
def sY:dF:=λc S=>aE 0 (S 2) λa=>aE 3 a λb=>aF b λd=>gB (PQ d) λe=>b8 (S 5) e λf=>gT f (gy (S 5)) λg=>gT f (zb1 g (I 20)) λh=>aY f h (.bool false) λi=>let T:=q S 6 [S 5,a,b,d,e,f,f,g,h,i];gI i (aE 0 (S 2) λj=>aE 3 j λk=>aF k λl=>bR 3 l (S 5) λm=>aE 0 m λn=>aF n λo=>gB (ZB o) λp=>tD p (I 100) λr=>gF r (mL 0 (S 2)) λs=>gF r (mL 3 s) λt=>gF r (bG t) λu=>gF r (gy (S 5)) λv=>gF r (nR 3 u v) λw=>gF r (mL 1 w) λx=>gF r (bG x) λy=>gF r (zt2 y) λz=>gF r (Xn z (I 20)) λA=>aY r (.bool true) A λB=>let U:=q T 18 [j,k,l,S 5,m,n,o,p,r,r,s,t,u,v,w,x,y,z,A,B];gI B (yR (q U 4 [.bool true])) (cg (S 5) (I 1) λC=>yN (q (q U 16 [S 5,C]) 5 [C]))) (yE 0 T)
def A4:fg:=λc a b=>bw a λd=>gL (sY c) (q (q (cR 0 [a,b] ah.blank) 2 [d]) 4 [.bool false,I 0]) λe S=>gX 0 e (aE 0 (S 2) λf=>aE 3 f λg=>aF g λh=>gB (PQ h) λi=>tD i (I 10) λj=>gF j (mL 4 (S 2)) λk=>gF j (bG k) λl=>gF j (Z9 l) λm=>gF j (gy (S 1)) λn=>gF j (ZA m n) λo=>gF j (gy o) λp=>gT p (mL 4 (S 2)) λr=>gT p (bG r) λs=>gT p (Z9 s) λt=>gT p (zb5 t (I 400)) λu=>gF j (pj p u (.bool false)) λv=>aY j (.bool true) v λw=>gF w (mL 4 (S 2)) λx=>gF w (bG x) λy=>gF w (Z9 y) λz=>gF w (Xn z (I 410)) λA=>aY w (.bool true) A λB=>yO [(B,none)]) (gR e (yO [(S 4,none)]))
def HF{x0 x1 W r}(h:A4 bf x0 x1 W=some r):OG 6 #[] [x0,x1] W r:=oM 62 h (by kernel_rfl)
def ye:iu:=λc a=>bw a λb=>aG 27 λd=>aE 0 b λe=>bu 4 e λf=>cd 25 0 [] λg=>aE 4 b λh=>aF h λi=>fI #[25,25] g i λj=>gA (λW=>ur true (fd 4 e W) f&&true) (br 27 [(0,f),(1,j)] λk=>aI 5 d k λl=>yO [(d,some 27)])
def F9{x0 W r}(h:ye bf x0 W=some r):OG 11 #[] [x0] W r:=oM 10 h (by kernel_rfl)
def jY:dF:=λc S=>b8 (S 34) (S 33) λa=>let T:=q S 35 [a];gI a (bR 24 (S 32) (S 34) λb=>bu 24 b λd=>aG 52 λe=>aI 24 e d λf=>aE 1 e λg=>aF g λh=>tA h (I 1) λi=>gF i (mL 1 e) λj=>gF i (bG j) λk=>gF i (Xn k (I 64)) λl=>aY i (.bool true) l λm=>let U:=q (q (q (q T 36 [S 34,b,d]) 10 [e]) 9 [S 34]) 39 [g,h,i,i,j,k,l,m];gI m (yR (q (q U 47 [S 34]) 2 [.pointer none,S 34,I 7])) (aE 1 e λn=>aF n λo=>gB (uA 112 (S 8) o true) λp=>aB p 0 λr=>aB p 1 λs=>aE 2 e λt=>aF t λu=>let V:=q (q (q (q (q (q U 49 [S 8,n,o,p]) 48 [p]) 53 [r,s]) 11 [r,s]) 78 [t,u]) 77 [u];gI u (jB .not s λv=>gF v (gy r) λw=>gF v (mL 0 e) λx=>gF v (bG x) λy=>gF v (Jr w y) λz=>aY v (.bool true) z λA=>gF A (mL 3 e) λB=>gF A (fd 12 B) λC=>gF A (C7 48 []) λD=>gF A (ahh C D) λE=>aY A (.bool true) E λF=>let Y:=q V 80 [s,v,v,w,x,y,z,A,A,B,C,D,E,F];gI F (yR (q (q Y 94 [S 34]) 2 [.pointer none,S 34,I 6])) (aE 1 e λG=>aF G λH=>gB (zt4 (S 8) H) λJ=>av (S 7) λK=>aE 5 K λL=>aF L λM=>ji r (I 1) λN=>bR 25 M N λO=>aE 15 e λP=>bu 9 P λQ=>av O λa0=>aE 3 a0 λb0=>aI 1 b0 (S 34) λd0=>gA (λW=>ur true (fd 9 P W) Q&&true) (av O λe0=>aE 16 e0 λf0=>aI 9 f0 Q λg0=>av (S 7) λh0=>aE 6 h0 λi0=>aF i0 λj0=>gB (zt5 (S 8)) λk0=>cd 28 1 [(0,k0)] λl0=>fI #[28,28] j0 l0 λm0=>av (S 7) λn0=>aE 6 n0 λa1=>aI 1 a1 m0 λb1=>cg (S 34) (I 1) λd1=>yN (q (q (q (q (q Y 95 [S 8,G,H,S 7,K,L,M,r,N,O]) 13 [O]) 105 [O,O,S 34,P,Q,a0,b0,e0,f0]) 140 [S 7,S 7,h0,i0,j0,S 8,k0,l0,m0,n0,a1,d1]) 34 [d1])))) (gF s (mL 0 e) λv=>gF s (bG v) λw=>gF s (gy (S 7)) λx=>gF s (rh x) λy=>gF s (mL 5 y) λz=>gF s (bG z) λA=>gF s (zt6 A) λB=>gF s (zb3 B (I 1)) λC=>gF s (Jr w C) λD=>aY s (.bool true) D λE=>gF E (mL 15 e) λF=>gF E (fd 9 F) λG=>gF E (C7 50 []) λH=>gF E (adR G H) λJ=>aY E (.bool true) J λK=>gF K (mL 3 e) λL=>gF K (fd 12 L) λM=>gF K (zc c 51 [M]) λN=>gF K (zb6 N (I 0)) λO=>aY K (.bool true) O λP=>let Y:=q (q V 115 [s,s,v,w,x,y,z,A,B,C,D,E,E,F,G,H,J,K,K,L,M,N,O,P]) 114 [P];gI P (yR (q (q Y 139 [S 34]) 2 [.pointer none,S 34,I 6])) (aE 1 e λQ=>aF Q λa0=>aE 0 e λb0=>aF b0 λd0=>gB (pW 112 (S 8) a0 d0) λe0=>av (S 7) λf0=>aE 5 f0 λg0=>aF g0 λh0=>aE 0 e λi0=>aF i0 λj0=>aE 1 e λk0=>aF k0 λl0=>aE 3 e λm0=>bu 12 m0 λn0=>br 77 [(0,j0),(1,l0),(2,S 34),(3,I (-1)),(4,n0)] λa1=>cd 78 1 [(0,a1)] λb1=>fI #[78,78] h0 b1 λd1=>av (S 7) λe1=>aE 5 e1 λf1=>aI 1 f1 d1 λg1=>av (S 7) λh1=>aE 6 h1 λi1=>aF i1 λj1=>gB (zt5 (S 8)) λk1=>cd 28 1 [(0,k1)] λl1=>fI #[28,28] j1 l1 λm1=>av (S 7) λn1=>aE 6 n1 λa2=>aI 1 a2 m1 λb2=>cg (S 34) (I 1) λd2=>yN (q (q (q Y 55 [S 8,Q,a0,b0,d0,S 7,S 7,f0,g0,h0,i0,j0,k0,l0,S 34,m0,n0,a1,b1,d1,e1,f1]) 140 [S 7,S 7,h1,i1,j1,S 8,k1,l1,m1,n1,a2,d2]) 34 [d2]))))) (yE 0 T)
def rV:iu:=λc a=>bw a λb=>aE 0 b λd=>bu 4 d λe=>cH c 50 [e] λf=>aB f 0 λg=>aB f 1 λh=>eg h (I 0) λi=>gI i (yO [(.pointer none,none),(I (-1),none),(h,none)]) (aE 4 b λj=>aF j λk=>gB (Z9 k) λl=>tD l (I 400) λm=>gI m (yO [(.pointer none,none),(I (-1),none),(I 3,none)]) (bu 5 b λn=>br 80 [(0,n)] λo=>bw o λp=>gB (C4 112 none) λr=>aE 4 b λs=>aF s λt=>gB (Z9 t) λu=>gL (jY c) (q (q (q (q (q (q (q (q (q (q (q (cR 0 [a] ah.blank) 1 [b,.pointer none,I 0,I 0]) 15 [d,e,f]) 14 [f]) 18 [g,h]) 5 [g,h]) 20 [h,i]) 23 [j,k,l,m,n,o,p]) 7 [p]) 30 [r]) 8 [r]) 31 [s,t,u,I 0]) λv S=>gX 0 v (yO [(S 7,none),(I 0,none),(I 0,none)]) (gR v (yO [(S 2,none),(S 3,none),(S 4,none)]))))
def Cu{x0 W r}(h:rV bf x0 W=some r):OG 22 #[] [x0] W r:=oM 153 h (by kernel_rfl)
def Ag:iu:=λc a=>bw a λb=>aE 3 b λd=>aF d λe=>gB (L9 e (I 0)) λf=>yO [(f,none)]
def CF{x0 W r}(h:Ag bf x0 W=some r):OG 26 #[] [x0] W r:=oM 6 h (by kernel_rfl)
def qO:dF:=λc S=>aE 3 (S 2) λa=>aF a λb=>gB (PQ b) λd=>b8 (S 5) d λe=>let T:=q S 36 [S 5,a,b,d,e];gI e (aE 3 (S 2) λf=>aF f λg=>bR 3 g (S 5) λh=>bu 3 h λi=>aE 3 (S 3) λj=>aF j λk=>bR 3 k (S 5) λl=>bu 3 l λm=>aG 63 λn=>aG 63 λo=>aI 3 n i λp=>gA (λW=>ur true (fd 3 l W) m&&(ur true (bG j W) k&&true)) (aI 3 o m λr=>aE 0 n λs=>aF s λt=>aE 0 o λu=>aF u λv=>gB (af6 t v) λw=>gF w (mL 2 n) λx=>gF w (bG x) λy=>gF w (mL 2 o) λz=>gF w (bG z) λA=>gF w (Jr y A) λB=>aY w (.bool true) B λC=>gF C (mL 1 n) λD=>gF C (bG D) λE=>gF C (mL 1 o) λF=>gF C (bG F) λG=>gF C (zc c 61 [E,G]) λH=>gF C (TA .not H) λJ=>aY C (.bool true) J λK=>let U:=q (q (q T 43 [f,g,S 5,h,i,j,k,S 5,l,m]) 6 [n,o]) 53 [s,t,u,v,w,w,x,y,z,A,B,C,C,D,E,F,G,H,J,K];gI K (yR (q U 4 [.bool false])) (cg (S 5) (I 1) λL=>yN (q (q U 41 [S 5,L]) 5 [L])))) (yE 0 T)
def Ef:fg:=λc a b=>bw a λd=>bw b λe=>aE 0 d λf=>aF f λg=>aE 0 e λh=>aF h λi=>gB (Jr g i) λj=>gF j (mL 1 d) λk=>gF j (bG k) λl=>gF j (mL 1 e) λm=>gF j (bG m) λn=>gF j (Tc l n) λo=>aY j (.bool true) o λp=>gF p (mL 2 d) λr=>gF p (bG r) λs=>gF p (mL 2 e) λt=>gF p (bG t) λu=>gF p (Tc s u) λv=>aY p (.bool true) v λw=>gF w (mL 3 d) λx=>gF w (bG x) λy=>gF w (PQ y) λz=>gF w (mL 3 e) λA=>gF w (bG A) λB=>gF w (PQ B) λC=>gF w (Jr z C) λD=>aY w (.bool true) D λE=>gI E (yO [(.bool false,none)]) (gL (qO c) (q (q (q (cR 0 [a,b] ah.blank) 2 [d,e,.bool false]) 8 [f,g,h,i,j,j,k,l,m,n,o,p,p,r,s,t,u,v,w,w,x,y,z,A,B,C,D,E]) 5 [I 0]) λF S=>gX 0 F (yO [(.bool true,none)]) (gR F (yO [(S 4,none)])))
def FH{x0 x1 W r}(h:Ef bf x0 x1 W=some r):OG 29 #[] [x0,x1] W r:=oM 73 h (by kernel_rfl)
def vF:fg:=λc a b=>bw a λd=>bw b λe=>aE 3 d λf=>aF f λg=>gB (L9 g (I 0)) λh=>gT h (mL 3 d) λi=>gT h (bG i) λj=>gT h (mL 2 e) λk=>gT h (bG k) λl=>gT h (Jj j l) λm=>aY h m (.bool false) λn=>yO [(n,none)]
def yz{x0 x1 W r}(h:vF bf x0 x1 W=some r):OG 42 #[] [x0,x1] W r:=oM 15 h (by kernel_rfl)
def lA:dF:=λc S=>b8 (S 55) (S 54) λa=>gI a (bR 1 (S 53) (S 55) λb=>aF b λd=>dL (S 4) d λe=>cg (S 55) (I 1) λf=>yN (q (q (q (q (q (q S 56 [a,b,d]) 9 [d]) 59 [S 4,d,e]) 4 [e]) 62 [f]) 55 [f])) (yE 3 (q S 56 [a]))
def pD:dF:=λc S=>b8 (S 37) (S 36) λa=>gI a (bR 3 (S 35) (S 37) λb=>bu 3 b λd=>aG 63 λe=>aI 3 e d λf=>bu 3 e λg=>aE 3 (S 1) λh=>aF h λi=>gB (wt 22 i none (some (S 37)) none) λj=>cH c 91 [g,j] λk=>eg k (I 0) λl=>let T:=q (q (q (q (q (q S 38 [a,S 37,b,d]) 6 [e]) 5 [S 37]) 42 [g,h,i,S 37,j,k]) 7 [k]) 48 [k,l];gI l (yR (q (q T 50 [S 37,k]) 2 [S 37,k])) (aE 1 e λm=>aF m λn=>nf n λo=>gL (lA c) (q T 52 [m,n,o,I 0]) λp U=>gX 3 p (cg (U 37) (I 1) λr=>yN (q (q U 63 [r]) 37 [r])) yZ)) (yE 1 (q S 38 [a]))
def BE:iu:=λc a=>bw a λb=>aE 0 b λd=>aF d λe=>cH c 89 [e,I 1,I 16] λf=>gF f (mL 1 b) λg=>gF f (bG g) λh=>gF f (zc c 90 [h,I 1,I 1000000000]) λi=>aY f (.bool true) i λj=>gF j (mL 2 b) λk=>gF j (bG k) λl=>gF j (zc c 90 [l,I 1,I 1000000000]) λm=>aY j (.bool true) m λn=>gI n (yO [(I (-1),none),(I 7,none)]) (aE 3 b λo=>aF o λp=>gB (PQ p) λr=>iX r (I 0) λs=>gI s (yO [(I (-1),none),(I 6,none)]) (aE 3 b λt=>aF t λu=>gB (PQ u) λv=>tD v (I 8) λw=>gI w (yO [(I (-1),none),(I 3,none)]) (aE 3 b λx=>aF x λy=>gB (PQ y) λz=>gL (pD c) (q (q (q (q (q (q (q (q (q (cR 0 [a] ah.blank) 1 [b,I 0,I 0]) 11 [d,e,f,f,g,h,i,j,j,k,l,m,n]) 10 [n]) 25 [o,p,r,s]) 24 [s]) 30 [t,u,v,w]) 29 [w]) 4 [I 0]) 34 [x,y,z,I 0]) λA S=>gX 1 A (tD (S 4) (I 4096) λB=>gI B (yO [(I (-1),none),(I 3,none)]) (yO [(I 0,none),(I 0,none)])) (gR A (yO [(S 2,none),(S 3,none)])))))
def E7{x0 W r}(h:BE bf x0 W=some r):OG 50 #[] [x0] W r:=oM 66 h (by kernel_rfl)
def iF:fg:=λc a b=>bw a λd=>bw b λe=>gB (pX (.func 92) #[] #[d,e]) λf=>yO [(f,none)]
def qr{x0 x1 W r}(h:iF bf x0 x1 W=some r):OG 52 #[] [x0,x1] W r:=oM 6 h (by kernel_rfl)
def jv:fg:=λc a b=>cH c 93 [a,b] λd=>gB (L9 d (I 0)) λe=>yO [(e,none)]
def nv{x0 x1 W r}(h:jv bf x0 x1 W=some r):OG 54 #[] [x0,x1] W r:=oM 9 h (by kernel_rfl)
def tw:dF:=λc S=>aG 163 λa=>aI 4 a (S 17) λb=>yN (q S 6 [a])
def xY(call:Eng.Callee)(R:Nat->ad)(W:AW):eH Tryz.prog call false 23 (wR [1,1,0,1,0,0] (Bz 55)) LT R W ke=tw call R W:=by kernel_rfl
def tC:dF:=λc S=>aF (S 2) λa=>aE 3 (S 6) λb=>aF b λd=>dL a d λe=>aI 1 (S 2) e λf=>yN (q S 18 [a,b,d,e])
def xU(call:Eng.Callee)(R:Nat->ad)(W:AW):eH Tryz.prog call false 23 (wR [1,1,0,1,0,1] (Bz 55)) LT R W ke=tC call R W:=by kernel_rfl
def BJ:iu:=λc a=>bw a λb=>aG 3 λd=>bu 4 b λe=>cH c 50 [e] λf=>aB f 0 λg=>aB f 1 λh=>eg h (I 0) λi=>gI i (aI 1 d (I 0) λj=>yO [(d,some 3),(h,none)]) (bu 4 b λj=>cH c 94 [j] λk=>gB (i8 c k (.loop .ready none (q (q (q (q (q (q (q (cR 0 [a] ah.blank) 1 [b,d,I 0]) 8 [e,f]) 7 [f]) 10 [g,h]) 4 [g,h]) 12 [h,i]) 15 [j,k]) 23 #[17] (wR [1,1,0,1,0,0] (Bz 55)) (wR [1,1,0,1,0,1] (Bz 55)))) λl=>gM l (aF d λm=>aI 1 d m λn=>yO [(d,some 3),(I 0,none)]) yZ)
def Ft{x0 W r}(h:BJ bf x0 W=some r):OG 55 #[] [x0] W r:=oM 23 h (by kernel_rfl)
def qM:dF:=λc S=>nf (S 0) λa=>b8 (S 5) a λb=>let T:=q S 11 [S 5,S 0,a,b];gI b (bR 1 (S 0) (S 5) λd=>aF d λe=>bR 1 (S 1) (S 5) λf=>aF f λg=>gB (Jr e g) λh=>let U:=q T 17 [S 0,S 5,d,e,S 1,S 5,f,g,h];gI h (yR (q U 4 [.bool false])) (cg (S 5) (I 1) λi=>yN (q (q U 15 [S 5,i]) 5 [i]))) (yE 0 T)
def Ds:fg:=λc a b=>nf a λd=>nf b λe=>gB (Jr d e) λf=>gI f (yO [(.bool false,none)]) (gL (qM c) (q (q (q (cR 0 [a,b] ah.blank) 4 [.bool false]) 6 [a,d,b,e,f]) 5 [I 0]) λg S=>gX 0 g (yO [(.bool true,none)]) (gR g (yO [(S 4,none)])))
def F2{x0 x1 W r}(h:Ds bf x0 x1 W=some r):OG 61 #[] [x0,x1] W r:=oM 26 h (by kernel_rfl)
def mu:yc:=λc a b d=>b8 a b λe=>gF e (gy a) λf=>gF e (gy d) λg=>gF e (ZA f g) λh=>aY e (.bool true) h λi=>yO [(i,none)]
def wY{x0 x1 x2 W r}(h:mu bf x0 x1 x2 W=some r):OG 89 #[] [x0,x1,x2] W r:=oM 15 h (by kernel_rfl)
def j6:yc:=λc a b d=>gB (YC a b) λe=>gF e (gy a) λf=>gF e (gy d) λg=>gF e (ac6 f g) λh=>aY e (.bool true) h λi=>yO [(i,none)]
def tW{x0 x1 x2 W r}(h:j6 bf x0 x1 x2 W=some r):OG 90 #[] [x0,x1,x2] W r:=oM 15 h (by kernel_rfl)
def BS:fg:=λc a b=>bw a λd=>aE 0 d λe=>aF e λf=>cH c 116 [f] λg=>jB .not g λh=>gI h (yO [(I 6,none)]) (gB (pX (.func 118) #[] #[d]) λi=>cH c 117 [b,i] λj=>gI j (yO [(I 8,none)]) (aE 1 d λk=>aF k λl=>nf l λm=>iX m (I 0) λn=>gI n (yO [(I 6,none)]) (aE 1 d λo=>aF o λp=>nf p λr=>tD r (I 16) λs=>gI s (yO [(I 3,none)]) (aE 1 d λt=>aF t λu=>cH c 54 [u,rB 119] λv=>gI v (yO [(I 7,none)]) (aE 2 d λw=>aF w λx=>cH c 89 [x,I 0,I 64] λy=>gI y (yO [(I 7,none)]) (yO [(I 0,none)]))))))
def E5{x0 x1 W r}(h:BS bf x0 x1 W=some r):OG 91 #[] [x0,x1] W r:=oM 32 h (by kernel_rfl)
def fh:dF:=λc S=>b8 (S 11) (S 10) λa=>gI a (bR 25 (S 9) (S 11) λb=>bu 25 b λd=>aG 77 λe=>aI 25 e d λf=>aF (S 2) λg=>bu 25 e λh=>gB (c g [h]) λi=>gT i (gy (S 0)) λj=>gT i (fd 25 e) λk=>gT i (c j [k]) λl=>gT i (TA .not l) λm=>aY i m (.bool false) λn=>let T:=q (q (q S 12 [a,b,d]) 5 [e]) 15 [g,h,i,i,j,k,l,m,n];gI n (yR T) (cg (S 11) (I 1) λo=>yN (q (q T 24 [o]) 11 [o]))) (yE 0 (q S 12 [a]))
def fW:yc:=λc a b d=>aF b λe=>av e λf=>aE 5 f λg=>aF g λh=>gB (zt6 h) λi=>gL (fh c) (q (cR 0 [a,b,d] ah.blank) 6 [e,f,g,h,i,I 0]) λj S=>gX 0 j (yO []) (gR j (yO []))
def pm{x0 x1 x2 W r}(h:fW bf x0 x1 x2 W=some r):OG 92 #[x1,x2] [x0] W r:=oM 25 h (by kernel_rfl)
def fx:dF:=λc S=>b8 (S 8) (S 7) λa=>gI a (bR 1 (S 0) (S 8) λb=>aF b λd=>gB (c (S 1) [d]) λe=>let T:=q (q (q S 9 [a,S 8]) 5 [S 8]) 11 [S 1,S 0,S 8,b,d,e];gI e (yR (q (q T 17 [S 8]) 4 [S 8])) (cg (S 8) (I 1) λf=>yN (q (q T 18 [f]) 8 [f]))) (yE 0 (q S 9 [a]))
def lO:fg:=λc a b=>nf a λd=>gL (fx c) (q (q (cR 0 [a,b] ah.blank) 4 [I 0]) 6 [a,d,I 0]) λe S=>gX 0 e (yO [(I (-1),none)]) (gR e (yO [(S 4,none)]))
def pH{x0 x1 W r}(h:lO bf x0 x1 W=some r):OG 93 #[] [x0,x1] W r:=oM 19 h (by kernel_rfl)
def xK:iu:=λc a=>bw a λb=>gB (pX (.func 120) #[] #[b]) λd=>yO [(d,none)]
def FC{x0 W r}(h:xK bf x0 W=some r):OG 94 #[] [x0] W r:=oM 4 h (by kernel_rfl)
def yB:iu:=λc a=>bw a λb=>bu 12 b λd=>cH c 51 [d] λe=>eg e (I 0) λf=>gI f (yO [(I 0,none),(I 0,none),(e,none)]) (aE 0 b λg=>aF g λh=>gB (ixA 13 1 (ahJ 0) h) λi=>aF i λj=>gB (ZW j (I 4)) λk=>gB (Zq k (I 0)) λl=>gI l (aE 3 b λm=>aF m λn=>yO [(n,none),(I (-1),none),(I 0,none)]) (gB (ZW j (I 64)) λm=>gB (Zq m (I 0)) λn=>gI n (aE 7 b λo=>aE 0 o λp=>aF p λr=>eh 43 3 r λs=>yO [(s,none),(I (-1),none),(I 0,none)]) (gB (ZW j (I 8)) λo=>gB (Zq o (I 0)) λp=>gI p (aE 4 b λr=>aF r λs=>yO [(I (-1),none),(s,none),(I 0,none)]) (yO [(I (-1),none),(I (-1),none),(I 0,none)]))))
def Cp{x0 W r}(h:yB bf x0 W=some r):OG 98 #[] [x0] W r:=oM 38 h (by kernel_rfl)
def Er:iu:=λc a=>gB (UE a (Co [])) λb=>gF b (gy a) λd=>gF b (ZB d) λe=>gF b (Xn e (I 16)) λf=>aY b (.bool true) f λg=>gF g (gy a) λh=>gF g (mS 9 h (I 0)) λi=>gF g (acT i (.int .u8 97)) λj=>aY g (.bool true) j λk=>gF k (gy a) λl=>gF k (mS 9 l (I 0)) λm=>gF k (aiK m (.int .u8 122)) λn=>aY k (.bool true) n λo=>gI o (yO [(.bool false,none)]) (cH c 148 [a,Co [97,98,99,100,101,102,103,104,105,106,107,108,109,110,111,112,113,114,115,116,117,118,119,120,121,122,48,49,50,51,52,53,54,55,56,57,45]] λp=>gB (UE p (Co [])) λr=>yO [(r,none)])
def F7{x0 W r}(h:Er bf x0 W=some r):OG 116 #[] [x0] W r:=oM 23 h (by kernel_rfl)
def dy:fg:=λc a b=>cH c 149 [a,b] λd=>gB (L9 d (I 0)) λe=>yO [(e,none)]
def fw{x0 x1 W r}(h:dy bf x0 x1 W=some r):OG 117 #[] [x0,x1] W r:=oM 9 h (by kernel_rfl)
def xu:fg:=λc a b=>bw a λd=>aE 0 d λe=>aF e λf=>aE 0 b λg=>aF g λh=>gB (afp f h) λi=>yO [(i,none)]
def AJ{x0 x1 W r}(h:xu bf x0 x1 W=some r):OG 118 #[x1] [x0] W r:=oM 9 h (by kernel_rfl)
def xj:iu:=λc a=>cH c 89 [a,I 1,I 64] λb=>yO [(b,none)]
def Bv{x0 W r}(h:xj bf x0 W=some r):OG 119 #[] [x0] W r:=oM 5 h (by kernel_rfl)
def ka:dF:=λc S=>b8 (S 19) (S 18) λa=>gI a (bR 1 (S 17) (S 19) λb=>aF b λd=>br 163 [(0,S 4),(1,S 19),(2,S 3),(3,d)] λe=>gB (c (S 0) [e]) λf=>jB .not f λg=>let T:=q (q (q S 20 [a,S 19,b,d]) 6 [S 19,d]) 24 [S 0,S 4,S 19,S 3,d,e,f,g];gI g (yR T) (dL (S 3) d λh=>cg (S 19) (I 1) λi=>yN (q (q (q (q T 32 [S 3,d,h]) 3 [h]) 35 [i]) 19 [i]))) (yE 2 (q S 20 [a]))
def nE:dF:=λc S=>b8 (S 11) (S 10) λa=>gI a (bR 3 (S 9) (S 11) λb=>bu 3 b λd=>aG 63 λe=>aI 3 e d λf=>aE 1 e λg=>aF g λh=>nf h λi=>gL (ka c) (q (q (q (q S 12 [a,S 11,b,d]) 5 [e]) 4 [S 11]) 16 [g,h,i,I 0]) λj T=>gX 2 j (cg (T 11) (I 1) λk=>yN (q (q T 36 [k]) 11 [k])) (gR j (yR T))) (yE 0 (q S 12 [a]))
def sj:fg:=λc a b=>aE 3 b λd=>aF d λe=>gB (PQ e) λf=>gL (nE c) (q (q (cR 0 [a,b] ah.blank) 3 [I 0]) 8 [d,e,f,I 0]) λg S=>gX 0 g (yO []) (gR g (yO []))
def Cx{x0 x1 W r}(h:sj bf x0 x1 W=some r):OG 120 #[x1] [x0] W r:=oM 37 h (by kernel_rfl)
def zI:fg:=λc a b=>gB (UE a (Co [])) λd=>gF d (gy b) λe=>gF d (UE e (Co [])) λf=>aY d (.bool true) f λg=>gI g (yO [(a,none)]) (gB (ZB b) λh=>iX h (I 1) λi=>gT i (gy b) λj=>gT i (mS 9 j (I 0)) λk=>gT i (acT k (.int .u8 128)) λl=>aY i l (.bool false) λm=>gI m (gB (mS 9 b (I 0)) λn=>gB (mS 9 b (I 0)) λo=>cH c 179 [a,n] λp=>cH c 178 [p,o] λr=>yO [(r,none)]) (cH c 180 [b] λn=>aB n 0 λo=>aB n 1 λp=>aG 232 λr=>aI 256 r o λs=>gI p (cH c 182 [a,r] λt=>cH c 181 [t,r] λu=>yO [(u,none)]) (cH c 184 [a,b] λt=>cH c 183 [t,b] λu=>yO [(u,none)])))
def Cy{x0 x1 W r}(h:zI bf x0 x1 W=some r):OG 148 #[] [x0,x1] W r:=oM 43 h (by kernel_rfl)
def cm:dF:=λc S=>b8 (S 8) (S 7) λa=>gI a (bR 3 (S 0) (S 8) λb=>bu 3 b λd=>gB (c (S 1) [d]) λe=>let T:=q (q (q S 9 [a,S 8]) 5 [S 8]) 11 [S 1,S 0,S 8,b,d,e];gI e (yR (q (q T 17 [S 8]) 4 [S 8])) (cg (S 8) (I 1) λf=>yN (q (q T 18 [f]) 8 [f]))) (yE 0 (q S 9 [a]))
def dG:fg:=λc a b=>gB (PQ a) λd=>gL (cm c) (q (q (cR 0 [a,b] ah.blank) 4 [I 0]) 6 [a,d,I 0]) λe S=>gX 0 e (yO [(I (-1),none)]) (gR e (yO [(S 4,none)]))
def fT{x0 x1 W r}(h:dG bf x0 x1 W=some r):OG 149 #[] [x0,x1] W r:=oM 19 h (by kernel_rfl)
def gl:dF:=λc S=>gB (ZB (S 0)) λa=>b8 (S 4) a λb=>let T:=q S 6 [S 4,S 0,a,b];gI b (gB (mS 9 (S 0) (S 4)) λd=>gB (ahq d (.int .u8 128)) λe=>let U:=q (q (q T 12 [S 0,S 4,d]) 5 [d]) 15 [d,e];gI e (bu 256 (S 2) λf=>aI 256 (S 2) f λg=>yR (q (q U 17 [f]) 3 [.bool false])) (gB (ixA 256 1 (S 2) d) λf=>aI 1 f (.bool true) λg=>cg (S 4) (I 1) λh=>yN (q (q (q U 18 [d,f]) 10 [S 4,h]) 4 [h]))) (yE 0 T)
def na:iu:=λc a=>aG 232 λb=>gL (gl c) (q (cR 0 [a] ah.blank) 2 [b,.bool false,I 0]) λd S=>gX 0 d (bu 256 (S 2) λe=>aI 256 (S 2) e λf=>yO [(S 2,some 232),(.bool true,none)]) (gR d (yO [(S 2,some 232),(S 3,none)]))
def qV{x0 W r}(h:na bf x0 W=some r):OG 180 #[] [x0] W r:=oM 21 h (by kernel_rfl)
def fK:dF:=λc S=>gB (ZB (S 0)) λa=>tD a (I 0) λb=>let T:=q S 5 [S 0,a,b];gI b (gB (mS 9 (S 0) (I 0)) λd=>cH c 204 [S 1,d] λe=>jB .not e λf=>let U:=q T 8 [S 1,S 0,d,e,f];gI f (yE 0 U) (gB (wt 9 (S 0) (some (I 1)) none none) λg=>yN (q (q U 13 [S 0,g]) 0 [g]))) (yE 0 T)
def mn:fg:=λc a b=>gL (fK c) (q (cR 0 [a,b] ah.blank) 4 [Co []]) λd S=>gX 0 d (yO [(S 0,none)]) yZ
def qP{x0 x1 W r}(h:mn bf x0 x1 W=some r):OG 181 #[] [x0,x1] W r:=oM 16 h (by kernel_rfl)
def fy:dF:=λc S=>gB (ZB (S 0)) λa=>tD a (I 0) λb=>let T:=q S 5 [S 0,a,b];gI b (gB (ZB (S 0)) λd=>ji d (I 1) λe=>gB (mS 9 (S 0) e) λf=>cH c 204 [S 1,f] λg=>jB .not g λh=>let U:=q T 8 [S 1,S 0,S 0,d,e,f,g,h];gI h (yE 0 U) (gB (ZB (S 0)) λi=>ji i (I 1) λj=>gB (wt 9 (S 0) none (some j) none) λk=>yN (q (q U 16 [S 0,S 0,i,j,k]) 0 [k]))) (yE 0 T)
def lG:fg:=λc a b=>gL (fy c) (q (cR 0 [a,b] ah.blank) 4 [Co []]) λd S=>gX 0 d (yO [(S 0,none)]) yZ
def pK{x0 x1 W r}(h:lG bf x0 x1 W=some r):OG 182 #[] [x0,x1] W r:=oM 22 h (by kernel_rfl)
def BH:fg:=λc a b=>bw a λd=>aG 177 λe=>bu 4 d λf=>cH c 215 [f,b] λg=>aB g 0 λh=>aB g 1 λi=>aG 163 λj=>aI 4 j h λk=>eg i (I 0) λl=>gI l (br 177 [] λm=>aI 3 e m λn=>yO [(e,some 177),(i,none)]) (aE 0 j λm=>aF m λn=>aE 1 j λo=>aF o λp=>aE 2 j λr=>aF r λs=>fO b s λt=>br 177 [(0,n),(1,p),(2,t)] λu=>aI 3 e u λv=>yO [(e,some 177),(I 0,none)])
def D4{x0 x1 W r}(h:BH bf x0 x1 W=some r):OG 200 #[] [x0,x1] W r:=oM 27 h (by kernel_rfl)
def jA:fg:=λc a b=>av a λd=>gB (ixA 256 1 d b) λe=>aF e λf=>yO [(f,none)]
def nK{x0 x1 W r}(h:jA bf x0 x1 W=some r):OG 204 #[] [x0,x1] W r:=oM 10 h (by kernel_rfl)
def Aj:dF:=λc S=>aG 163 λa=>aI 4 a (S 20) λb=>yN (q S 9 [a])
def CI(call:Eng.Callee)(R:Nat->ad)(W:AW):eH Tryz.prog call false 37 (wR [1,1,0,1,0,0] (Bz 211)) LT R W ke=Aj call R W:=by kernel_rfl
def zW:dF:=λc S=>aE 0 (S 9) λa=>aF a λb=>aF (S 3) λd=>gB (Jr b d) λe=>let T:=q S 21 [a,b,d,e];gI e (yN T) (aF (S 5) λf=>iX f (I 0) λg=>gI g (aE 2 (S 9) λh=>aF h λi=>aI 1 (S 4) i λj=>aF (S 5) λk=>aE 3 (S 9) λl=>aF l λm=>dL k m λn=>aI 1 (S 5) n λo=>yN (q T 25 [f,g,h,i,k,l,m,n])) (aF (S 5) λh=>aE 3 (S 9) λi=>aF i λj=>dL h j λk=>aI 1 (S 5) k λl=>yN (q (q T 25 [f,g]) 29 [h,i,j,k])))
def Cj(call:Eng.Callee)(R:Nat->ad)(W:AW):eH Tryz.prog call false 37 (wR [1,1,0,1,0,1] (Bz 211)) LT R W ke=zW call R W:=by kernel_rfl
def JM:fg:=λc a b=>bw a λd=>bw b λe=>aG 3 λf=>aG 3 λg=>bu 4 d λh=>cH c 50 [h] λi=>aB i 0 λj=>aB i 1 λk=>eg k (I 0) λl=>gI l (aI 1 f (I 0) λm=>aI 1 g (I 0) λn=>yO [(f,some 3),(g,some 3),(k,none)]) (bu 4 d λm=>cH c 94 [m] λn=>gB (i8 c n (.loop .ready none (q (q (q (q (q (q (q (cR 0 [a,b] ah.blank) 2 [d,e,f,g,I 0]) 11 [h,i]) 10 [i]) 13 [j,k]) 7 [j,k]) 15 [k,l]) 18 [m,n]) 37 #[20] (wR [1,1,0,1,0,0] (Bz 211)) (wR [1,1,0,1,0,1] (Bz 211)))) λo=>gM o (aF g λp=>iX p (I 0) λr=>gI r (aI 1 f (I 0) λs=>aI 1 g (I 0) λt=>yO [(f,some 3),(g,some 3),(I 4,none)]) (aF f λs=>aF g λt=>aI 1 f s λu=>gA (λW=>ur true (bG g W) t&&true) (aI 1 g t λv=>yO [(f,some 3),(g,some 3),(I 0,none)]))) yZ)
def Ln{x0 x1 W r}(h:JM bf x0 x1 W=some r):OG 211 #[] [x0,x1] W r:=oM 37 h (by kernel_rfl)
def uK:dF:=λc S=>aG 163 λa=>aI 4 a (S 20) λb=>yN (q S 8 [a])
def ym(call:Eng.Callee)(R:Nat->ad)(W:AW):eH Tryz.prog call false 36 (wR [1,1,0,1,0,0] (Bz 215)) LT R W ke=uK call R W:=by kernel_rfl
def uV:dF:=λc S=>aF (S 3) λa=>aE 2 (S 8) λb=>aF b λd=>gB (RW a d) λe=>gT e (bG (S 3)) λf=>gT e (mL 2 (S 8)) λg=>gT e (bG g) λh=>gT e (mL 3 (S 8)) λi=>gT e (bG i) λj=>gT e (adT h j) λk=>gT e (Jj f k) λl=>aY e l (.bool false) λm=>let T:=q S 21 [a,b,d,e,e,f,g,h,i,j,k,l,m];gI m (bu 4 (S 8) λn=>aI 4 (S 4) n λo=>aI 1 (S 5) (I 0) λp=>yR (q T 34 [n])) (yN T)
def yQ(call:Eng.Callee)(R:Nat->ad)(W:AW):eH Tryz.prog call false 36 (wR [1,1,0,1,0,1] (Bz 215)) LT R W ke=uV call R W:=by kernel_rfl
def DB:fg:=λc a b=>bw a λd=>bw b λe=>aG 163 λf=>aG 35 λg=>bu 4 d λh=>cH c 50 [h] λi=>aB i 0 λj=>aB i 1 λk=>eg k (I 0) λl=>gI l (br 163 [] λm=>aI 4 f m λn=>aI 1 g k λo=>yO [(f,some 163),(g,some 35)]) (bu 4 d λm=>cH c 94 [m] λn=>gB (i8 c n (.loop .ready none (q (q (q (q (q (q (q (cR 0 [a,b] ah.blank) 2 [d,e,f,g]) 10 [h,i]) 9 [i]) 12 [j,k]) 6 [j,k]) 14 [k,l]) 18 [m,n]) 36 #[20] (wR [1,1,0,1,0,0] (Bz 215)) (wR [1,1,0,1,0,1] (Bz 215)))) λo=>gM o (br 163 [] λp=>aI 4 f p λr=>aI 1 g (I 4) λs=>yO [(f,some 163),(g,some 35)]) (gR o (yO [(f,some 163),(g,some 35)])))
def Gh{x0 x1 W r}(h:DB bf x0 x1 W=some r):OG 215 #[] [x0,x1] W r:=oM 36 h (by kernel_rfl)
def wU:((#[28]:Array ae)[0]?).bind Tryz.prog.underlying=some (.slice 3):=by kernel_rfl
def vA:((#[22]:Array ae)[0]?).bind Tryz.prog.underlying=some (.slice 63):=by kernel_rfl
def pi(n lo hi:Int):Bool:=decide (n<lo)||decide (hi<n)
def mR(n lo hi:Int)(W:AW):bf (.func (.func 89) #[] #[]) [.af n,.af lo,.af hi] W=some (.bool (pi n lo hi),W):=by
 have h:mu bf (.af n) (.af lo) (.af hi) W=some (.bool (pi n lo hi),W):=by unfold mu pi;by_cases h:n<lo<;>simp only[SX,h,CR,Bool.false_or]
 rw[wY h,HE (.refl _)]
def tB(n lo hi:Int)(W:AW):bf (.func (.func 90) #[] #[]) [.af n,.af lo,.af hi] W=some (.bool (pi n lo hi),W):=by
 have h:j6 bf (.af n) (.af lo) (.af hi) W=some (.bool (pi n lo hi),W):=by unfold j6 pi;by_cases h:n<lo<;>simp only[SX,h,CR,Bool.false_or]
 rw[tW h,HE (.refl _)]
def Yb{a b:ad}{la lb:List Int}{W:AW}(ha:gg W a la)(hb:gg W b lb)(hl:la.length<900000):bf (.func (.func 61) #[] #[]) [a,b] W=some (.bool (decide (la=lb)),W):=by
 refine aX rfl ?_ F2;unfold Ds;simp only[SX,ha.len wU,hb.len wU];by_cases eG:la.length=lb.length
 ·have e:((la.length:Int)=(lb.length:Int)):=by omega
  simp only[SX,e];refine bz la.length (by omega) (λk R W'=>W'=W/\R 0=a/\R 1=b/\R 5=.af (k:Int)/\la.take k=lb.take k)
   (λr=>r.2.2=W/\((r.1=.exit 0/\la=lb)\/(r.1=.ret/\r.2.1 4=.bool false/\la≠lb))) ⟨rfl,rfl,rfl,rfl,rfl⟩ ?_ ?_ ?_
  ·rintro k R W' hk ⟨rfl,h0,h1,h5,ht⟩;unfold qM;obtain⟨p,p1,p2⟩:=ha.get hk;obtain⟨q,q1,q2⟩:=hb.get (i:=k) (by omega);have e1:((k:Int)<(la.length:Int)):=by omega
   simp only[SX,h0,h1,h5,ha.len wU,e1,p1,p2 _ (.refl _),q1,q2 _ (.refl _)];by_cases hx:la[k]=lb[k]'(by omega)
   ·have e2:(k:Int)+1=((k+1:Nat):Int):=by omega
    simp only[SX,hx,oU (show -9223372036854775808<=(k:Int)+1 by omega) (show(k:Int)+1<9223372036854775808 by omega),ai];refine .inl ⟨ao,ao,h0,h1,by rw[<-e2];rfl,?_⟩;rw[lW hk,lW (by omega),ht,hx]
   ·simp only[SX,hx,ai];refine .inr ⟨by simp,ao,.inr ⟨ao,rfl,λe=>hx (by simp only[e])⟩⟩
  ·rintro R W' ⟨rfl,h0,h1,h5,ht⟩;unfold qM;have e1:¬((la.length:Int)<(la.length:Int)):=by omega
   simp only[SX,h0,h1,h5,ha.len wU,e1,ai];refine⟨by simp,ao,.inl ⟨ao,?_⟩⟩;rw[cY]at ht;rw[ht,eG,cY]
  ·rintro⟨x,R,W'⟩ ⟨hW,h⟩;simp only at hW h;subst hW;rcases h with⟨rfl,h⟩|⟨rfl,h4,h⟩
   ·simp only[SX,ai,h];exact⟨ao,.refl _⟩
   ·simp only[SX,ai,h4,h];exact⟨ao,.refl _⟩
 ·have e:¬((la.length:Int)=(lb.length:Int)):=by omega
  have e2:la≠lb:=λh=>eG (by rw[h])
  simp only[SX,e,e2,ai];exact⟨ao,.refl _⟩
def un9:Tryz.prog.underlying 9=some .string:=by kernel_rfl
def Eu:((#[9]:Array ae)[0]?).bind Tryz.prog.underlying=some .string:=by kernel_rfl
def j5(l:List UInt8):List ad:=(List.range 256).map λi=>.bool (l.any λc=>c.toNat==i)
def jN(l:List UInt8):(j5 l).length=256:=by simp[j5]
def Fl(l:List UInt8){i:Nat}(h:i<256):(j5 l)[i]? =some (.bool (l.any λc=>c.toNat==i)):=by simp[j5,h]
def LK(l:List UInt8):(j5 l).all Eng.one=true:=by unfold j5;rw[List.all_map,cw];intro x _;rfl
def Mw(l:List UInt8):(bC (.tuple #[.agg (j5 l).toArray,.bool true])&& !XE (.tuple #[.agg (j5 l).toArray,.bool true]))=true:=by
 have h:eQ (.agg (j5 l).toArray)=true:=by show(j5 l).toArray.toList.all bZ=true;unfold j5;rw[C3,List.all_map,cw];intro x _;rfl
 have h2:bC (.tuple #[.agg (j5 l).toArray,.bool true])=true:=by show(eQ (.agg (j5 l).toArray)&&(eQ (.bool true)&&true))=true;rw[h];rfl
 rw[h2];rfl
def TO(l:List UInt8)(c:UInt8):(j5 l).set c.toNat (.bool true)=j5 (l++[c]):=by
 apply vw;intro i;by_cases hi:i<256
 ·rw[n8,Fl _ hi,Fl _ hi,jN];by_cases hc:c.toNat=i
  ·rw[aq hc,kE];simp[hc]
  ·rw[ap hc];have:(c.toNat==i)=false:=by simpa using hc
   simp[this]
 ·rw[iE (by rw[sI,jN];omega),iE (by rw[jN];omega)]
def aaf(W:AW):cl Tryz.prog 232 W=some (.pointer (some ⟨W.next,0,none⟩),W.add (.cells (j5 []))):=aL (by kernel_rfl) rfl
def afy(x:ad)(W:AW):fR Tryz.prog 232 x W=fd 256 x W:=by kernel_rfl
def Hm{b:Nat}{l:List UInt8}{W:AW}(hb:aC W b=some (j5 l))(c:UInt8):bf (.func (.func 204) #[] #[]) [.pointer (some ⟨b,0,none⟩),.int .u8 (c.toNat:Int)] W=some (.bool (l.any λx=>x==c),W):=by refine aX rfl ?_ nK;unfold jA;have hc:c.toNat<256:=c.toNat_lt;simp only[SX,aJ,VQ hc,Vw,hb,bL,jE,aN,Fl l hc,cF,ai];refine⟨?_,.refl _⟩;congr 2;funext x;rw[wO];simp[UInt8.toNat_inj]
def Va{l:List UInt8}(hl:l.length<1000)(ha:∀c∈l,c.toNat<128)(W:AW):bf (.func (.func 180) #[] #[]) [.string (aQ l)] W=some (.tuple #[.agg (j5 l).toArray,.bool true],W):=by
 refine aX (Mw l) ?_ qV;unfold na;simp only[SX,aaf];refine bz l.length (by omega) (λk R W'=>R 0=.string (aQ l)/\R 2=.pointer (some ⟨W.next,0,none⟩)/\R 4=.af (k:Int)/\aK W' W.next=some (j5 (l.take k))/\Le W W')
  (λr=>r.1=.exit 0/\r.2.1 2=.pointer (some ⟨W.next,0,none⟩)/\aK r.2.2 W.next=some (j5 l)/\Le W r.2.2) ⟨rfl,rfl,rfl,cC,(Le.refl _).add _⟩ ?_ ?_ ?_
 ·rintro k R W' hk ⟨h0,h2,h4,hb,aS⟩;unfold gl;have hc:l[k].toNat<128:=ha _ (ez hk);have e1:((k:Int)<(l.length:Int)):=by omega
  have e2:¬(128:Int)<=(l[k].toNat:Int):=by omega
  simp only[SX,h0,h2,h4,lj Eu,e1,vV un9 hk,e2,VQ (show l[k].toNat<256 by omega),zy,hb,bL,jE,aN,jN,show l[k].toNat<256 by omega,ba,TO,
   oU (show -9223372036854775808<=(k:Int)+1 by omega) (show(k:Int)+1<9223372036854775808 by omega),ai];have e2:(k:Int)+1=((k+1:Nat):Int):=by omega
  refine .inl ⟨ao,h0,h2,by rw[<-e2];rfl,?_,aS.put (aM _) _⟩;rw[bT,<-ze hk]
 ·rintro R W' ⟨h0,h2,h4,hb,aS⟩;unfold gl;have e1:¬((l.length:Int)<(l.length:Int)):=by omega
  simp only[SX,h0,h2,h4,lj Eu,e1,ai];rw[cY]at hb;exact⟨by simp,ao,h2,hb,aS⟩
 ·rintro⟨x,R,W'⟩ ⟨rfl,h2,hb,aS⟩;simp only at h2 hb aS;have h1:=ZJ hb (LK l);rw[jN]at h1;have h3:=wm (iq hb) (jN l);have h4:=wm (W:=W'.put W.next (.cells (j5 l))) (p8 _) (jN l);simp only[SX,h2,h3,h1,cr,afy,h4,bL,ai];exact⟨ao,aS.put (aM _) _⟩
def uD(p:UInt8->Bool)(l:List UInt8):List UInt8:=(l.reverse.dropWhile p).reverse
def zw{p:UInt8->Bool}:∀{l:List UInt8} {k:Nat},(∀c∈l.take k,p c=true)->(l.drop k).dropWhile p=l.dropWhile p
 |l,0,_=>by simp
 |[],k+1,_=>by simp
 |c::l,k+1,h=>by have hc:p c=true:=h c (by simp);rw[List.drop_succ_cons,CL,aq hc];exact zw λd hd=>h d (by simp[hd])
abbrev NW(S:List UInt8)(c:UInt8):Bool:=S.any λx=>x==c
def Ux{b:Nat}{S l:List UInt8}{W:AW}(hb:aC W b=some (j5 S))(hl:l.length<1000):bf (.func (.func 181) #[] #[]) [.string (aQ l),.pointer (some ⟨b,0,none⟩)] W=some (.string (aQ (l.dropWhile (NW S))),W):=by
 refine aX rfl ?_ qP;unfold mn;simp only[SX];refine bz l.length (by omega) (λk R W'=>W'=W/\R 0=.string (aQ (l.drop k))/\R 1=.pointer (some ⟨b,0,none⟩)/\∀c∈l.take k,NW S c=true)
  (λr=>r.2.2=W/\r.1=.exit 0/\r.2.1 0=.string (aQ (l.dropWhile (NW S)))) ⟨rfl,rfl,rfl,by simp⟩ ?_ ?_ ?_
 ·rintro k R W' hk ⟨rfl,h0,h1,ha⟩;unfold fK;have hd:l.drop k=l[k]::l.drop (k+1):=ss hk;have e1:(0:Int)<((l.drop k).length:Int):=by rw[qA];omega
  have e0:px Tryz.prog 9 (.string (aQ (l.drop k))) (.af 0) W'=some (.int .u8 (l[k].toNat:Int),W'):=by have:=vV (P:=Tryz.prog) (W:=W') (k:=.i64) un9 (l:=l.drop k) (i:=0) (by rw[qA];omega);simpa using this
  have e3:ft Tryz.prog 9 (.string (aQ (l.drop k))) (some (.af 1)) none none W'=some (.string (aQ (l.drop (k+1))),W'):=by have:=VZ (P:=Tryz.prog) (W:=W') (k:=.i64) un9 (l:=l.drop k) (a:=1) (by rw[qA];omega);rw[pM]at this;exact this
  simp only[SX,h0,h1,lj Eu,e1,e0,Hm hb,e3];cases hp:NW S l[k]
  ·simp only[SX,show(S.any λx=>x==l[k])=false from hp,ai];refine .inr ⟨by simp,ao,ao,?_⟩;show R 0=_;rw[h0,<-zw ha,hd,CL,hp];rfl
  ·simp only[SX,show(S.any λx=>x==l[k])=true from hp,ai];refine .inl ⟨ao,ao,rfl,h1,?_⟩;rw[<-ze hk];intro c hc;rcases py.1 hc with h|h
   ·exact ha c h
   ·rw[nL.1 h];exact hp
 ·rintro R W' ⟨rfl,h0,h1,ha⟩;unfold fK;rw[zH]at h0;have e1:¬(0:Int)<(([]:List UInt8).length:Int):=by simp
  simp only[SX,h0,h1,lj Eu,e1,ai];refine⟨by simp,ao,ao,?_⟩;show R 0=_;rw[h0,<-zw ha,zH];rfl
 ·rintro⟨x,R,W'⟩ ⟨hW,hx,h0⟩;simp only at hW hx h0;subst hW hx;simp only[SX,ai,h0];exact⟨ao,.refl _⟩
def EY{p:UInt8->Bool}{l:List UInt8}{n:Nat}(h:∀c∈l.drop n,p c=true):uD p (l.take n)=uD p l:=by
 unfold uD;have h2:l.reverse=(l.drop n).reverse++(l.take n).reverse:=by rw[<-List.reverse_append,Fv]
 have h3:=zw (p:=p) (l:=l.reverse) (k:=(l.drop n).reverse.length) (by rw[h2,sV];intro c hc;exact h c (List.mem_reverse.1 hc));rw[<-h3,h2,sS]
def T7{b:Nat}{S l:List UInt8}{W:AW}(hb:aC W b=some (j5 S))(hl:l.length<1000):bf (.func (.func 182) #[] #[]) [.string (aQ l),.pointer (some ⟨b,0,none⟩)] W=some (.string (aQ (uD (NW S) l)),W):=by
 refine aX rfl ?_ pK;unfold lG;simp only[SX];refine bz l.length (by omega) (λk R W'=>W'=W/\R 0=.string (aQ (l.take (l.length-k)))/\R 1=.pointer (some ⟨b,0,none⟩)/\∀c∈l.drop (l.length-k),NW S c=true)
  (λr=>r.2.2=W/\r.1=.exit 0/\r.2.1 0=.string (aQ (uD (NW S) l))) ⟨rfl,by simp;rfl,rfl,by simp⟩ ?_ ?_ ?_
 ·rintro k R W' hk ⟨rfl,h0,h1,ha⟩;unfold fy;obtain⟨m,hm⟩:∃m,l.length-k=m+1:=⟨l.length-k-1,by omega⟩;have hm2:l.length-(k+1)=m:=by omega
  have Jx:m<l.length:=by omega
  rw[hm]at h0 ha;have eG:(l.take (m+1)).length=m+1:=by rw[fu];omega
  have e1:(0:Int)<(((m+1:Nat):Int)):=by omega
  have e2:((m+1:Nat):Int)-1=(m:Int):=by omega
  have e0:px Tryz.prog 9 (.string (aQ (l.take (m+1)))) (.af (m:Int)) W'=some (.int .u8 (l[m].toNat:Int),W'):=by have:=vV (P:=Tryz.prog) (W:=W') (k:=.i64) un9 (l:=l.take (m+1)) (i:=m) (by rw[fu];omega);simpa using this
  have e3:ft Tryz.prog 9 (.string (aQ (l.take (m+1)))) none (some (.af (m:Int))) none W'=some (.string (aQ (l.take m)),W'):=by have:=abM (P:=Tryz.prog) (W:=W') (k:=.i64) un9 (l:=l.take (m+1)) (a:=m) (by rw[fu];omega);rw[List.take_take,nZ (by omega)]at this;exact this
  have es:=uH W' ((m+1:Nat):Int) 1;rw[e2]at es;simp only[SX,h0,h1,lj Eu,eG,e1,es,e0,Hm hb,e3];cases hp:NW S l[m]
  ·simp only[SX,show(S.any λx=>x==l[m])=false from hp,ai];refine .inr ⟨by simp,ao,ao,?_⟩;show R 0=_;rw[h0,<-EY ha,<-ze Jx];unfold uD;rw[List.reverse_append,List.reverse_singleton,List.singleton_append,CL,hp];simp
  ·simp only[SX,show(S.any λx=>x==l[m])=true from hp,ai];refine .inl ⟨ao,ao,by rw[hm2];rfl,h1,?_⟩;rw[hm2,ss Jx];intro c hc;rcases dD.1 hc with h|h
   ·rw[h];exact hp
   ·exact ha c h
 ·rintro R W' ⟨rfl,h0,h1,ha⟩;unfold fy;rw[yl,qJ]at h0;rw[yl,jF]at ha;have e1:¬(0:Int)<(([]:List UInt8).length:Int):=by simp
  simp only[SX,h0,h1,lj Eu,e1,ai];refine⟨by simp,ao,ao,?_⟩;show R 0=_;rw[h0,<-EY (n:=0) (by simpa using ha)];rfl
 ·rintro⟨x,R,W'⟩ ⟨hW,hx,h0⟩;simp only at hW hx h0;subst hW hx;simp only[SX,ai,h0];exact⟨ao,.refl _⟩
def AM{p:UInt8->Bool}:∀{l:List UInt8},l.dropWhile p=[]<->∀c∈l,p c=true
 |[]=>by simp
 |c::l=>by
  rw[CL];cases hp:p c
  ·simp[hp]
  ·simp[hp,AM]
def SK{p:UInt8->Bool}{l:List UInt8}:(((uD p l).dropWhile p)==[])=l.all p:=by
 rw[wO,wq,AM,cw];unfold uD;constructor
 ·intro h;have h2:l.reverse.dropWhile p=[]:=by
   cases hd:l.reverse.dropWhile p with
   |nil=>rfl
   |cons x xs=>have:=List.head_dropWhile_not (p:=p) (l:=l.reverse) (by rw[hd];simp);rw[hd]at h;have h3:=h x (by simp);simp only[hd,List.head_cons]at this;rw[h3]at this;cases this
  rw[AM]at h2;exactλc hc=>h2 c (List.mem_reverse.2 hc)
 ·intro h c hc;exact h c (by have:=List.mem_reverse.1 hc;have:=(List.dropWhile_sublist p).subset this;exact List.mem_reverse.1 this)
def Bu:List Nat:=[97,98,99,100,101,102,103,104,105,106,107,108,109,110,111,112,113,114,115,116,117,118,119,120,121,122,48,49,50,51,52,53,54,55,56,57,45]
def kU:List UInt8:=Bu.map UInt8.ofNat
def Q5:∀n,n<256->NW kU (UInt8.ofNat n)=PK (UInt8.ofNat n):=by decide+kernel
def KN(c:UInt8):NW kU c=PK c:=by have:=Q5 c.toNat c.toNat_lt;rwa [UInt8.ofNat_toNat]at this
def Y0{l:List UInt8}(hl:l.length<1000)(h0:l≠[])(W:AW):bf (.func (.func 148) #[] #[]) [.string (aQ l),Co Bu] W=some (.string (aQ ((uD (NW kU) l).dropWhile (NW kU))),W):=by
 refine aX rfl ?_ Cy;unfold zI;have hs:=Va (l:=kU) (by decide) (by decide+kernel) W;have e1:(l==[])=false:=by simpa using h0
 have e2:(kU==[])=false:=by decide+kernel
 have e3:¬((kU.length:Int)=1):=by decide+kernel
 have hz:(j5 []).length=256:=jN [];have uk:gv 256 (.pointer (some ⟨W.next,0,none⟩)) (.agg (j5 kU).toArray) (W.add (.cells (j5 [])))=some (ak,(W.add (.cells (j5 []))).put W.next (.cells (j5 kU))):=by rw[zq,cC];simp only[bL,sz,jN,aN,aM,LK,lF,ba,fN,qJ,lM];rw[Ih (by simp[jN]),iD]
 have hc:aC ((W.add (.cells (j5 []))).put W.next (.cells (j5 kU))) W.next=some (j5 kU):=p8 _;have hr:=T7 (l:=l) hc hl;have kW:(uD (NW kU) l).length<1000:=by have:=(List.dropWhile_sublist (NW kU) (l:=l.reverse)).length_le;unfold uD;rw[List.length_reverse];rw[List.length_reverse]at this;omega
 have hL:=Ux hc kW;show Ok _ _;rw[yd];change bf (.func (.func 180) #[] #[]) [.string (aQ (Bu.map UInt8.ofNat))] W=_ at hs;simp only[SX,yd,li,sU,e1,lj Eu];simp only[SX,show(Bu.map UInt8.ofNat==[])=false from e2,show¬(((Bu.map UInt8.ofNat).length:Int)=1)from e3,hs,aaf,uk,hr,hL,ai];exact⟨ao,((Le.refl _).add _).put (aM _) _⟩
def rQ(l:List UInt8)(W:AW):bf (.func (.func 116) #[] #[]) [.string (aQ l)] W=some (.bool (B2 l),W):=by
 refine aX rfl ?_ F7;unfold Er;cases l with
 |nil=>simp only[SX,yd,li,sU,BEq.rfl,ai];exact⟨rfl,.refl _⟩
 |cons c l=>
  have e1:(c::l==[])=false:=rfl;have e0:px Tryz.prog 9 (.string (aQ (c::l))) (.af 0) W=some (.int .u8 (c.toNat:Int),W):=by have:=vV (P:=Tryz.prog) (W:=W) (k:=.i64) un9 (l:=c::l) (i:=0) (by simp);simpa using this
  by_cases h1:(16:Int)<(((c::l).length:Nat):Int)
  ·simp only[SX,yd,li,sU,e1,lj Eu,h1,ai];refine⟨?_,.refl _⟩;have:decide ((c::l).length<=16)=false:=by simpa using(by omega:¬((c::l).length<=16))
   simp only[B2,this,ID,uC]
  ·have h16:decide ((c::l).length<=16)=true:=by simpa using(by omega:((c::l).length<=16))
   by_cases h2:(c.toNat:Int)<97
   ·simp only[SX,yd,li,sU,e1,lj Eu,h1,e0,h2,ai];refine⟨?_,.refl _⟩;have:decide (97<=c.toNat)=false:=by simpa using(by omega:¬(97<=c.toNat))
    simp only[B2,this,uC]
   ·by_cases h3:(122:Int)<(c.toNat:Int)
    ·simp only[SX,yd,li,sU,e1,lj Eu,h1,e0,h2,h3,ai];refine⟨?_,.refl _⟩;have:decide (c.toNat<=122)=false:=by simpa using(by omega:¬(c.toNat<=122))
     simp only[B2,this,ID,uC]
    ·have ht:=Y0 (l:=c::l) (by omega) (by simp) W;have hv:(Co [97,98,99,100,101,102,103,104,105,106,107,108,109,110,111,112,113,114,115,116,117,118,119,120,121,122,48,49,50,51,52,53,54,55,56,57,45])=Co Bu:=rfl;rw[hv];simp only[SX,yd [],li,sU,e1,lj Eu,h1,e0,h2,h3,ht,SK,ai];refine⟨?_,.refl _⟩;have i1:decide (97<=c.toNat)=true:=by simpa using(by omega:(97<=c.toNat))
     have i2:decide (c.toNat<=122)=true:=by simpa using(by omega:(c.toNat<=122))
     have i3:NW kU=PK:=funext KN;simp only[B2,i1,i2,i3,h16,np]
structure kh where
 name:List UInt8
 rows:List Int
 q:Int
structure fc where
 sh:Int
 dS:Int
 g9:Int
 aA:List kh
def S9(W:AW)(cs:List ad)(p:Nat)(s:kh):Prop:=cs[p]? =some (.string (aQ s.name))/\cs[p+2]? =some (.af s.q)/\∃rv,cs[p+1]? =some rv/\gg W rv s.rows/\tT rv rv=true/\Eng.one rv=true
abbrev jD(W:AW)(v:ad)(l:List kh):Prop:=Row W 3 (S9 W) v l
def Row.imp{α:Type}{W W':AW}{z:Nat}{f g:List ad->Nat->α->Prop}{v:ad}{l:List α}(h:Row W z f v l)(aS:Le W W')(hfg:∀cs p a,f cs p a->g cs p a):Row W' z g v l:=by
 obtain⟨a,c,rfl,k⟩:=h.mono aS;refine⟨a,c,rfl,?_⟩;rcases k with h|⟨b,o,cs,h1,h2,h3,h4⟩
 ·exact .inl h
 ·exact .inr ⟨b,o,cs,h1,h2,h3,λi hi=>hfg _ _ _ (h4 i hi)⟩
def jD.mono{W W':AW}{v:ad}{l:List kh}(h:jD W v l)(aS:Le W W'):jD W' v l:=
 Row.imp h aS λcs p s ⟨h1,h2,rv,h3,h4,h5⟩=>⟨h1,h2,rv,h3,h4.mono aS,h5⟩
def aap{cs:List ad}{p:Nat}{a b c:ad}(h0:cs[p]? =some a)(h1:cs[p+1]? =some b)(h2:cs[p+2]? =some c):(cs.drop p).take 3=[a,b,c]:=by obtain⟨i0,e0⟩:=cn.1 h0;obtain⟨i1,e1⟩:=cn.1 h1;obtain⟨i2,e2⟩:=cn.1 h2;rw[ss i0,ss i1,ss i2,e0,e1,e2];rfl
abbrev Ei(s:kh)(rv:ad):ad:=.agg #[.string (aQ s.name),rv,.af s.q]
def jD.get{W:AW}{v:ad}{l:List kh}(h:jD W v l){i:Nat}(hi:i<l.length):∃b o rv,(∀W' k,nR 3 v (.int k (i:Int)) W'=some (.pointer (some ⟨b,o,none⟩),W'))/\gg W rv l[i].rows/\
 (∀W',Le W W'->fd 3 (.pointer (some ⟨b,o,none⟩)) W'=some (Ei l[i] rv,W'))/\(∀W',Le W W'->bG (.pointer (some ⟨b,o,none⟩)) W'=some (.string (aQ l[i].name),W'))/\
 (∀W',Le W W'->bG (.pointer (some ⟨b,o+1,none⟩)) W'=some (rv,W'))/\(∀W',Le W W'->bG (.pointer (some ⟨b,o+2,none⟩)) W'=some (.af l[i].q,W')):=by
 obtain⟨b,o,cs,h1,h2,h3,h4,h5,rv,h6,h7,-⟩:=h.elem hi;refine⟨b,o,rv,h1,h7,λW' aS=>?_,λW' aS=>aZ (by rw[aS.aC h2];exact h3) h4,λW' aS=>aZ (by rw[aS.aC h2];exact h3) h6,λW' aS=>aZ (by rw[aS.aC h2];exact h3) h5⟩;rw[In,aS.aC h2,h3];simp only[bL,aap h4 h6 h5,cG,wC,ba]
def wT(s:kh)(nz:List kh):Int:=
 if B2 s.name=false then 6 else if(nz.any λx=>x.name==s.name)=true then 8 else if s.rows.length=0 then 6 else if 16<s.rows.length then 3 else
 if(s.rows.any λn=>pi n 1 64)=true then 7 else if pi s.q 0 64=true then 7 else 0
def m9(l:List kh):Nat->Option (Nat×Int)
 |0=>none
 |k+1=>match m9 l k with
  |some r=>some r
  |none=>match l[k]? with
   |some s=>if wT s (l.take k)=0 then none else some (k,wT s (l.take k))
   |none=>none
def rt{l:List kh}{k n:Nat}{r:Nat×Int}(h:m9 l k=some r)(hn:k<=n):m9 l n=some r:=by
 induction n with
 |zero=>obtain rfl:k=0:=by omega
        exact h
 |succ n ih=>
  by_cases hk:k=n+1
  ·rw[<-hk];exact h
  ·show(match m9 l n with|some r=>some r|none=>_)=_;rw[ih (by omega)]
def ij(l:List Int):Int:=l.foldr (· + ·) 0
def KB(l:List Int)(n:Int):ij (l++[n])=ij l+n:=by
 induction l with
 |nil=>simp[ij]
 |cons a l ih=>simp only[ij,vR,List.foldr_cons]at ih|-;omega
def bO(l:List kh):Int:=ij (l.map λs=>ij s.rows)
def Dg(v:fc):Bool:=pi v.sh 1 16||pi v.dS 1 1000000000||pi v.g9 1 1000000000
def fp(v:fc):Int×Int:=
 if Dg v=true then(-1,7)else if v.aA.length=0 then(-1,6)else if 8<v.aA.length then(-1,3)else
 match m9 v.aA v.aA.length with
 |some (i,e)=>((i:Int),e)
 |none=>if 4096<bO v.aA then(-1,3)else(0,0)
abbrev kP(v:fc)(sv:ad):ad:=.agg #[.af v.sh,.af v.dS,.af v.g9,sv]
def iO(W:AW)(sv:ad)(l:List kh):Prop:=jD W sv l/\(∃a c,sv=.slice a l.length c/\((l.length<=c/\c<dY)\/c=dY+3)/\(l≠[]->∃b o,a=some ⟨b,o,none⟩))
def iO.mono{W W':AW}{v:ad}{l:List kh}(h:iO W v l)(aS:Le W W'):iO W' v l:=⟨h.1.mono aS,h.2⟩
def Row.take{α:Type}{W:AW}{z:Nat}{f:List ad->Nat->α->Prop}{b o c:Nat}{l:List α}(h:Row W z f (.slice (some ⟨b,o,none⟩) l.length c) l){k:Nat}(hk:k<=l.length)(h0:l≠[]):Row W z f (.slice (some ⟨b,o,none⟩) k c) (l.take k):=by
 obtain⟨a,c',he,h⟩:=h;injection he with e1 e2 e3;subst e1 e3;refine⟨_,c,by rw[fu,nZ hk],?_⟩;rcases h with h|⟨b',o',cs,h1,h2,h3,h4⟩
 ·exact absurd h h0
 ·refine .inr ⟨b',o',cs,h1,h2,h3,λi hi=>?_⟩;rw[List.getElem_take];exact h4 i (by rw[fu]at hi;omega)
def ag5:Dt Tryz.prog 22=some 3:=by kernel_rfl
def iO.pre{W:AW}{sv:ad}{l:List kh}(h:iO W sv l){k:Nat}(hk:k<l.length):∃u,(∀W',ft Tryz.prog 22 sv none (some (.af (k:Int))) none W'=some (u,W'))/\jD W u (l.take k):=by
 obtain⟨h1,a,c,rfl,h2,h4⟩:=h;have h0:l≠[]:=by intro e;rw[e]at hk;simp at hk
 obtain⟨b,o,rfl⟩:=h4 h0;rcases h2 with⟨h2,h3⟩|rfl
 ·exact⟨_,λW'=>Sh ag5 (by omega) h3,Row.take h1 (by omega) h0⟩
 ·exact⟨_,λW'=>MB ag5 (by omega) (Nat.le_of_lt hk),Row.take h1 (by omega) h0⟩
def agj(W:AW):cl Tryz.prog 63 W=some (.pointer (some ⟨W.next,0,none⟩),W.add (.cells [.string (aQ []),.slice none 0 0,.af 0])):=aL (by kernel_rfl) rfl
def oi{α:Type}(p:α->Bool)(l:List α):Int:=match l.findIdx? p with
 |some i=>(i:Int)
 |none=> -1
def we{α:Type}{p:α->Bool}{l:List α}{k:Nat}(hk:k<l.length)(h1:p l[k]=true)(h2:(l.take k).any p=false):oi p l=(k:Int):=by
 have:l.findIdx? p=some k:=by rw[List.findIdx?_eq_some_iff_getElem];refine⟨hk,h1,λj hj=>?_⟩;rw[CO]at h2;exact h2 _ (by rw[List.mem_take_iff_getElem];exact⟨j,by omega,rfl⟩)
 unfold oi;rw[this]
def wl{α:Type}{p:α->Bool}{l:List α}(h:l.any p=false):oi p l= -1:=by
 have:l.findIdx? p=none:=by rw[List.findIdx?_eq_none_iff];intro x hx;rw[CO]at h;simpa using h x hx
 unfold oi;rw[this]
def yU{α:Type}{p:α->Bool}{l:List α}{k:Nat}(hk:k<l.length)(h1:p l[k]=false)(h2:(l.take k).any p=false):(l.take (k+1)).any p=false:=by rw[<-ze hk,List.any_append,h2];simpa using h1
def any_some{α:Type}{p:α->Bool}{l:List α}{k:Nat}(hk:k<l.length)(h1:p l[k]=true):l.any p=true:=by rw[vW];exact⟨_,ez hk,h1⟩
def zR{α:Type}{p:α->Bool}{l:List α}:decide (0<=oi p l)=l.any p:=by
 unfold oi;cases h:l.findIdx? p with
 |none=>
  rw[List.findIdx?_eq_none_iff]at h;have:l.any p=false:=by rw[CO];intro x hx;simpa using h x hx
  rw[this];rfl
 |some i=>rw[List.findIdx?_eq_some_iff_getElem]at h;obtain⟨h1,h2,h3⟩:=h;rw[any_some h1 h2];simp
def QY{f v:ad}{p:kh->Bool}{l:List kh}{W:AW}(h:jD W v l)(hl:l.length<1000)(hp:∀s rv,bf f [Ei s rv] W=some (.bool (p s),W)):bf (.func (.func 149) #[] #[]) [v,f] W=some (.af (oi p l),W):=by
 refine aX rfl ?_ fT;unfold dG;simp only[SX,h.len vA];refine bz l.length (by omega) (λk R W'=>W'=W/\R 0=v/\R 1=f/\R 7=.af (l.length:Int)/\R 8=.af (k:Int)/\(l.take k).any p=false)
  (λr=>r.2.2=W/\((r.1=.exit 0/\oi p l= -1)\/(r.1=.ret/\r.2.1 4=.af (oi p l)))) ⟨rfl,rfl,rfl,rfl,rfl,rfl⟩ ?_ ?_ ?_
 ·rintro k R W' hk ⟨rfl,h0,h1,h7,h8,ha⟩;unfold cm;obtain⟨b,o,rv,g1,g2,g3,_⟩:=h.get hk;have e1:((k:Int)<(l.length:Int)):=by omega
  have e2:(k:Int)+1=((k+1:Nat):Int):=by omega
  have ea:=bJ W' k 1;simp only[SX,h0,h1,h7,h8,e1,g1,g3 _ (.refl _),hp];cases hx:p l[k]
  ·simp only[SX,ea,ai];exact .inl ⟨ao,ao,h0,h1,h7,by rw[<-e2];rfl,yU hk hx ha⟩
  ·simp only[SX,ai];exact .inr ⟨by simp,ao,.inr ⟨ao,by rw[we hk hx ha];rfl⟩⟩
 ·rintro R W' ⟨rfl,h0,h1,h7,h8,ha⟩;unfold cm;have e1:¬((l.length:Int)<(l.length:Int)):=by omega
  rw[cY]at ha;simp only[SX,h7,h8,e1,ai];exact⟨by simp,ao,.inl ⟨ao,wl ha⟩⟩
 ·rintro⟨x,R,W'⟩ ⟨hW,hq⟩;simp only at hW hq;subst hW;rcases hq with⟨rfl,hq⟩|⟨rfl,h4⟩
  ·simp only[SX,ai,hq];exact⟨ao,.refl _⟩
  ·simp only[SX,ai,h4];exact⟨ao,.refl _⟩
def Q8{f v:ad}{p:Int->Bool}{l:List Int}{W:AW}(h:gg W v l)(hl:l.length<1000)(hp:∀n∈l,bf f [.af n] W=some (.bool (p n),W)):bf (.func (.func 93) #[] #[]) [v,f] W=some (.af (oi p l),W):=by
 refine aX rfl ?_ pH;unfold lO;simp only[SX,h.len wU];refine bz l.length (by omega) (λk R W'=>W'=W/\R 0=v/\R 1=f/\R 7=.af (l.length:Int)/\R 8=.af (k:Int)/\(l.take k).any p=false)
  (λr=>r.2.2=W/\((r.1=.exit 0/\oi p l= -1)\/(r.1=.ret/\r.2.1 4=.af (oi p l)))) ⟨rfl,rfl,rfl,rfl,rfl,rfl⟩ ?_ ?_ ?_
 ·rintro k R W' hk ⟨rfl,h0,h1,h7,h8,ha⟩;unfold fx;obtain⟨q,g1,g2⟩:=h.get hk;have e1:((k:Int)<(l.length:Int)):=by omega
  have e2:(k:Int)+1=((k+1:Nat):Int):=by omega
  have ea:=bJ W' k 1;simp only[SX,h0,h1,h7,h8,e1,g1,g2 _ (.refl _),hp _ (ez hk)];cases hx:p l[k]
  ·simp only[SX,ea,ai];exact .inl ⟨ao,ao,h0,h1,h7,by rw[<-e2];rfl,yU hk hx ha⟩
  ·simp only[SX,ai];exact .inr ⟨by simp,ao,.inr ⟨ao,by rw[we hk hx ha];rfl⟩⟩
 ·rintro R W' ⟨rfl,h0,h1,h7,h8,ha⟩;unfold fx;have e1:¬((l.length:Int)<(l.length:Int)):=by omega
  rw[cY]at ha;simp only[SX,h7,h8,e1,ai];exact⟨by simp,ao,.inl ⟨ao,wl ha⟩⟩
 ·rintro⟨x,R,W'⟩ ⟨hW,hq⟩;simp only at hW hq;subst hW;rcases hq with⟨rfl,hq⟩|⟨rfl,h4⟩
  ·simp only[SX,ai,hq];exact⟨ao,.refl _⟩
  ·simp only[SX,ai,h4];exact⟨ao,.refl _⟩
def Rs{f v:ad}{p:kh->Bool}{l:List kh}{W:AW}(h:jD W v l)(hl:l.length<1000)(hp:∀s rv,bf f [Ei s rv] W=some (.bool (p s),W)):bf (.func (.func 117) #[] #[]) [v,f] W=some (.bool (l.any p),W):=by refine aX rfl ?_ fw;unfold dy;simp only[SX,QY h hl hp,zR,ai];exact⟨ao,.refl _⟩
def GZ{f v:ad}{p:Int->Bool}{l:List Int}{W:AW}(h:gg W v l)(hl:l.length<1000)(hp:∀n∈l,bf f [.af n] W=some (.bool (p n),W)):bf (.func (.func 54) #[] #[]) [v,f] W=some (.bool (l.any p),W):=by refine aX rfl ?_ nv;unfold jv;simp only[SX,Q8 h hl hp,zR,ai];exact⟨ao,.refl _⟩
def Q1(n:Int)(W:AW):bf (.func (.func 119) #[] #[]) [.af n] W=some (.bool (pi n 1 64),W):=by refine aX rfl ?_ Bv;unfold xj;simp only[SX,mR,ai];exact⟨ao,.refl _⟩
def aos(a b c:ad)(W:AW):nG (.agg #[a,b,c]) W=some (.pointer (some ⟨W.next,0,none⟩),W.add (.cells [a,b,c])):=jf _
def K4{c:Nat}{m:List UInt8}{W:AW}(hc:∀W',Le W W'->bG (.pointer (some ⟨c,0,none⟩)) W'=some (.string (aQ m),W'))(s:kh)(rv:ad):
 bf (.func (.func 118) #[] #[.pointer (some ⟨c,0,none⟩)]) [Ei s rv] W=some (.bool (s.name==m),W):=by
 refine aX rfl ?_ AJ;unfold xu;have h0:=hc _ ((Le.refl W).add (.cells [.string (aQ s.name),rv,.af s.q]));have h1:bG (.pointer (some ⟨W.next,0,none⟩)) (W.add (.cells [.string (aQ s.name),rv,.af s.q]))=some (.string (aQ s.name),W.add (.cells [.string (aQ s.name),rv,.af s.q])):=aZ bU rfl;simp only[SX,h0,h1,aN,sU,ai];exact⟨ao,(Le.refl _).add _⟩
def Sa{s:kh}{rv bv:ad}{nz:List kh}{W:AW}(hs:gg W rv s.rows)(hb:jD W bv nz)(hl:nz.length<1000):bf (.func (.func 91) #[] #[]) [Ei s rv,bv] W=some (.af (wT s nz),W):=by
 refine aX rfl ?_ E5;unfold BS;have aS:Le W (W.add (.cells [.string (aQ s.name),rv,.af s.q])):=(Le.refl W).add _;simp only[SX,aN];generalize hW1:W.add (.cells [.string (aQ s.name),rv,.af s.q])=W1 at *;have pS:aC W1 W.next=some [.string (aQ s.name),rv,.af s.q]:=by rw[<-hW1];exact bU
 have hn:W.next<W1.next:=by rw[<-hW1,AW.ar];omega
 have h0:∀W',Le W1 W'->bG (.pointer (some ⟨W.next,0,none⟩)) W'=some (.string (aQ s.name),W'):=λW' k=>aZ (by rw[k.aC hn];exact pS) rfl
 have h1:bG (.pointer (some ⟨W.next,1,none⟩)) W1=some (rv,W1):=aZ pS rfl;have h2:bG (.pointer (some ⟨W.next,2,none⟩)) W1=some (.af s.q,W1):=aZ pS rfl;have hf:=Rs (W:=W1) (hb.mono aS) hl (p:=λx=>x.name==s.name) (λx rv=>K4 h0 x rv);unfold wT;cases n1:B2 s.name
 ·simp only[SX,h0 _ (.refl _),rQ,n1,ba,ai];exact⟨ao,aS⟩
 ·cases n2:nz.any λx=>x.name==s.name
  ·by_cases n3:s.rows.length=0
   ·have e:((s.rows.length:Int)=0):=by omega
    simp only[SX,h0 _ (.refl _),rQ,n1,hf,n2,h1,(hs.mono aS).len wU,e,aq n3,cV,As,nH,ai];exact⟨ao,aS⟩
   ·have e:¬((s.rows.length:Int)=0):=by omega
    by_cases n4:16<s.rows.length
    ·have e2:((16:Int)<(s.rows.length:Int)):=by omega
     simp only[SX,h0 _ (.refl _),rQ,n1,hf,n2,h1,(hs.mono aS).len wU,e,n3,e2,n4,ba,cV,As,nH,ai];exact⟨ao,aS⟩
    ·have e2:¬((16:Int)<(s.rows.length:Int)):=by omega
     have hg:=GZ (W:=W1) (hs.mono aS) (by omega) (p:=λn=>pi n 1 64) (λn _=>Q1 n W1);cases n5:s.rows.any λn=>pi n 1 64
     ·cases n6:pi s.q 0 64
      ·simp only[SX,h0 _ (.refl _),rQ,n1,hf,n2,h1,(hs.mono aS).len wU,e,n3,e2,n4,hg,n5,h2,mR,n6,cV,As,nH,ai];exact⟨ao,aS⟩
      ·simp only[SX,h0 _ (.refl _),rQ,n1,hf,n2,h1,(hs.mono aS).len wU,e,n3,e2,n4,hg,n5,h2,mR,n6,ba,cV,As,nH,ai];exact⟨ao,aS⟩
     ·simp only[SX,h0 _ (.refl _),rQ,n1,hf,n2,h1,(hs.mono aS).len wU,e,n3,e2,n4,hg,n5,ba,cV,As,nH,ai];exact⟨ao,aS⟩
  ·simp only[SX,h0 _ (.refl _),rQ,n1,hf,n2,ba,cV,As,ai];exact⟨ao,aS⟩
def ahj(a b c d:ad)(W:AW):nG (.agg #[a,b,c,d]) W=some (.pointer (some ⟨W.next,0,none⟩),W.add (.cells [a,b,c,d])):=jf _
def iy(W:AW)(cs ds:List ad):(W.add (.cells cs)).put W.next (.cells ds)=W.add (.cells ds):=jl W _ _
def adw{b:Nat}{a c d x y z:ad}{W:AW}(h:aK W b=some [x,y,z])(h1:Eng.one a=true)(h2:Eng.one c=true)(h3:Eng.one d=true):gv 3 (.pointer (some ⟨b,0,none⟩)) (.agg #[a,c,d]) W=some (ak,W.put b (.cells [a,c,d])):=by
 rw[zq,h];have e:(#[a,c,d]:Array ad).toList.all Eng.one=true:=by simp[h1,h2,h3]
 simp only[bL,e,and_true];rfl
def Row.one{α:Type}{W:AW}{z:Nat}{f:List ad->Nat->α->Prop}{v:ad}{l:List α}(h:Row W z f v l):Eng.one v=true:=by obtain⟨a,c,rfl,_⟩:=h;rfl
def wi{s:kh}{b:List kh}(h:wT s b=0):B2 s.name=true/\(b.any λx=>x.name==s.name)=false/\s.rows.length≠0/\s.rows.length<=16/\(∀n∈s.rows,1<=n/\n<=64)/\0<=s.q/\s.q<=64:=by
 unfold wT at h;split at h
 ·exact absurd h (by decide)
 rename_i h1;split at h
 ·exact absurd h (by decide)
 rename_i h2;split at h
 ·exact absurd h (by decide)
 rename_i h3;split at h
 ·exact absurd h (by decide)
 rename_i h4;split at h
 ·exact absurd h (by decide)
 rename_i h5;split at h
 ·exact absurd h (by decide)
 rename_i h6;refine⟨by simpa using h1,by simpa using h2,h3,by omega,?_,?_⟩
 ·intro n hn;have:pi n 1 64=false:=by
   cases ho:pi n 1 64
   ·rfl
   ·exact absurd (vW.2 ⟨n,hn,ho⟩) h5
  unfold pi at this;simp only[Bool.or_eq_false_iff,decide_eq_false_iff_not]at this;omega
 ·unfold pi at h6;simp only[mJ,decide_eq_true_iff]at h6;omega
def oO{l:List Int}{k:Nat}(hk:k<l.length):ij (l.take (k+1))=ij (l.take k)+l[k]:=by rw[<-ze hk,KB]
def ph{l:List kh}{k:Nat}(hk:k<l.length):bO (l.take (k+1))=bO (l.take k)+ij l[k].rows:=by unfold bO;rw[yH,yH,oO (by rw[gV];exact hk),List.getElem_map]
def sB{l:List Int}(h:∀n∈l,1<=n/\n<=64)(k:Nat):(0<=ij (l.take k)/\ij (l.take k)<=64*k)/\(min k l.length:Int)<=ij (l.take k):=by
 induction k with
 |zero=>simp[ij];omega
 |succ k ih=>
  by_cases hk:k<l.length
  ·rw[oO hk];have:=h _ (ez hk);omega
  ·rw[ve (by omega)]at ih|-;omega
def AT{l:List kh}{k:Nat}(h:m9 l k=none)(hk:k<l.length):m9 l (k+1)=if wT l[k] (l.take k)=0 then none else some (k,wT l[k] (l.take k)):=by show(match m9 l k with|some r=>some r|none=>match l[k]? with|some s=>if wT s (l.take k)=0 then none else some (k,wT s (l.take k))|none=>none)=_;rw[h,bS hk]
def GR{l:List kh}{k:Nat}(h:m9 l k=none):∀i (hi:i<k) (hl:i<l.length),wT l[i] (l.take i)=0:=by
 induction k with
 |zero=>intro i hi;omega
 |succ k ih=>
  have h1:m9 l k=none:=by
   cases hb:m9 l k with
   |none=>rfl
   |some r=>rw[rt hb (Nat.le_succ k)]at h;cases h
  intro i hi hl;by_cases e:i=k
  ·subst e;rw[AT h1 hl]at h;split at h
   ·assumption
   ·cases h
  ·exact ih h1 i (by omega) hl
def KK{l:List kh}{k:Nat}(h:m9 l k=none)(hk:k<=l.length):0<=bO (l.take k)/\bO (l.take k)<=1024*k:=by
 induction k with
 |zero=>simp[bO,ij]
 |succ k ih=>
  have h1:m9 l k=none:=by
   cases hb:m9 l k with
   |none=>rfl
   |some r=>rw[rt hb (Nat.le_succ k)]at h;cases h
  have h2:=ih h1 (by omega);have AO:k<l.length:=by omega
  obtain⟨_,_,_,h3,h4,_⟩:=wi (GR h k (by omega) AO);rw[ph AO];have h5:=(sB h4 l[k].rows.length).1;rw[cY]at h5;omega
def pZ{v:fc}{sv:ad}{W:AW}(hs:iO W sv v.aA)(hv:v.aA.length<1000):bf (.func (.func 50) #[] #[]) [kP v sv] W=some (.tuple #[.af (fp v).1,.af (fp v).2],W):=by
 refine aX rfl ?_ E7;unfold BE;have aS:Le W (W.add (.cells [.af v.sh,.af v.dS,.af v.g9,sv])):=(Le.refl W).add _;have hc:aC (W.add (.cells [.af v.sh,.af v.dS,.af v.g9,sv])) W.next=some [.af v.sh,.af v.dS,.af v.g9,sv]:=bU;have hn:W.next<(W.add (.cells [.af v.sh,.af v.dS,.af v.g9,sv])).next:=by rw[AW.ar];omega
 simp only[SX,aN];generalize hW1:W.add (.cells [.af v.sh,.af v.dS,.af v.g9,sv])=W1 at *;have c0:bG (.pointer (some ⟨W.next,0,none⟩)) W1=some (.af v.sh,W1):=aZ hc rfl;have c1:bG (.pointer (some ⟨W.next,1,none⟩)) W1=some (.af v.dS,W1):=aZ hc rfl;have c2:bG (.pointer (some ⟨W.next,2,none⟩)) W1=some (.af v.g9,W1):=aZ hc rfl;have c3:∀W',Le W1 W'->bG (.pointer (some ⟨W.next,3,none⟩)) W'=some (sv,W'):=λW' k=>aZ (by rw[k.aC hn];exact hc) rfl
 simp only[SX,c0,mR];unfold fp Dg;cases n1:pi v.sh 1 16;case true=>simp only[SX,CR,ba,ai];exact⟨ao,aS⟩
 simp only[SX,c1,tB];cases n2:pi v.dS 1 1000000000;case true=>simp only[SX,CR,Bool.or_true,ba,ai];exact⟨ao,aS⟩
 simp only[SX,c2,tB];cases n3:pi v.g9 1 1000000000;case true=>simp only[SX,Bool.or_true,ba,ai];exact⟨ao,aS⟩
 simp only[SX,c3 _ (.refl _),hs.1.len vA,Bool.or_self,nH,cV];by_cases n4:v.aA.length=0;case pos=>
  have e:((v.aA.length:Int)=0):=by omega
  simp only[SX,e,aq n4,ai];exact⟨ao,aS⟩
 have e4:¬((v.aA.length:Int)=0):=by omega
 simp only[SX,e4,ap n4];by_cases n5:8<v.aA.length;case pos=>
  have e:((8:Int)<(v.aA.length:Int)):=by omega
  simp only[SX,e,aq n5,ai];exact⟨ao,aS⟩
 have e5:¬((8:Int)<(v.aA.length:Int)):=by omega
 simp only[SX,e5,ap n5];refine bz v.aA.length (by omega) (λk R W'=>Le W1 W'/\R 1=.pointer (some ⟨W.next,0,none⟩)/\R 4=.af (bO (v.aA.take k))/\R 35=sv/\R 36=.af (v.aA.length:Int)/\R 37=.af (k:Int)/\m9 v.aA k=none)
  (λr=>Le W1 r.2.2/\((r.1=.exit 1/\r.2.1 4=.af (bO v.aA)/\m9 v.aA v.aA.length=none)\/(r.1=.ret/\∃i e,r.2.1 2=.af ((i:Nat):Int)/\r.2.1 3=.af e/\m9 v.aA v.aA.length=some (i,e)))) ⟨.refl _,rfl,rfl,rfl,rfl,rfl,rfl⟩ ?_ ?_ ?_
 ·rintro k R W' hk ⟨hl,h1,h4,Lc,Ve,VN,hb⟩;unfold pD;obtain⟨b,o,rv,g1,g2,g3,_⟩:=hs.1.get hk;obtain⟨u,u1,u2⟩:=hs.pre hk;have e1:((k:Int)<(v.aA.length:Int)):=by omega
  simp only[SX,Lc,Ve,VN,e1,g1,g3 _ (aS.trans hl),agj,adw cC (pr _) (Row.one g2) (gH _ _),iy];have zS:Le W1 (W'.add (.cells [.string (aQ v.aA[k].name),rv,.af v.aA[k].q])):=hl.add _;have SR:aC (W'.add (.cells [.string (aQ v.aA[k].name),rv,.af v.aA[k].q])) W'.next=some [.string (aQ v.aA[k].name),rv,.af v.aA[k].q]:=bU;generalize ZF:W'.add (.cells [.string (aQ v.aA[k].name),rv,.af v.aA[k].q])=W2 at *;have d3:fd 3 (.pointer (some ⟨W'.next,0,none⟩)) W2=some (Ei v.aA[k] rv,W2):=wm SR rfl;have d1:bG (.pointer (some ⟨W'.next,1,none⟩)) W2=some (rv,W2):=aZ SR rfl;have hlr:=(g2.mono (aS.trans zS)).len (P:=Tryz.prog) wU;simp only[SX,d3,h1,aN,c3 _ zS,u1,Sa (g2.mono (aS.trans zS)) (u2.mono (aS.trans zS)) (by rw[fu];omega)];have hbs:=AT hb hk;by_cases hz:wT v.aA[k] (v.aA.take k)=0
  ·rw[aq hz]at hbs;obtain⟨_,_,_,Xq,M8,_⟩:=wi hz;have Mp:=KK hb (by omega);simp only[SX,hz,d1,hlr];refine bz v.aA[k].rows.length (by omega) (λj R' W3=>W3=W2/\R' 1=.pointer (some ⟨W.next,0,none⟩)/\R' 4=.af (bO (v.aA.take k)+ij (v.aA[k].rows.take j))/\R' 35=sv/\R' 36=.af (v.aA.length:Int)/\R' 37=.af (k:Int)/\R' 53=rv/\R' 54=.af (v.aA[k].rows.length:Int)/\R' 55=.af (j:Int))
    (λr=>r.2.2=W2/\r.1=.exit 3/\r.2.1 1=.pointer (some ⟨W.next,0,none⟩)/\r.2.1 4=.af (bO (v.aA.take (k+1)))/\r.2.1 35=sv/\r.2.1 36=.af (v.aA.length:Int)/\r.2.1 37=.af (k:Int)) ⟨rfl,h1,by rw[qJ,show ij []=0 from rfl,sm];exact h4,Lc,Ve,VN,rfl,rfl,rfl⟩ ?_ ?_ ?_
   ·rintro j R' W3 hj ⟨rfl,h1,h4,Lc,Ve,VN,h53,h54,h55⟩;unfold lA;obtain⟨p,p1,p2⟩:=g2.get hj;have e1:((j:Int)<(v.aA[k].rows.length:Int)):=by omega
    have e2:(j:Int)+1=((j+1:Nat):Int):=by omega
    have ea:=bJ W3 j 1;have hsb:=(sB M8 j).1;have hsn:=M8 _ (ez hj);have eb:=jT W3 (bO (v.aA.take k)+ij (v.aA[k].rows.take j)) (v.aA[k].rows[j]);simp only[SX,h4,h53,h54,h55,e1,p1,p2 _ (aS.trans zS),ea,eb,ai];refine .inl ⟨ao,ao,h1,?_,Lc,Ve,VN,h53,h54,by rw[<-e2];rfl⟩;rw[oO hj,<-Int.add_assoc];rfl
   ·rintro R' W3 ⟨rfl,h1,h4,Lc,Ve,VN,h53,h54,h55⟩;unfold lA;have e1:¬((v.aA[k].rows.length:Int)<(v.aA[k].rows.length:Int)):=by omega
    simp only[SX,h54,h55,e1,ai];refine⟨by simp,ao,ao,h1,?_,Lc,Ve,VN⟩;rw[ph hk];rw[cY]at h4;exact h4
   ·rintro⟨x,R',W3⟩ ⟨hW,rfl,h1,h4,Lc,Ve,VN⟩;simp only at hW h1 h4 Lc Ve VN;subst hW;have e2:(k:Int)+1=((k+1:Nat):Int):=by omega
    have ea:=bJ W3 k 1;simp only[SX,VN,ea,ai];exact .inl ⟨ao,zS,h1,h4,Lc,Ve,by rw[<-e2];rfl,hbs⟩
  ·rw[ap hz]at hbs;simp only[SX,hz,ai];exact .inr ⟨by simp,zS,.inr ⟨ao,k,_,rfl,rfl,rt hbs (by omega)⟩⟩
 ·rintro R W' ⟨hl,h1,h4,Lc,Ve,VN,hb⟩;unfold pD;have e1:¬((v.aA.length:Int)<(v.aA.length:Int)):=by omega
  rw[cY]at h4;simp only[SX,Ve,VN,e1,ai];exact⟨by simp,hl,.inl ⟨ao,h4,hb⟩⟩
 ·rintro⟨x,R,W'⟩ ⟨hl,hq⟩;simp only at hl hq;rcases hq with⟨rfl,h4,hb⟩|⟨rfl,i,e,h2,h3,hb⟩
  ·rw[hb];by_cases n6:4096<bO v.aA
   ·simp only[SX,h4,n6,ba,ai];exact⟨ao,aS.trans hl⟩
   ·simp only[SX,h4,n6,cV,ai];exact⟨ao,aS.trans hl⟩
  ·rw[hb];simp only[SX,h2,h3,ai];exact⟨ao,aS.trans hl⟩
abbrev Plc:=Nat×Nat×Nat
def DH(i k m:Nat):List Plc:=(List.range m).map λj=>(i,k,j)
def L4(i:Nat)(rows:List Int)(k:Nat):List Plc:=(List.range k).flatMap λj=>DH i j (rows.getD j 0).toNat
def JY(l:List kh)(n:Nat):List Plc:=(List.range n).flatMap λi=>match l[i]? with
 |some s=>L4 i s.rows s.rows.length
 |none=>[]
def pu(l:List kh):List Plc:=JY l l.length
def G7(i:Nat)(rows:List Int){k:Nat}(hk:k<rows.length):L4 i rows (k+1)=L4 i rows k++DH i k rows[k].toNat:=by unfold L4;rw[ux,jg,gU,yD,iD,lh,bS hk,nA]
def Gn(l:List kh){n:Nat}(hn:n<l.length):JY l (n+1)=JY l n++L4 n l[n].rows l[n].rows.length:=by unfold JY;rw[ux,jg,gU,yD,iD,bS hn]
structure Good (l:List kh):Prop where
 len:l.length<=8
 rows:∀s∈l,s.rows.length≠0/\s.rows.length<=16/\∀n∈s.rows,1<=n/\n<=64
def Good.of{l:List kh}(h:l.length<=8)(hb:m9 l l.length=none):Good l:=
 ⟨h,λs hs=>by obtain⟨i,hi,rfl⟩:=zb hs;obtain⟨_,_,h3,h4,h5,_⟩:=wi (GR hb i hi hi);exact⟨h3,h4,h5⟩⟩
def Tp(i k m:Nat):(DH i k m).length=m:=by simp[DH]
def LS{i:Nat}{rows:List Int}(h:∀n∈rows,1<=n/\n<=64):∀{k:Nat},k<=rows.length->((L4 i rows k).length:Int)=ij (rows.take k)
 |0,_=>by simp[L4,ij]
 |k+1,hk=>by
  have AO:k<rows.length:=by omega
  rw[G7 i rows AO,cT,Tp,oO AO,<-LS (i:=i) h (by omega:k<=rows.length)];have:=h _ (ez AO);omega
def zC{l:List kh}(h:Good l):∀{n:Nat},n<=l.length->((JY l n).length:Int)=bO (l.take n)/\(JY l n).length<=1024*n
 |0,_=>by simp[JY,bO,ij]
 |n+1,hn=>by
  have Fw:n<l.length:=by omega
  obtain⟨h1,h2,h3⟩:=h.rows _ (ez Fw);have ih:=zC h (by omega:n<=l.length);have hl:=LS (i:=n) h3 (aM _);have hb:=(sB h3 l[n].rows.length).1;rw[cY]at hl hb;rw[Gn l Fw,cT,ph Fw];omega
def MO{l:List kh}(h:Good l):((pu l).length:Int)=bO l:=by have:=(zC h (aM l.length)).1;rwa [cY]at this
def anD(a b c:Int)(W:AW):dX Tryz.prog 177 [(0,.af a),(1,.af b),(2,.af c)] W=some (.agg #[.af a,.af b,.af c],W):=aL (by kernel_rfl) rfl
def df{v:fc}(h:(fp v).2=0):Good v.aA/\Dg v=false/\0<v.aA.length/\m9 v.aA v.aA.length=none/\bO v.aA<=4096/\(fp v).1=0:=by
 unfold fp at h|-;split at h
 ·exact absurd h (by decide)
 rename_i h1;split at h
 ·exact absurd h (by decide)
 rename_i h2;split at h
 ·exact absurd h (by decide)
 rename_i h3;cases hb:m9 v.aA v.aA.length with
 |some r=>
  obtain⟨i,e⟩:=r;rw[hb]at h;simp only at h;subst h;exfalso;have:∀n,m9 v.aA n≠some (i,0):=by
   intro n;induction n with
   |zero=>simp[m9]
   |succ n ih=>
    intro hn;have Fw:(match m9 v.aA n with|some r=>some r|none=>match v.aA[n]? with|some s=>if wT s (v.aA.take n)=0 then none else some (n,wT s (v.aA.take n))|none=>none)=some (i,0):=hn;cases YY:m9 v.aA n with
    |some r=>rw[YY]at Fw;simp only at Fw;rw[Fw]at YY;exact ih YY
    |none=>
     rw[YY]at Fw;simp only at Fw;split at Fw
     ·split at Fw
      ·cases Fw
      ·rename_i hz;injection Fw with Fw;injection Fw with _ e;exact hz e
     ·cases Fw
  exact this _ hb
 |none=>
  rw[hb]at h;simp only at h|-;split at h
  ·exact absurd h (by decide)
  rename_i h4;rw[ap h4,ap h1,ap h2,ap h3];exact⟨Good.of (by omega) hb,by simpa using h1,by omega,ao,by omega,rfl⟩
def vD(v:fc)(sv:ad)(W:AW):∃W1,nG (kP v sv) W=some (.pointer (some ⟨W.next,0,none⟩),W1)/\Le W W1/\W.next<W1.next/\
 (∀W',Le W1 W'->fd 4 (.pointer (some ⟨W.next,0,none⟩)) W'=some (kP v sv,W'))/\(∀W',Le W1 W'->bG (.pointer (some ⟨W.next,0,none⟩)) W'=some (.af v.sh,W'))/\(∀W',Le W1 W'->bG (.pointer (some ⟨W.next,3,none⟩)) W'=some (sv,W')):=by
 have hc:aC (W.add (.cells [.af v.sh,.af v.dS,.af v.g9,sv])) W.next=some [.af v.sh,.af v.dS,.af v.g9,sv]:=bU;have hn:W.next<(W.add (.cells [.af v.sh,.af v.dS,.af v.g9,sv])).next:=by rw[AW.ar];omega
 exact⟨_,ahj _ _ _ _ W,(Le.refl W).add _,hn,λW' k=>wm (by rw[k.aC hn];exact hc) rfl,λW' k=>aZ (by rw[k.aC hn];exact hc) rfl,λW' k=>aZ (by rw[k.aC hn];exact hc) rfl⟩
def dh(v:fc):Int×Int:=if(fp v).2=0 then(bO v.aA,0)else(0,(fp v).2)
structure ir where
 sec:Nat
 row:Nat
 first:Int
 many:Int
abbrev Ge(r:ir):ad:=.agg #[.af (r.sec:Int),.af (r.row:Int),.af r.first,.af r.many]
def qN(l:List kh)(i:Nat)(rows:List Int)(k:Nat):List ir:=(List.range k).map λj=>⟨i,j,bO (l.take i)+ij (rows.take j),rows.getD j 0⟩
def nP(l:List kh)(n:Nat):List ir:=(List.range n).flatMap λi=>match l[i]? with
 |some s=>qN l i s.rows s.rows.length
 |none=>[]
def dQ(l:List kh):List ir:=nP l l.length
def oJ(l:List kh)(i:Nat)(rows:List Int){k:Nat}(hk:k<rows.length):qN l i rows (k+1)=qN l i rows k++[⟨i,k,bO (l.take i)+ij (rows.take k),rows[k]⟩]:=by unfold qN;rw[ux,qI,kg,li,lh,bS hk,nA]
def ko(l:List kh){n:Nat}(hn:n<l.length):nP l (n+1)=nP l n++qN l n l[n].rows l[n].rows.length:=by unfold nP;rw[ux,jg,gU,yD,iD,bS hn]
def Vb{l:List kh}{i:Nat}{rows:List Int}{k n:Nat}(h:k<=n)(hn:n<=rows.length):qN l i rows k<+:qN l i rows n:=by
 induction n with
 |zero=>obtain rfl:k=0:=by omega
        exact List.prefix_refl _
 |succ n ih=>
  by_cases e:k=n+1
  ·subst e;exact List.prefix_refl _
  ·rw[oJ l i rows (by omega)];exact(ih (by omega) (by omega)).trans (C2 _ _)
def Sk{l:List kh}{k n:Nat}(h:k<=n)(hn:n<=l.length):nP l k<+:nP l n:=by
 induction n with
 |zero=>obtain rfl:k=0:=by omega
        exact List.prefix_refl _
 |succ n ih=>
  by_cases e:k=n+1
  ·subst e;exact List.prefix_refl _
  ·rw[ko l (by omega)];exact(ih (by omega) (by omega)).trans (C2 _ _)
def Ww{l:List kh}{i k:Nat}(hi:i<l.length)(hk:k<l[i].rows.length):(nP l i++qN l i l[i].rows k)++[⟨i,k,bO (l.take i)+ij (l[i].rows.take k),l[i].rows[k]⟩]<+:dQ l:=by rw[mA,<-oJ l i _ hk];refine List.IsPrefix.trans ?_ (Sk (k:=i+1) (by omega) (aM _));rw[ko l hi];exact(List.prefix_append_right_inj _).2 (Vb (by omega) (aM _))
def alg(a b c d:Int)(W:AW):dX Tryz.prog 163 [(0,.af a),(1,.af b),(2,.af c),(3,.af d)] W=some (.agg #[.af a,.af b,.af c,.af d],W):=aL (by kernel_rfl) rfl
def Z4{v:fc}{sv f:ad}{bx:Nat}{W0 W:AW}(hs:jD W0 sv v.aA)(hg:Good v.aA)(hb:bG (.pointer (some ⟨bx,3,none⟩)) W=some (sv,W))(I:List ir->AW->Prop)(Q:AW->Prop)
 (hI:I [] W)(hS:∀pre W',I pre W'->Le W0 W')(hA:∀pre W' cs,I pre W'->I pre (W'.add (.cells cs)))
 (step:∀pre r W',pre++[r]<+:dQ v.aA->I pre W'->∃b W2,bf f [Ge r] W'=some (.bool b,W2)/\(b=true->I (pre++[r]) W2)/\(b=false->Q W2)):
 ∃W2,bf (.func (.func 120) #[] #[.pointer (some ⟨bx,0,none⟩)]) [f] W=some (.tuple #[],W2)/\(I (dQ v.aA) W2\/Q W2):=by
 have sX:Ok (sj bf f (.pointer (some ⟨bx,0,none⟩)) W) λr=>r.1=.tuple #[]/\(I (dQ v.aA) r.2\/Q r.2):=by
  unfold sj;have eG:=hg.len;have agP:∀(k:Nat) (W':AW),k<1000000->bs Tryz.prog .add 3 false true (.af (k:Int)) (.af 1) W'=some (.af ((k+1:Nat):Int),W'):=λk W' hk=>oU (by omega) (by omega)
  simp only[SX,aN,hb,hs.len vA];refine bz v.aA.length (by omega) (λi R W'=>R 0=f/\R 3=.af (bO (v.aA.take i))/\R 9=sv/\R 10=.af (v.aA.length:Int)/\R 11=.af (i:Int)/\I (nP v.aA i) W')
   (λr=>(r.1=.exit 0/\I (dQ v.aA) r.2.2)\/(r.1=.ret/\Q r.2.2)) ⟨rfl,rfl,rfl,rfl,rfl,hI⟩ ?_ ?_ ?_
  ·rintro i R W' hi ⟨h0,h3,h9,FF,M3,pb⟩;unfold nE;have e1:((i:Int)<(v.aA.length:Int)):=by omega
   obtain⟨b,o,rv,g1,g2,g3,_⟩:=hs.get hi;obtain⟨r1,r2,r3⟩:=hg.rows _ (ez hi);have Mp:0<=bO (v.aA.take i)/\bO (v.aA.take i)<=1024*i:=by have:=zC hg (by omega:i<=v.aA.length);omega
   have hI2:=hA _ _ [.string (aQ v.aA[i].name),rv,.af v.aA[i].q] pb;have SR:aC (W'.add (.cells [.string (aQ v.aA[i].name),rv,.af v.aA[i].q])) W'.next=some [.string (aQ v.aA[i].name),rv,.af v.aA[i].q]:=bU;simp only[SX,h9,FF,M3,e1,g1,g3 _ (hS _ _ pb),agj,adw cC (pr _) (Row.one g2) (gH _ _),iy,aN];generalize ZF:W'.add (.cells [.string (aQ v.aA[i].name),rv,.af v.aA[i].q])=W2 at *;have d1:bG (.pointer (some ⟨W'.next,1,none⟩)) W2=some (rv,W2):=aZ SR rfl;simp only[SX,d1,g2.len wU];refine bz v.aA[i].rows.length (by omega) (λk R W'=>R 0=f/\R 3=.af (bO (v.aA.take i)+ij (v.aA[i].rows.take k))/\R 4=.af (i:Int)/\R 9=sv/\R 10=.af (v.aA.length:Int)/\R 11=.af (i:Int)/\R 17=rv/\R 18=.af (v.aA[i].rows.length:Int)/\R 19=.af (k:Int)/\I (nP v.aA i++qN v.aA i v.aA[i].rows k) W')
    (λr=>(r.1=.exit 2/\r.2.1 0=f/\r.2.1 3=.af (bO (v.aA.take (i+1)))/\r.2.1 9=sv/\r.2.1 10=.af (v.aA.length:Int)/\r.2.1 11=.af (i:Int)/\I (nP v.aA (i+1)) r.2.2)\/(r.1=.ret/\Q r.2.2))
    ⟨h0,by rw[qJ,show ij []=0 from rfl,sm];exact h3,rfl,h9,FF,M3,rfl,rfl,rfl,by rw[show qN v.aA i v.aA[i].rows 0=[]from rfl,iD];exact hI2⟩ ?_ ?_ ?_
   ·rintro k R W' hk ⟨h0,h3,h4,h9,FF,M3,h17,h18,h19,pb⟩;unfold ka;have e1:((k:Int)<(v.aA[i].rows.length:Int)):=by omega
    obtain⟨p,p1,p2⟩:=g2.get hk;obtain⟨c,W3,s1,s2,s3⟩:=step _ ⟨i,k,bO (v.aA.take i)+ij (v.aA[i].rows.take k),v.aA[i].rows[k]⟩ W' (Ww hi hk) pb;have hsb:=(sB r3 k).1;have hsn:=r3 _ (ez hk);have eb:=jT W3 (bO (v.aA.take i)+ij (v.aA[i].rows.take k)) (v.aA[i].rows[k]);simp only[SX,h0,h3,h4,h17,h18,h19,e1,p1,p2 _ (hS _ _ pb),alg,s1];cases c
    ·simp only[SX,ai];exact .inr ⟨by simp,.inr ⟨ao,s3 rfl⟩⟩
    ·simp only[SX,eb,agP k _ (by omega),ai];refine .inl ⟨ao,h0,?_,h4,h9,FF,M3,h17,h18,rfl,?_⟩
     ·rw[oO hk,<-Int.add_assoc];rfl
     ·rw[oJ _ _ _ hk,<-mA];exact s2 rfl
   ·rintro R W' ⟨h0,h3,h4,h9,FF,M3,h17,h18,h19,pb⟩;unfold ka;have e1:¬((v.aA[i].rows.length:Int)<(v.aA[i].rows.length:Int)):=by omega
    simp only[SX,h18,h19,e1,ai];refine⟨by simp,.inl ⟨ao,h0,?_,h9,FF,M3,?_⟩⟩
    ·rw[ph hi];rw[cY]at h3;exact h3
    ·rw[ko _ hi];exact pb
   ·rintro⟨x,R,W'⟩ hq;rcases hq with⟨rfl,h0,h3,h9,FF,M3,pb⟩|⟨rfl,hq⟩
    ·simp only at h0 h3 h9 FF M3 pb;simp only[SX,M3,agP i _ (by omega),ai];exact .inl ⟨ao,h0,h3,h9,FF,rfl,pb⟩
    ·simp only[SX,ai];exact .inr ⟨by simp,.inr ⟨ao,hq⟩⟩
  ·rintro R W' ⟨h0,h3,h9,FF,M3,pb⟩;unfold nE;have e1:¬((v.aA.length:Int)<(v.aA.length:Int)):=by omega
   simp only[SX,FF,M3,e1,ai];exact⟨by simp,.inl ⟨ao,pb⟩⟩
  ·rintro⟨x,R,W'⟩ hq;rcases hq with⟨rfl,pb⟩|⟨rfl,hq⟩
   ·simp only[SX,ai];exact⟨ao,.inl pb⟩
   ·simp only[SX,ai];exact⟨ao,.inr hq⟩
 obtain⟨⟨r,W'⟩,h1,h2,h3⟩:=sX;simp only at h2 h3;subst h2;exact⟨W',by rw[Cx h1,pC rfl],h3⟩
def Hr{v:fc}{sv:ad}(W:AW):∃W1,bf (.func (.func 94) #[] #[]) [kP v sv] W=some (.func (.func 120) #[] #[.pointer (some ⟨W.next,0,none⟩)],W1)/\Le W W1/\W.next<W1.next/\(∀W',Le W1 W'->bG (.pointer (some ⟨W.next,3,none⟩)) W'=some (sv,W')):=by
 obtain⟨W1,hB,aS,hn,c4,c0,c3⟩:=vD v sv W;refine⟨W1,?_,aS,hn,c3⟩;have:xK bf (kP v sv) W=some (.func (.func 120) #[] #[.pointer (some ⟨W.next,0,none⟩)],W1):=by unfold xK;simp only[SX,hB]
 rw[FC this,pC rfl]
def On{v:fc}{sv:ad}{W0 W:AW}{bx nt:Nat}{R:Nat->ad}{ps:Array Tmp}{ac bd:Code}(hs:jD W0 sv v.aA)(hg:Good v.aA)
 (hb:bG (.pointer (some ⟨bx,3,none⟩)) (W.add (.loop .ready none R nt ps ac bd))=some (sv,W.add (.loop .ready none R nt ps ac bd)))(hp:ps.size=1)
 (J:List ir->AW->Prop)(Q:X->AW->Prop)(h0:J [] (W.add (.loop .ready none R nt ps ac bd)))
 (hS:∀pre W',J pre W'->Le W0 W')(hA:∀pre W' cs,J pre W'->W.next<W'.next->J pre (W'.add (.cells cs)))(hP:∀pre W' o,J pre W'->J pre (W'.put W.next o))(hQ:∀x W' o,Q x W'->Q x (W'.put W.next o))
 (d:Nat)(has:∀r W' R',R'=kD ps.toList [Ge r] R->eH Tryz.prog bf false nt ac LT R' W' ke=some (.normal,fM R' (some d) (.pointer (some ⟨W'.next,0,none⟩)),W'.add (.cells [.af (r.sec:Int),.af (r.row:Int),.af r.first,.af r.many])))
 (step:∀pre r W' b R',R'=fM (kD ps.toList [Ge r] R) (some d) (.pointer (some ⟨b,0,none⟩))->pre++[r]<+:dQ v.aA->J pre W'->W.next<W'.next->aK W' b=some [.af (r.sec:Int),.af (r.row:Int),.af r.first,.af r.many]->W.next<b->b<W'.next->
   Ok (eH Tryz.prog bf false nt bd LT R' W' ke) λq=>W'.next<=q.2.2.next/\q.2.2.get W.next=W'.get W.next/\((q.1=.normal/\J (pre++[r]) q.2.2)\/(q.1≠ .normal/\Q q.1 q.2.2))):
 ∃x W2,i8 bf (.func (.func 120) #[] #[.pointer (some ⟨bx,0,none⟩)]) (.loop .ready none R nt ps ac bd) W=some (x,W2.kill W.next)/\((x=.normal/\J (dQ v.aA) W2)\/(x≠ .normal/\Q x W2)):=by
 obtain⟨W2,h1,h2⟩:=Z4 (f:=.func (.yield W.next) #[] #[]) (W:=W.add (.loop .ready none R nt ps ac bd)) hs hg hb
  (λpre W'=>J pre W'/\W.next<W'.next/\W'.get W.next=some (.loop .ready none R nt ps ac bd))
  (λW'=>∃x,x≠ .normal/\Q x W'/\W'.get W.next=some (.loop .done x.jump R nt ps ac bd))
  ⟨h0,by rw[AW.ar];omega,AW.aH _ _⟩ (λpre W' h=>hS _ _ h.1)
  (λpre W' cs h=>⟨hA _ _ _ h.1 h.2.1,by rw[AW.ar];omega,by rw[AW.aD _ _ (by omega)];exact h.2.2⟩)
  (λpre r W' lI ⟨hJ,kW,di⟩=>by
    have hJ2:=hP _ _ (.loop .busy none R nt ps ac bd) (hA _ _ [.af (r.sec:Int),.af (r.row:Int),.af r.first,.af r.many] hJ kW);obtain⟨⟨x,R2,W3⟩,k1,k2,k3,k4⟩:=step pre r _ W'.next _ rfl lI hJ2 (by rw[AW.bh,AW.ar];omega) (by rw[bB _ (by omega)];exact cC) kW (by rw[AW.bh,AW.ar];omega);simp only at k1 k2 k3 k4;rw[AW.aW]at k3;have hy:=Bp (P:=Tryz.prog) (args:=[Ge r]) di (by rw[hp];rfl) (has r W' _ rfl) (by rw[AW.aD _ _ (by omega)];exact di) k1 k3;have hn3:W.next<W3.next:=by rw[AW.bh,AW.ar]at k2;omega
    rcases k4 with⟨rfl,k4⟩|⟨kx,k4⟩
    ·exact⟨true,_,hy,λ_=>⟨hP _ _ _ k4,by rw[AW.bh];exact hn3,AW.aW _ _ _⟩,λh=>by cases h⟩
    ·refine⟨false,W3.put W.next (.loop .done x.jump R nt ps ac bd),?_,λh=>by(cases h),λ_=>⟨x,kx,hQ _ _ _ k4,AW.aW _ _ _⟩⟩;refine hy.trans ?_;cases x with
     |normal=>exact absurd rfl kx
     |exit i=>rfl
     |ret=>rfl)
 rcases h2 with⟨h2,h3,h4⟩|⟨x,h2,h3,h4⟩
 ·exact⟨.normal,W2,rS h1 h4 (by simp),.inl ⟨rfl,h2⟩⟩
 ·exact⟨x,W2,Fq h1 h4,.inr ⟨h2,h3⟩⟩
def Hx{v:fc}{sv:ad}{W0 W:AW}{bx nt:Nat}{R:Nat->ad}{ps:Array Tmp}{ac bd:Code}{ρ:Type}{K:X×AW->Option ρ}{G:ρ->Prop}(hs:jD W0 sv v.aA)(hg:Good v.aA)
 (hb:bG (.pointer (some ⟨bx,3,none⟩)) (W.add (.loop .ready none R nt ps ac bd))=some (sv,W.add (.loop .ready none R nt ps ac bd)))(hp:ps.size=1)
 (J:List ir->AW->Prop)(Q:X->AW->Prop)(h0:J [] (W.add (.loop .ready none R nt ps ac bd)))
 (hS:∀pre W',J pre W'->Le W0 W')(hA:∀pre W' cs,J pre W'->W.next<W'.next->J pre (W'.add (.cells cs)))(hP:∀pre W' o,J pre W'->J pre (W'.put W.next o))(hQ:∀x W' o,Q x W'->Q x (W'.put W.next o))
 (d:Nat)(has:∀r W' R',R'=kD ps.toList [Ge r] R->eH Tryz.prog bf false nt ac LT R' W' ke=some (.normal,fM R' (some d) (.pointer (some ⟨W'.next,0,none⟩)),W'.add (.cells [.af (r.sec:Int),.af (r.row:Int),.af r.first,.af r.many])))
 (step:∀pre r W' b R',R'=fM (kD ps.toList [Ge r] R) (some d) (.pointer (some ⟨b,0,none⟩))->pre++[r]<+:dQ v.aA->J pre W'->W.next<W'.next->aK W' b=some [.af (r.sec:Int),.af (r.row:Int),.af r.first,.af r.many]->W.next<b->b<W'.next->
   Ok (eH Tryz.prog bf false nt bd LT R' W' ke) λq=>W'.next<=q.2.2.next/\q.2.2.get W.next=W'.get W.next/\((q.1=.normal/\J (pre++[r]) q.2.2)\/(q.1≠ .normal/\Q q.1 q.2.2)))
 (after:∀x W2,(x=.normal/\J (dQ v.aA) W2)\/(x≠ .normal/\Q x W2)->Ok (K (x,W2.kill W.next)) G):
 Ok (dN (i8 bf (.func (.func 120) #[] #[.pointer (some ⟨bx,0,none⟩)]) (.loop .ready none R nt ps ac bd) W) K) G:=by
 obtain⟨x,W2,h1,h2⟩:=On hs hg hb hp J Q h0 hS hA hP hQ d has step;rw[h1,Ai];exact after x W2 h2
def am2(p:Tmp)(v:ad)(R:Nat->ad):kD (#[p]:Array Tmp).toList [v] R=fM R (some p) v:=rfl
def dg(l:List ir):Int:=ij (l.map (·.many))
def kv:Int->List ir->Prop
 |_,[]=>True
 |s,r::l=>r.first=s/\kv (s+r.many) l
def kA:dg []=0:=rfl
def dW(r:ir)(l:List ir):dg (r::l)=r.many+dg l:=rfl
def lK(a b:List ir):dg (a++b)=dg a+dg b:=by
 induction a with
 |nil=>simp[kA]
 |cons r a ih=>rw[vR,dW,dW,ih];omega
def kv.append:∀{a b:List ir} {s:Int},kv s a->kv (s+dg a) b->kv s (a++b)
 |[],_,s,_,h=>by rw[kA,sm]at h;exact h
 |r::a,b,s,⟨h1,h2⟩,h=>⟨h1,kv.append h2 (by rw[dW,<-Int.add_assoc]at h;exact h)⟩
def kv.at:∀{a b:List ir} {r:ir} {s:Int},kv s (a++r::b)->r.first=s+dg a
 |[],_,_,s,⟨h,_⟩=>by rw[h,kA,sm]
 |x::a,b,r,s,⟨_,h⟩=>by rw[kv.at h,dW,Int.add_assoc]
def zp(l:List kh)(i:Nat)(rows:List Int):∀{k:Nat},k<=rows.length->dg (qN l i rows k)=ij (rows.take k)
 |0,_=>rfl
 |k+1,hk=>by rw[oJ l i rows (by omega),lK,zp l i rows (by omega),oO (by omega),dW,kA,sm]
def BB(l:List kh)(i:Nat)(rows:List Int):∀{k:Nat},k<=rows.length->kv (bO (l.take i)) (qN l i rows k)
 |0,_=>trivial
 |k+1,hk=>by rw[oJ l i rows (by omega)];exact(BB l i rows (by omega)).append ⟨by rw[zp l i rows (by omega)],ao⟩
def A5(l:List kh):∀{n:Nat},n<=l.length->dg (nP l n)=bO (l.take n)
 |0,_=>rfl
 |n+1,hn=>by rw[ko l (by omega),lK,A5 l (by omega),zp l n _ (aM _),ph (by omega),cY]
def yw(l:List kh):∀{n:Nat},n<=l.length->kv 0 (nP l n)
 |0,_=>trivial
 |n+1,hn=>by rw[ko l (by omega)];refine(yw l (by omega)).append ?_;rw[A5 l (by omega),Int.zero_add];exact BB l n _ (aM _)
def Ak(l:List kh):dg (dQ l)=bO l:=by have:=A5 l (aM l.length);rwa [cY]at this
def vS(l:List kh):kv 0 (dQ l):=yw l (aM _)
def JP(l:List kh)(r:ir):Prop:=∃(hi:r.sec<l.length) (hk:r.row<l[r.sec].rows.length),r.many=l[r.sec].rows[r.row]
def rH{l:List kh}{r:ir}(h:r∈dQ l):JP l r:=by unfold dQ nP at h;obtain⟨i,hi,h⟩:=List.mem_flatMap.1 h;rw[nF]at hi;rw[bS hi]at h;unfold qN at h;obtain⟨k,hk,rfl⟩:=mE.1 h;rw[nF]at hk;exact⟨hi,hk,by simp[lh,bS hk]⟩
def JP.many{l:List kh}{r:ir}(h:JP l r)(hg:Good l):1<=r.many/\r.many<=64/\r.sec<8/\r.row<16:=by obtain⟨hi,hk,hm⟩:=h;obtain⟨_,h2,h3⟩:=hg.rows _ (ez hi);have:=h3 _ (ez hk);have:=hg.len;omega
def wN{l:List ir}(h:∀r∈l,1<=r.many):(l.length:Int)<=dg l:=by
 induction l with
 |nil=>simp[kA]
 |cons r l ih=>
  have h1:=h r (by simp);have h2:=ih λx hx=>h x (by simp[hx])
  rw[dW,cG];omega
def GL{a l:List ir}(h:a<+:l)(hm:∀r∈l,1<=r.many):0<=dg a/\dg a<=dg l:=by
 obtain⟨b,rfl⟩:=h;have h1:=wN (l:=a) λr hr=>hm r (by simp[hr])
 have h2:=wN (l:=b) λr hr=>hm r (by simp[hr])
 rw[lK];omega
def G4{l:List kh}(hg:Good l):0<=bO l/\bO l<=8192:=by have h:=(zC hg (aM l.length));rw[cY]at h;have:=hg.len;omega
def y9{l:List kh}(hg:Good l){pre:List ir}{r:ir}(h:pre++[r]<+:dQ l):JP l r/\r.first=dg pre/\0<=dg pre/\dg (pre++[r])<=8192/\1<=r.many/\r.many<=64/\dg (pre++[r])=dg pre+r.many:=by
 have hm:∀r∈dQ l,1<=r.many:=λr hr=>((rH hr).many hg).1
 have hr:r∈dQ l:=h.subset (by simp);have h1:=GL h hm;have h2:=GL ((C2 pre [r]).trans h) hm;rw[Ak]at h1;obtain⟨b,hb⟩:=h;have hf:=vS l;rw[<-hb,mA]at hf;have:=kv.at hf;have hx:=(rH hr).many hg;have:=G4 hg;refine⟨rH hr,by omega,by omega,by omega,by omega,by omega,?_⟩;rw[lK,dW,kA,sm]
def GY(l:List kh)(i:Nat)(rows:List Int):∀{k:Nat},k<=rows.length->L4 i rows k=(qN l i rows k).flatMap λr=>DH r.sec r.row r.many.toNat
 |0,_=>rfl
 |k+1,hk=>by rw[G7 i rows (by omega),oJ l i rows (by omega),jg,<-GY l i rows (by omega),gU,yD,iD]
def BA(l:List kh):pu l=(dQ l).flatMap λr=>DH r.sec r.row r.many.toNat:=by
 have:∀n,n<=l.length->JY l n=(nP l n).flatMap λr=>DH r.sec r.row r.many.toNat:=by
  intro n;induction n with
  |zero=>intro _;rfl
  |succ n ih=>intro hn;rw[Gn l (by omega),ko l (by omega),jg,<-ih (by omega),<-GY l n _ (aM _)]
 exact this _ (aM _)
def oL3(x:ad)(W:AW):fR Tryz.prog 3 x W=bG x W:=by kernel_rfl
def abO(x:ad)(W:AW):fR Tryz.prog 35 x W=bG x W:=by kernel_rfl
def acC(x:ad)(W:AW):fR Tryz.prog 163 x W=fd 4 x W:=by kernel_rfl
def al3(W:AW):cl Tryz.prog 3 W=some (.pointer (some ⟨W.next,0,none⟩),W.add (.cells [.af 0])):=aL (by kernel_rfl) rfl
def amp(W:AW):cl Tryz.prog 35 W=some (.pointer (some ⟨W.next,0,none⟩),W.add (.cells [.af 0])):=aL (by kernel_rfl) rfl
def Zh(W:AW):cl Tryz.prog 163 W=some (.pointer (some ⟨W.next,0,none⟩),W.add (.cells [.af 0,.af 0,.af 0,.af 0])):=aL (by kernel_rfl) rfl
def aaQ(W:AW):dX Tryz.prog 163 [] W=some (.agg #[.af 0,.af 0,.af 0,.af 0],W):=aL (by kernel_rfl) rfl
def agA{b:Nat}{a c d e x y z u:ad}{W:AW}(h:aK W b=some [x,y,z,u])(h1:Eng.one a=true)(h2:Eng.one c=true)(h3:Eng.one d=true)(h4:Eng.one e=true):gv 4 (.pointer (some ⟨b,0,none⟩)) (.agg #[a,c,d,e]) W=some (ak,W.put b (.cells [a,c,d,e])):=by rw[Na,h,bL];have hc:(Value.agg #[a,c,d,e]).cells=#[a,c,d,e]:=Qc _;rw[hc,aq ⟨rfl,by simp,by simp[h1,h2,h3,h4]⟩];rfl
def N2{b:Nat}{x:ad}{n:Int}{W:AW}(h:aK W b=some [x]):gv 1 (.pointer (some ⟨b,0,none⟩)) (.af n) W=some (ak,W.put b (.cells [.af n])):=by rw[zl,h];rfl
def FU{b:Nat}{x:ad}{W:AW}(h:aK W b=some [x]):bG (.pointer (some ⟨b,0,none⟩)) W=some (x,W):=aZ (iq h) rfl
def DA{b o:Nat}{cs:List ad}{x:ad}{W:AW}(h:aK W b=some cs)(hv:cs[o]? =some x):bG (.pointer (some ⟨b,o,none⟩)) W=some (x,W):=aZ (iq h) hv
def Fp{v:fc}{sv:ad}{W:AW}(hs:iO W sv v.aA)(hv:v.aA.length<1000):bf (.func (.func 55) #[] #[]) [kP v sv] W=some (.tuple #[.af (dh v).1,.af (dh v).2],W):=by
 refine aX rfl ?_ Ft;unfold BJ dh;obtain⟨W1,hB,aS,hn,c4,c0,c3⟩:=vD v sv W;have l2:Le W1 (W1.add (.cells [.af 0])):=(Le.refl W1).add _;have hr:aK (W1.add (.cells [.af 0])) W1.next=some [.af 0]:=cC;have hn2:W1.next<(W1.add (.cells [.af 0])).next:=by rw[AW.ar];omega
 simp only[SX,hB,al3];generalize W1.add (.cells [.af 0])=W2 at *;simp only[SX,c4 _ l2,pZ (hs.mono (aS.trans l2)) hv];by_cases he:(fp v).2=0;case neg=>simp only[SX,he,cV,N2 hr,cr,oL3,FU (bT _),bL,ai];exact⟨ao,(aS.trans l2).put (by have:=aS.next;omega) _⟩
 obtain⟨hg,-⟩:=df he;obtain⟨W3,q1,q2,q3,q4⟩:=Hr (v:=v) (sv:=sv) W2;have l3:W1.next<W3.next:=by have:=q2.next;omega
 simp only[SX,be he,q1,aq he];refine Hx (hs.mono aS).1 hg (q4 _ ((Le.refl _).add _)) rfl (λpre W'=>Le W1 W'/\aK W' W1.next=some [.af (dg pre)]) (λ_ _=>False) ⟨(l2.trans q2).add _,by rw[eC _ l3,q2.aK hn2];exact hr⟩ (λ_ _ h=>h.1)
  (λpre W' cs h hl=>⟨h.1.add _,by rw[eC _ (by omega)];exact h.2⟩) (λpre W' o h=>⟨h.1.put (by omega) _,by rw[bB _ (by omega)];exact h.2⟩) (λ_ _ _ h=>h) 6 ?_ ?_ ?_
 ·intro r W' R' hR;have T3:R' 17=Ge r:=by rw[hR];rfl
  rw[xY];unfold tw;simp only[SX,Zh,T3,agA cC (gH _ _) (gH _ _) (gH _ _) (gH _ _),iy];rfl
 ·intro pre r W' b R' hR lI ⟨h1,h2⟩ hl hb Nx nD;have r2:R' 2=.pointer (some ⟨W1.next,0,none⟩):=by rw[hR];rfl
  have r6:R' 6=.pointer (some ⟨b,0,none⟩):=by rw[hR];rfl
  clear hR;rw[xU];unfold tC;obtain⟨k1,k2,k3,k4,k5,k6,k7⟩:=y9 hg lI;have ea:=jT W' (dg pre) r.many;simp only[SX,r2,r6,FU h2,DA (o:=3) hb rfl,ea,N2 h2,aN,ai];exact⟨by rw[AW.bh];omega,by rw[AW.ay _ _ (by omega)],.inl ⟨ao,h1.put (aM _) _,by rw[k7];exact bT _⟩⟩
 ·rintro x W4 (⟨rfl,h1,h2⟩|⟨_,h⟩);case inr=>exact h.elim
  have h3:aK (W4.kill W3.next) W1.next=some [.af (dg (dQ v.aA))]:=by rw[<-h2];unfold aK;rw[AW.cE _ (by omega)]
  simp only[SX,FU h3,N2 h3,cr,oL3,FU (bT _),bL,Ak,ai];exact⟨ao,(aS.trans (h1.kill (by omega))).put (by have:=aS.next;omega) _⟩
abbrev VH(r:ir):List ad:=[.af (r.sec:Int),.af (r.row:Int),.af r.first,.af r.many]
def SY{α:Type}{p:α->Bool}{pre l:List α}{r:α}(h:pre++[r]<+:l)(h0:∀x∈pre,p x=false)(h1:p r=true):l.find? p=some r:=by obtain⟨b,rfl⟩:=h;rw[mA,List.find?_append,List.find?_eq_none.2 (λx hx=>by simp[h0 x hx]),vR,List.find?_cons_of_pos h1];rfl
def X2{α:Type}{p:α->Bool}{l:List α}(h0:∀x∈l,p x=false):l.find? p=none:=List.find?_eq_none.2 (λx hx=>by simp[h0 x hx])
def Kr{α:Type}{p:α->Bool}{pre:List α}{r:α}(h0:∀x∈pre,p x=false)(h1:p r=false):∀x∈pre++[r],p x=false:=by
 intro x hx;rcases py.1 hx with h|h
 ·exact h0 x h
 ·rw[nL.1 h];exact h1
def ahG(n:Int)(W:AW):∃W1,nG (.af n) W=some (.pointer (some ⟨W.next,0,none⟩),W1)/\W1.next=W.next+1/\Le W W1/\aK W1 W.next=some [.af n]:=
 ⟨_,LU _ _,AW.ar _ _,(Le.refl W).add _,cC⟩
def ahU(W:AW):∃W1,cl Tryz.prog 3 W=some (.pointer (some ⟨W.next,0,none⟩),W1)/\W1.next=W.next+1/\Le W W1/\aK W1 W.next=some [.af 0]:=⟨_,al3 W,AW.ar _ _,(Le.refl W).add _,cC⟩
def afM(W:AW):∃W1,cl Tryz.prog 35 W=some (.pointer (some ⟨W.next,0,none⟩),W1)/\W1.next=W.next+1/\Le W W1/\aK W1 W.next=some [.af 0]:=⟨_,amp W,AW.ar _ _,(Le.refl W).add _,cC⟩
def aar(W:AW):∃W1,cl Tryz.prog 163 W=some (.pointer (some ⟨W.next,0,none⟩),W1)/\W1.next=W.next+1/\Le W W1/\aK W1 W.next=some [.af 0,.af 0,.af 0,.af 0]:=⟨_,Zh W,AW.ar _ _,(Le.refl W).add _,cC⟩
def ws{W:AW}{b c:Nat}(h:b≠c):aK (W.kill b) c=aK W c:=by unfold aK;rw[W.cE h]
def ld4{b:Nat}{x y z u:ad}{W:AW}(h:aK W b=some [x,y,z,u]):fd 4 (.pointer (some ⟨b,0,none⟩)) W=some (.agg #[x,y,z,u],W):=wm (iq h) rfl
def G3{b:Nat}{a c d e:Int}{x y z u:ad}{W:AW}(h:aK W b=some [x,y,z,u]):gv 4 (.pointer (some ⟨b,0,none⟩)) (.agg #[.af a,.af c,.af d,.af e]) W=some (ak,W.put b (.cells [.af a,.af c,.af d,.af e])):=agA h rfl rfl rfl rfl
def tz(bF:Int)(r:ir):Bool:=decide (r.first<=bF)&&decide (bF<r.first+r.many)
abbrev zs:List ad:=[.af 0,.af 0,.af 0,.af 0]
abbrev aiX:ir:=⟨0,0,0,0⟩
def jx(v:fc)(bF:Int):ir×Int:=if(fp v).2=0 then(match(dQ v.aA).find? (tz bF)with
 |some r=>(r,0)
 |none=>(aiX,4))else(aiX,(fp v).2)
def YG{v:fc}{sv:ad}{W:AW}{bF:Int}(hs:iO W sv v.aA)(hv:v.aA.length<1000):bf (.func (.func 215) #[] #[]) [kP v sv,.af bF] W=some (.tuple #[Ge (jx v bF).1,.af (jx v bF).2],W):=by
 refine aX rfl ?_ Gh;unfold DB jx;obtain⟨W1,hB,aS,hn,c4,c0,c3⟩:=vD v sv W;obtain⟨W2,b2,n2,l2,r2⟩:=ahG bF W1;obtain⟨W3,b3,n3,l3,r3⟩:=aar W2;obtain⟨W4,b4,n4,l4,r4⟩:=afM W3;have TP:aK W4 W2.next=some [.af 0,.af 0,.af 0,.af 0]:=by rw[l4.aK (by omega)];exact r3
 have RY:=l3.trans l4;have TS:=aS.trans l2;have hsn:=aS.next;simp only[SX,hB,b2,b3,b4,c4 _ (l2.trans RY),pZ (hs.mono (TS.trans RY)) hv];by_cases he:(fp v).2=0;case neg=>
  have p1:aK (W4.put W2.next (.cells (zs))) W3.next=some [.af 0]:=by rw[bB _ (by omega)];exact r4
  have p2:∀x,aK ((W4.put W2.next (.cells (zs))).put W3.next x) W2.next=some (zs):=λx=>by rw[bB _ (by omega)];exact bT _
  simp only[SX,he,cV,aaQ,G3 TP,N2 p1,yu,acC,abO,ld4 (p2 _),FU (bT _),bL,ai];exact⟨rfl,((TS.trans RY).put (by omega) _).put (by omega) _⟩
 obtain⟨hg,-⟩:=df he;obtain⟨W5,q1,q2,q3,q4⟩:=Hr (v:=v) (sv:=sv) W4;have hn5:=q2.next;simp only[SX,be he,q1,aq he];refine Hx (hs.mono TS).1 hg (q4 _ ((Le.refl _).add _)) rfl (λpre W'=>Le W2 W'/\aK W' W2.next=some (zs)/\aK W' W3.next=some [.af 0]/\∀r∈pre,tz bF r=false)
  (λx W'=>x=.ret/\Le W2 W'/\∃r,(dQ v.aA).find? (tz bF)=some r/\aK W' W2.next=some (VH r)/\aK W' W3.next=some [.af 0])
  ⟨(RY.trans q2).add _,by rw[eC _ (by omega),q2.aK (by omega)];exact TP,by rw[eC _ (by omega),q2.aK (by omega)];exact r4,by simp⟩ (λ_ _ h=>h.1)
  (λpre W' cs h hl=>⟨h.1.add _,by rw[eC _ (by omega)];exact h.2.1,by rw[eC _ (by omega)];exact h.2.2.1,h.2.2.2⟩)
  (λpre W' o h=>⟨h.1.put (by omega) _,by rw[bB _ (by omega)];exact h.2.1,by rw[bB _ (by omega)];exact h.2.2.1,h.2.2.2⟩)
  (λx W' o ⟨h1,h2,r,h3,h4,h5⟩=>⟨h1,h2.put (by omega) _,r,h3,by rw[bB _ (by omega)];exact h4,by rw[bB _ (by omega)];exact h5⟩) 8 ?_ ?_ ?_
 ·intro r W' R' hR;have T3:R' 20=Ge r:=by rw[hR];rfl
  rw[ym];unfold uK;simp only[SX,Zh,T3,G3 cC,iy];rfl
 ·intro pre r W' b R' hR lI ⟨h1,h2,h3,h4⟩ hl hb Nx nD;have f3:R' 3=.pointer (some ⟨W1.next,0,none⟩):=by rw[hR];rfl
  have f4:R' 4=.pointer (some ⟨W2.next,0,none⟩):=by rw[hR];rfl
  have f5:R' 5=.pointer (some ⟨W3.next,0,none⟩):=by rw[hR];rfl
  have f8:R' 8=.pointer (some ⟨b,0,none⟩):=by rw[hR];rfl
  clear hR;rw[yQ];unfold uV;obtain⟨k1,k2,k3,k4,k5,k6,k7⟩:=y9 hg lI;have ea:=jT W' r.first r.many;have wu:aK W' W1.next=some [.af bF]:=by rw[h1.aK (by omega)];exact r2
  simp only[SX,f3,f8,FU wu,DA (o:=2) hb rfl,aN];have nM:tz bF r=(decide (r.first<=bF)&&decide (bF<r.first+r.many)):=rfl;by_cases t1:r.first<=bF;case neg=>rw[bm t1,uC]at nM;simp only[SX,t1,ai];exact⟨aM _,ao,.inl ⟨ao,h1,h2,h3,Kr h4 nM⟩⟩
  simp only[SX,be t1,DA (o:=2) hb rfl,DA (o:=3) hb rfl,ea];by_cases t2:bF<r.first+r.many;case neg=>rw[bm t2,ID]at nM;simp only[SX,t2,ai];exact⟨aM _,ao,.inl ⟨ao,h1,h2,h3,Kr h4 nM⟩⟩
  rw[be t1,be t2]at nM;have p1:aK (W'.put W2.next (.cells (VH r))) W3.next=some [.af 0]:=by rw[bB _ (by omega)];exact h3
  simp only[SX,be t2,f4,f5,ld4 hb,G3 h2,N2 p1,ai];exact⟨aM _,by rw[AW.ay _ _ (by omega),AW.ay _ _ (by omega)],.inr ⟨by simp,ao,(h1.put (by omega) _).put (by omega) _,r,SY lI h4 nM,by rw[bB _ (by omega)];exact bT _,bT _⟩⟩
 ·rintro x W6 (⟨rfl,h1,h2,h3,h4⟩|⟨_,rfl,h1,r,h2,h3,h4⟩)
  ·have k2:aK (W6.kill W5.next) W2.next=some (zs):=by rw[ws (by omega)];exact h2
   have k3:aK ((W6.kill W5.next).put W2.next (.cells (zs))) W3.next=some [.af 0]:=by rw[bB _ (by omega),ws (by omega)];exact h3
   have p2:∀x,aK (((W6.kill W5.next).put W2.next (.cells (zs))).put W3.next x) W2.next=some (zs):=λx=>by rw[bB _ (by omega)];exact bT _
   simp only[SX,aaQ,G3 k2,N2 k3,yu,acC,abO,ld4 (p2 _),FU (bT _),bL,X2 h4,ai];exact⟨rfl,(((TS.trans h1).kill (by omega)).put (by omega) _).put (by omega) _⟩
  ·have k2:aK (W6.kill W5.next) W2.next=some (VH r):=by rw[ws (by omega)];exact h3
   have k3:aK (W6.kill W5.next) W3.next=some [.af 0]:=by rw[ws (by omega)];exact h4
   simp only[SX,yu,acC,abO,ld4 k2,FU k3,bL,h2,ai];exact⟨ao,(TS.trans h1).kill (by omega)⟩
def fQ(sec:Int)(r:ir):Bool:=decide ((r.sec:Int)=sec)
def K3:List ir->Int
 |[]=>0
 |r::_=>r.first
def ofE(v:fc)(sec:Int):Int×Int×Int:=if(fp v).2=0 then
 if dg ((dQ v.aA).filter (fQ sec))=0 then(0,0,4)else(K3 ((dQ v.aA).filter (fQ sec)),dg ((dQ v.aA).filter (fQ sec)),0)
 else(0,0,(fp v).2)
def rW{α:Type}{p:α->Bool}{pre:List α}{r:α}(h:p r=true):(pre++[r]).filter p=pre.filter p++[r]:=by simp[Av,h]
def Eb{α:Type}{p:α->Bool}{pre:List α}{r:α}(h:p r=false):(pre++[r]).filter p=pre.filter p:=by simp[Av,h]
def Qr{l:List ir}{r:ir}(h:l≠[]):K3 (l++[r])=K3 l:=by
 cases l with
 |nil=>exact absurd rfl h
 |cons=>rfl
def ahb{v:fc}{sv:ad}{W:AW}{sec:Int}(hs:iO W sv v.aA)(hv:v.aA.length<1000):bf (.func (.func 211) #[] #[]) [kP v sv,.af sec] W=some (.tuple #[.af (ofE v sec).1,.af (ofE v sec).2.1,.af (ofE v sec).2.2],W):=by
 refine aX rfl ?_ Ln;unfold JM ofE;obtain⟨W1,hB,aS,hn,c4,c0,c3⟩:=vD v sv W;obtain⟨W2,b2,n2,l2,r2⟩:=ahG sec W1;obtain⟨W3,b3,n3,l3,r3⟩:=ahU W2;obtain⟨W4,b4,n4,l4,r4⟩:=ahU W3;have TP:aK W4 W2.next=some [.af 0]:=by rw[l4.aK (by omega)];exact r3
 have RY:=l3.trans l4;have TS:=aS.trans l2;have hsn:=aS.next;have e2:∀(W':AW) a b,aK ((W'.put W2.next (.cells a)).put W3.next b) W2.next=some a:=λW' a b=>by rw[bB _ (by omega)];exact bT _
 have e3:∀(W':AW) a,aK (W'.put W2.next a) W3.next=aK W' W3.next:=λW' a=>bB _ (by omega)
 simp only[SX,hB,b2,b3,b4,c4 _ (l2.trans RY),pZ (hs.mono (TS.trans RY)) hv];by_cases he:(fp v).2=0;case neg=>simp only[SX,he,cV,N2 TP,N2 ((e3 _ _).trans r4),zz,oL3,FU (e2 _ _ _),FU (bT _),bL,ai];exact⟨ao,((TS.trans RY).put (by omega) _).put (by omega) _⟩
 obtain⟨hg,-⟩:=df he;obtain⟨W5,q1,q2,q3,q4⟩:=Hr (v:=v) (sv:=sv) W4;have hn5:=q2.next;simp only[SX,be he,q1,aq he];refine Hx (hs.mono TS).1 hg (q4 _ ((Le.refl _).add _)) rfl (λpre W'=>Le W2 W'/\aK W' W2.next=some [.af (K3 (pre.filter (fQ sec)))]/\aK W' W3.next=some [.af (dg (pre.filter (fQ sec)))])
  (λx W'=>False)
  ⟨(RY.trans q2).add _,by rw[eC _ (by omega),q2.aK (by omega)];exact TP,by rw[eC _ (by omega),q2.aK (by omega)];exact r4⟩ (λ_ _ h=>h.1)
  (λpre W' cs h hl=>⟨h.1.add _,by rw[eC _ (by omega)];exact h.2.1,by rw[eC _ (by omega)];exact h.2.2⟩)
  (λpre W' o h=>⟨h.1.put (by omega) _,by rw[bB _ (by omega)];exact h.2.1,by rw[bB _ (by omega)];exact h.2.2⟩)
  (λx W' o h=>h) 9 ?_ ?_ ?_
 ·intro r W' R' hR;have T3:R' 20=Ge r:=by rw[hR];rfl
  rw[CI];unfold Aj;simp only[SX,Zh,T3,G3 cC,iy];rfl
 ·intro pre r W' b R' hR lI ⟨h1,h2,h3⟩ hl hb Nx nD;have f3:R' 3=.pointer (some ⟨W1.next,0,none⟩):=by rw[hR];rfl
  have f4:R' 4=.pointer (some ⟨W2.next,0,none⟩):=by rw[hR];rfl
  have f5:R' 5=.pointer (some ⟨W3.next,0,none⟩):=by rw[hR];rfl
  have f8:R' 9=.pointer (some ⟨b,0,none⟩):=by rw[hR];rfl
  clear hR;rw[Cj];unfold zW;obtain⟨k1,k2,k3,k4,k5,k6,k7⟩:=y9 hg lI;have wu:aK W' W1.next=some [.af sec]:=by rw[h1.aK (by omega)];exact r2
  have hmp:∀x∈pre,1<=x.many:=λx hx=>((rH (((C2 pre [r]).trans lI).subset hx)).many hg).1
  have hms:=wN (l:=pre.filter (fQ sec)) (λx hx=>hmp x (Fk.1 hx).1);have asP:dg (pre.filter (fQ sec))<=dg pre:=by
   have:∀l:List ir,(∀x∈l,1<=x.many)->dg (l.filter (fQ sec))<=dg l:=by
    intro l;induction l with
    |nil=>intro _;exact oe _
    |cons x l ih=>
     intro h;have:=ih λy hy=>h y (by simp[hy])
     have:=h x (by simp);rw[List.filter_cons];split
     ·rw[dW,dW];omega
     ·rw[dW];omega
   exact this _ hmp
  have ea:∀W',bs Tryz.prog .add 3 false false (.af (dg (pre.filter (fQ sec)))) (.af r.many) W'=some (.af (dg (pre.filter (fQ sec))+r.many),W'):=λW'=>oU (by omega) (by omega)
  simp only[SX,f3,f8,FU wu,DA (o:=0) hb rfl,aN];by_cases t1:(r.sec:Int)=sec;case neg=>have nM:fQ sec r=false:=bm t1;simp only[SX,t1,ai];exact⟨aM _,ao,.inl ⟨ao,h1,by rw[Eb nM];exact h2,by rw[Eb nM];exact h3⟩⟩
  have nM:fQ sec r=true:=be t1;have af4:dg (pre.filter (fQ sec)++[r])=dg (pre.filter (fQ sec))+r.many:=by rw[lK,dW,kA,sm]
  simp only[SX,be t1,f5,FU h3];by_cases t2:dg (pre.filter (fQ sec))=0
  ·have am3:pre.filter (fQ sec)=[]:=by rw[t2]at hms;exact mz.1 (by omega)
   have Qw:aK (W'.put W2.next (.cells [.af r.first])) b=some (VH r):=by rw[bB _ (by omega)];exact hb
   simp only[SX,be t2,f4,DA (o:=2) hb rfl,DA (o:=3) Qw rfl,N2 h2,FU ((e3 _ _).trans h3),ea,N2 ((e3 _ _).trans h3),ai];exact⟨aM _,by rw[AW.ay _ _ (by omega),AW.ay _ _ (by omega)],.inl ⟨ao,(h1.put (by omega) _).put (by omega) _,by rw[e2,rW nM,am3];rfl,by rw[bT,rW nM,af4]⟩⟩
  ·have ee:pre.filter (fQ sec)≠[]:=λe=>t2 (by rw[e];rfl)
   simp only[SX,t2,DA (o:=3) hb rfl,ea,N2 h3,ai];exact⟨aM _,by rw[AW.ay _ _ (by omega)],.inl ⟨ao,h1.put (by omega) _,by rw[bB _ (by omega),rW nM,Qr ee];exact h2,by rw[bT,rW nM,af4]⟩⟩
 ·rintro x W6 (⟨rfl,h1,h2,h3⟩|⟨_,h⟩);case inr=>exact h.elim
  have k2:aK (W6.kill W5.next) W2.next=some [.af (K3 ((dQ v.aA).filter (fQ sec)))]:=by rw[ws (by omega)];exact h2
  have k3:aK (W6.kill W5.next) W3.next=some [.af (dg ((dQ v.aA).filter (fQ sec)))]:=by rw[ws (by omega)];exact h3
  simp only[SX,FU k3];by_cases t2:dg ((dQ v.aA).filter (fQ sec))=0
  ·simp only[SX,be t2,aq t2,N2 k2,N2 ((e3 _ _).trans k3),zz,oL3,FU (e2 _ _ _),FU (bT _),bL,ai];exact⟨ao,(((TS.trans h1).kill (by omega)).put (by omega) _).put (by omega) _⟩
  ·have St:ur true (some (.af (dg ((dQ v.aA).filter (fQ sec))),(W6.kill W5.next).put W2.next (.cells [.af (K3 ((dQ v.aA).filter (fQ sec)))]))) (.af (dg ((dQ v.aA).filter (fQ sec))))=true:=WF rfl (wA _ _);simp only[SX,t2,FU k2,FU k3,N2 k2,FU ((e3 _ _).trans k3),St,ki,N2 ((e3 _ _).trans k3),zz,oL3,FU (e2 _ _ _),FU (bT _),bL,ai];exact⟨by simp only[cV],(((TS.trans h1).kill (by omega)).put (by omega) _).put (by omega) _⟩
def anJ(W:AW):cl Tryz.prog 177 W=some (.pointer (some ⟨W.next,0,none⟩),W.add (.cells [.af 0,.af 0,.af 0])):=aL (by kernel_rfl) rfl
def afL(x:ad)(W:AW):fR Tryz.prog 177 x W=fd 3 x W:=by kernel_rfl
def afj(W:AW):dX Tryz.prog 177 [] W=some (.agg #[.af 0,.af 0,.af 0],W):=aL (by kernel_rfl) rfl
def aaH(W:AW):∃W1,cl Tryz.prog 177 W=some (.pointer (some ⟨W.next,0,none⟩),W1)/\W1.next=W.next+1/\Le W W1/\aK W1 W.next=some [.af 0,.af 0,.af 0]:=⟨_,anJ W,AW.ar _ _,(Le.refl W).add _,cC⟩
def ld3{b:Nat}{x y z:ad}{W:AW}(h:aK W b=some [x,y,z]):fd 3 (.pointer (some ⟨b,0,none⟩)) W=some (.agg #[x,y,z],W):=wm (iq h) rfl
def W9{b:Nat}{a c d:Int}{x y z:ad}{W:AW}(h:aK W b=some [x,y,z]):gv 3 (.pointer (some ⟨b,0,none⟩)) (.agg #[.af a,.af c,.af d]) W=some (ak,W.put b (.cells [.af a,.af c,.af d])):=adw h rfl rfl rfl
def Yi{α:Type}{l:List α}{r:α}(h:r∈l):∃pre,pre++[r]<+:l:=by obtain⟨a,b,rfl⟩:=List.append_of_mem h;exact⟨a,⟨b,by simp⟩⟩
def Z5{l:List kh}(hg:Good l){r:ir}(h:r∈dQ l):JP l r/\0<=r.first/\r.first+r.many<=8192/\1<=r.many/\r.many<=64/\r.sec<8/\r.row<16:=by obtain⟨pre,hp⟩:=Yi h;obtain⟨k1,k2,k3,k4,k5,k6,k7⟩:=y9 hg hp;have:=k1.many hg;exact⟨k1,by omega,by omega,k5,k6,by omega,by omega⟩
def Mq{v:fc}{bF:Int}(h:(jx v bF).2=0):(fp v).2=0/\(jx v bF).1∈dQ v.aA/\(dQ v.aA).find? (tz bF)=some (jx v bF).1/\(jx v bF).1.first<=bF/\bF<(jx v bF).1.first+(jx v bF).1.many:=by
 unfold jx at h|-;by_cases he:(fp v).2=0
 ·rw[aq he]at h|-;cases hf:(dQ v.aA).find? (tz bF)with
  |none=>rw[hf]at h;exact absurd h (by decide)
  |some r=>have hi:=List.find?_some hf;unfold tz at hi;simp only[a8,gG]at hi;exact⟨he,Ir hf,rfl,hi.1,hi.2⟩
 ·rw[ap he]at h;exact absurd h he
def eZ(v:fc)(bF:Int):Plc×Int:=if(jx v bF).2=0 then(((jx v bF).1.sec,(jx v bF).1.row,(bF-(jx v bF).1.first).toNat),0)else((0,0,0),(jx v bF).2)
abbrev ahT(p:Plc):ad:=.agg #[.af (p.1:Int),.af (p.2.1:Int),.af (p.2.2:Int)]
def Tl{v:fc}{sv:ad}{W:AW}{bF:Int}(hs:iO W sv v.aA)(hv:v.aA.length<1000):bf (.func (.func 200) #[] #[]) [kP v sv,.af bF] W=some (.tuple #[ahT (eZ v bF).1,.af (eZ v bF).2],W):=by
 refine aX rfl ?_ D4;unfold BH eZ;obtain⟨W1,hB,aS,hn,c4,c0,c3⟩:=vD v sv W;obtain⟨W2,b2,n2,l2,r2⟩:=aaH W1;obtain⟨W3,b3,n3,l3,r3⟩:=aar W2;have r23:∀x,aK (W3.put W2.next x) W1.next=some [.af 0,.af 0,.af 0]:=λx=>by rw[bB _ (by omega),l3.aK (by omega)];exact r2
 have hsn:=aS.next;have l03:=(aS.trans l2).trans l3;simp only[SX,hB,b2,b3,c4 _ l2,YG (hs.mono (aS.trans l2)) hv,G3 r3];by_cases he:(jx v bF).2=0;case neg=>simp only[SX,he,cV,afj,W9 (r23 _),cr,afL,ld3 (bT _),bL,ai];exact⟨rfl,(l03.put (by omega) _).put (by omega) _⟩
 obtain⟨h1,h2,h3,h4,h5⟩:=Mq he;obtain⟨k1,k2,k3,k4,k5,-,-⟩:=Z5 (df h1).1 h2;have hb:=bT (W:=W3) (b:=W2.next) (VH (jx v bF).1);have ea:∀W',bs Tryz.prog .sub 3 false false (.af bF) (.af (jx v bF).1.first) W'=some (.af (bF-(jx v bF).1.first),W'):=λW'=>vl (by omega) (by omega)
 have et:((bF-(jx v bF).1.first).toNat:Int)=bF-(jx v bF).1.first:=Int.toNat_of_nonneg (by omega);simp only[SX,be he,aq he,aN,DA (o:=0) hb rfl,DA (o:=1) hb rfl,DA (o:=2) hb rfl,ea,anD,W9 (r23 _),cr,afL,ld3 (bT _),bL,ai];exact⟨by simp only[ahT];rw[et],(l03.put (by omega) _).put (by omega) _⟩
def GN(r:ir):List Plc:=DH r.sec r.row r.many.toNat
def Bn(r:ir):(GN r).length=r.many.toNat:=by simp[GN,DH]
def RP(r:ir){i:Nat}(h:i<r.many.toNat):(GN r)[i]? =some (r.sec,r.row,i):=by unfold GN DH;rw[jH,List.getElem?_range h];rfl
def BR:∀{L:List ir} {s bF:Int},kv s L->(∀r∈L,1<=r.many)->s<=bF->bF<s+dg L->
 ∃r,L.find? (tz bF)=some r/\(L.flatMap GN)[(bF-s).toNat]? =some (r.sec,r.row,(bF-r.first).toNat)
 |[],s,bF,_,_,h1,h2=>by rw[kA]at h2;omega
 |r::L,s,bF,⟨hf,hF⟩,hm,h1,h2=>by
  have hr:=hm r (by simp);rw[dW]at h2;by_cases h:bF<s+r.many
  ·refine⟨r,?_,?_⟩
   ·rw[List.find?_cons_of_pos];unfold tz;simp only[a8,gG];omega
   ·rw[gU,C1 (by rw[Bn];omega),RP _ (by omega),hf]
  ·obtain⟨x,x1,x2⟩:=BR (s:=s+r.many) hF (λy hy=>hm y (by simp[hy])) (by omega) (by omega:bF<s+r.many+dg L);refine⟨x,?_,?_⟩
   ·rw[List.find?_cons_of_neg,x1];unfold tz;simp only[a8,gG];omega
   ·rw[gU,qG (by rw[Bn];omega),Bn];rw[show(bF-s).toNat-r.many.toNat=(bF-(s+r.many)).toNat by omega];exact x2
def yp:∀{L:List ir} {s bF:Int},kv s L->(∀r∈L,1<=r.many)->(bF<s\/s+dg L<=bF)->L.find? (tz bF)=none
 |[],_,_,_,_,_=>rfl
 |r::L,s,bF,⟨hf,hF⟩,hm,h=>by
  have hr:=hm r (by simp);rw[dW]at h;have hp:=wN (l:=L) (λy hy=>hm y (by simp[hy]));rw[List.find?_cons_of_neg]
  ·exact yp hF (λy hy=>hm y (by simp[hy])) (by omega)
  ·unfold tz;simp only[a8,gG];omega
def AG(v:fc)(bF:Int):Plc×Int:=if(dh v).2=0 then(if bF<0\/(dh v).1<=bF then((0,0,0),4)else((pu v.aA).getD bF.toNat (0,0,0),0))else((0,0,0),(dh v).2)
def Ry(v:fc)(bF:Int):AG v bF=eZ v bF:=by
 unfold AG eZ jx dh;by_cases he:(fp v).2=0;case neg=>simp only[ap he]
 simp only[aq he,ba];obtain⟨hg,-⟩:=df he;have hm:∀x∈dQ v.aA,1<=x.many:=λx hx=>((rH hx).many hg).1
 have nQ:(dQ v.aA).flatMap GN=pu v.aA:=(BA v.aA).symm;by_cases h:bF<0\/bO v.aA<=bF
 ·rw[aq h,yp (vS v.aA) hm (by rw[Ak];omega)];rfl
 ·rw[ap h];obtain⟨r,r1,r2⟩:=BR (vS v.aA) hm (by omega:0<=bF) (by rw[Ak];omega);rw[nQ,Int.sub_zero]at r2;rw[r1,lh,r2];rfl
def Cd:iu:=λc a=>bw a λb=>aE 2 b λd=>aF d λe=>aE 0 b λf=>aF f λg=>iX g (I 1) λh=>gI h (gB (Vr e (I 0)) λi=>gI i (yO [(I 6,none)]) (yO [(I 0,none)])) (iX g (I 0) λi=>gI i (aE 1 b λj=>aF j λk=>gB (aby k (.int .u32 0)) λl=>gI l (yO [(I 6,none)]) (gB (acI e (I 0)) λm=>gI m (yO [(I 6,none)]) (yO [(I 0,none)]))) (iX g (I 2) λj=>gI j (gB (acI e (I 0)) λk=>gI k (yO [(I 6,none)]) (yO [(I 0,none)])) (yO [(I 6,none)])))
def EX{x0 W r}(h:Cd bf x0 W=some r):OG 97 #[] [x0] W r:=oM 21 h (by kernel_rfl)
def zu:fg:=λc a b=>bw a λd=>aG 87 λe=>bu 5 d λf=>bu 5 d λg=>cH c 187 [f,b] λh=>gA (λW=>ur true (fd 5 d W) g&&true) (cH c 188 [g,I 1] λi=>cd 251 2 [(0,h),(1,i)] λj=>cH c 186 [j] λk=>eg k (I 0) λl=>gI l (bu 5 d λm=>aI 5 e m λn=>yO [(e,some 87),(k,none)]) (aE 2 d λm=>aF m λn=>cH c 165 [n,b] λo=>aB o 0 λp=>aB o 1 λr=>jB .not p λs=>gI s (bu 5 d λt=>aI 5 e t λu=>yO [(e,some 87),(I 9,none)]) (bu 5 d λt=>cH c 194 [t] λu=>aI 5 e u λv=>yO [(e,some 87),(I 0,none)])))
def Cr{x0 x1 W r}(h:zu bf x0 x1 W=some r):OG 169 #[] [x0,x1] W r:=oM 32 h (by kernel_rfl)
def kr:dF:=λc S=>b8 (S 8) (S 7) λa=>gI a (bR 1 (S 6) (S 8) λb=>aF b λd=>gB (aif d (S 3)) λe=>let T:=q (q (q S 9 [a,b,d]) 5 [d]) 12 [d,S 3,e];gI e (yR (q (q T 15 [d]) 2 [d])) (cg (S 8) (I 1) λf=>yN (q (q T 16 [f]) 8 [f]))) (yE 0 (q S 9 [a]))
def tG:iu:=λc a=>gB (ag6 a) λb=>gL (kr c) (q (q (cR 0 [a] ah.blank) 2 [I 0,I 0]) 6 [a,b,I 0]) λd S=>gX 0 d (yO [(S 3,none)]) (gR d (yO [(S 2,none)]))
def yb{x0 W r}(h:tG bf x0 W=some r):OG 186 #[] [x0] W r:=oM 18 h (by kernel_rfl)
def DM:fg:=λc a b=>bw a λd=>bu 5 d λe=>cH c 97 [e] λf=>eg f (I 0) λg=>gI g (yO [(f,none)]) (gB (Vr b (I 0)) λh=>gI h (yO [(I 7,none)]) (yO [(I 0,none)]))
def Ga{x0 x1 W r}(h:DM bf x0 x1 W=some r):OG 187 #[] [x0,x1] W r:=oM 13 h (by kernel_rfl)
def BW:fg:=λc a b=>bw a λd=>bu 5 d λe=>cH c 97 [e] λf=>eg f (I 0) λg=>gI g (yO [(f,none)]) (aE 0 d λh=>aF h λi=>gB (Jr i b) λj=>gI j (yO [(I 15,none)]) (yO [(I 0,none)]))
def Fj{x0 x1 W r}(h:BW bf x0 x1 W=some r):OG 188 #[] [x0,x1] W r:=oM 15 h (by kernel_rfl)
def Af:fg:=λc a b=>cd 150 2 [(0,a),(1,b)] λd=>cH c 197 [d] λe=>gI e (yO [(.bool false,none),(I 7,none)]) (gB (ab7 a b) λf=>yO [(f,none),(I 0,none)])
def CB{x0 x1 W r}(h:Af bf x0 x1 W=some r):OG 165 #[] [x0,x1] W r:=oM 13 h (by kernel_rfl)
def Ez:iu:=λc a=>bw a λb=>aG 87 λd=>aE 3 b λe=>aF e λf=>aE 4 b λg=>aF g λh=>br 87 [(3,f),(4,h)] λi=>aI 5 d i λj=>yO [(d,some 87)]
def FW{x0 W r}(h:Ez bf x0 W=some r):OG 194 #[] [x0] W r:=oM 8 h (by kernel_rfl)
def DT:iu:=λc a=>cH c 212 [a] λb=>gB (Vr b (I 0)) λd=>yO [(d,none)]
def Gc{x0 W r}(h:DT bf x0 W=some r):OG 197 #[] [x0] W r:=oM 6 h (by kernel_rfl)
def rk:dF:=λc S=>gB (Y8 (S 0)) λa=>b8 (S 4) a λb=>let T:=q S 12 [S 4,S 0,a,b];gI b (bR 1 (S 0) (S 4) λd=>aF d λe=>gB (adS (S 3) e) λf=>cg (S 4) (I 1) λg=>yN (q (q (q (q T 18 [S 3,S 0,S 4,d,e,f]) 3 [f]) 16 [S 4,g]) 4 [g])) (yE 0 T)
def fX:dF:=λc S=>gB (Y8 (S 0)) λa=>b8 (S 4) a λb=>let T:=q S 12 [S 4,S 0,a,b];gI b (bR 1 (S 0) (S 4) λd=>aF d λe=>gB (adS (S 3) e) λf=>cg (S 4) (I 1) λg=>yN (q (q (q (q T 18 [S 3,S 0,S 4,d,e,f]) 3 [f]) 16 [S 4,g]) 4 [g])) (yE 0 T)
def mU:iu:=λc a=>gB (Y8 a) λb=>tA b (I 1) λd=>let S:=q (q (cR 0 [a] ah.blank) 2 [I 0]) 5 [a,b,d];gI d (gB (GX 9 (Co [115,108,105,99,101,115,46,77,105,110,58,32,101,109,112,116,121,32,108,105,115,116])) λe=>gB (zN) λf=>bR 1 a (I 0) λg=>aF g λh=>gL (rk c) (q (q S 8 [e,a,g,h]) 3 [h,I 1]) λi T=>gX 0 i (yO [(T 3,none)]) yZ) (bR 1 a (I 0) λe=>aF e λf=>gL (fX c) (q (q S 9 [a,e,f]) 3 [f,I 1]) λg T=>gX 0 g (yO [(T 3,none)]) yZ)
def qU{x0 W r}(h:mU bf x0 W=some r):OG 212 #[] [x0] W r:=oM 25 h (by kernel_rfl)
def xq:fg:=λc a b=>bw a λd=>aG 87 λe=>bu 5 d λf=>cH c 193 [f,b] λg=>eg g (I 0) λh=>gI h (bu 5 d λi=>aI 5 e i λj=>yO [(e,some 87),(g,none)]) (bu 5 d λi=>cH c 194 [i] λj=>aI 5 e j λk=>yO [(e,some 87),(I 0,none)])
def A7{x0 x1 W r}(h:xq bf x0 x1 W=some r):OG 155 #[] [x0,x1] W r:=oM 16 h (by kernel_rfl)
def GC:fg:=λc a b=>bw a λd=>aG 87 λe=>bu 5 d λf=>cH c 193 [f,b] λg=>eg g (I 0) λh=>gI h (bu 5 d λi=>aI 5 e i λj=>yO [(e,some 87),(g,none)]) (bu 5 d λi=>cH c 196 [i,b] λj=>aB j 0 λk=>aB j 1 λl=>aI 5 e k λm=>yO [(e,some 87),(l,none)])
def HC{x0 x1 W r}(h:GC bf x0 x1 W=some r):OG 157 #[] [x0,x1] W r:=oM 19 h (by kernel_rfl)
def eU:fg:=λc a b=>nf a λd=>cH c 198 [a,d,b] λe=>yO []
def gp{x0 x1 W r}(h:eU bf x0 x1 W=some r):OG 166 #[] [x0,x1] W r:=oM 9 h (by kernel_rfl)
def Du:fg:=λc a b=>bw a λd=>bu 5 d λe=>cH c 188 [e,I 1] λf=>eg f (I 0) λg=>gI g (yO [(f,none)]) (aE 1 d λh=>aF h λi=>gB (XT i b) λj=>gI j (yO [(I 14,none)]) (yO [(I 0,none)]))
def FG{x0 x1 W r}(h:Du bf x0 x1 W=some r):OG 193 #[] [x0,x1] W r:=oM 15 h (by kernel_rfl)
def BI:fg:=λc a b=>bw a λd=>aG 87 λe=>aE 3 d λf=>aF f λg=>gB (XU g (.int .u64 18446744073709551615)) λh=>gI h (bu 5 d λi=>aI 5 e i λj=>yO [(e,some 87),(I 17,none)]) (aE 3 d λi=>aF i λj=>gB (abG j (.int .u64 1)) λk=>aE 4 d λl=>aF l λm=>br 87 [(0,I 2),(1,b),(3,k),(4,m)] λn=>aI 5 e n λo=>yO [(e,some 87),(I 0,none)])
def Fg{x0 x1 W r}(h:BI bf x0 x1 W=some r):OG 196 #[] [x0,x1] W r:=oM 17 h (by kernel_rfl)
def cO:dF:=λc S=>gB (Yh (S 8) (S 1)) λa=>let T:=q S 11 [S 8,S 1,a];gI a (cH c 213 [S 0,S 7,S 8,S 2] λb=>dL (S 8) (S 6) λd=>yN (q (q (q (q T 14 [S 0,S 7,S 8,S 2,b,S 8]) 7 [S 8]) 20 [S 8,S 6,d]) 8 [d])) (yE 0 T)
def da:dF:=λc S=>gB (Yh (S 8) (S 1)) λa=>let T:=q S 33 [S 8,S 1,a];gI a (dL (S 7) (S 6) λb=>cH c 214 [S 0,S 7,b,S 8,S 2] λd=>gB (acD (I 2) (S 6)) λe=>dL (S 8) e λf=>yN (q (q (q (q T 36 [S 0,S 7,S 7,S 6,b,S 8,S 2,d,S 8]) 7 [S 8]) 45 [S 8,S 6,e,f]) 8 [f])) (yE 4 T)
def dH:dF:=λc S=>b8 (S 6) (S 1) λa=>let T:=q S 28 [S 6,S 1,a];gI a (gB (acD (I 2) (S 6)) λb=>gL (da c) (q (q T 31 [S 6,b]) 7 [I 0,b]) λd U=>gX 4 d (dL (U 7) (U 6) λe=>b8 e (U 1) λf=>let V:=q (q (q U 49 [U 7,U 6,e]) 9 [e]) 52 [e,U 1,f];gI f (cH c 214 [U 0,U 7,e,U 1,U 2] λg=>gB (ady (U 6) (I 2)) λh=>yN (q (q V 55 [U 0,U 7,e,U 1,U 2,g,U 6,h]) 6 [h])) (gB (ady (U 6) (I 2)) λg=>yN (q (q V 61 [U 6,g]) 6 [g]))) yZ) (yE 2 T)
def gj:yc:=λc a b d=>gL (cO c) (q (q (q (cR 0 [a,b,d] ah.blank) 6 [I 20]) 10 [I 20]) 7 [I 0,I 20]) λe S=>gX 0 e (cH c 213 [S 0,S 7,S 1,S 2] λf=>gL (dH c) (q S 23 [S 0,S 7,S 1,S 2,f]) λg T=>gX 2 g (yO []) yZ) yZ
def jc{x0 x1 x2 W r}(h:gj bf x0 x1 x2 W=some r):OG 198 #[] [x0,x1,x2] W r:=oM 63 h (by kernel_rfl)
def cp:dF:=λc S=>gB (ZA (S 9) (S 1)) λa=>gT a (gy (S 3)) λb=>gT a (gy (S 0)) λd=>gT a (gy (S 9)) λe=>gT a (nR 1 d e) λf=>gT a (bG f) λg=>gT a (gy (S 0)) λh=>gT a (gy (S 9)) λi=>gT a (acA i (I 1)) λj=>gT a (nR 1 h j) λk=>gT a (bG k) λl=>gT a (c b [g,l]) λm=>gT a (zb1 m (I 0)) λn=>aY a n (.bool false) λo=>let T:=q S 18 [S 9,S 1,a,a,b,d,e,f,g,h,i,j,k,l,m,n,o];gI o (ji (S 9) (I 1) λp=>ji (S 9) (I 1) λr=>bR 1 (S 0) r λs=>aF s λt=>bR 1 (S 0) (S 9) λu=>aF u λv=>bR 1 (S 0) (S 9) λw=>aI 1 w t λx=>bR 1 (S 0) p λy=>aI 1 y v λz=>ji (S 9) (I 1) λA=>yN (q (q (q T 37 [S 0,S 9,S 0,S 9,p,S 0,S 9,r,s,t,S 0,S 9,u,v,w,y]) 35 [S 9,A]) 9 [A])) (yE 2 T)
def bY:dF:=λc S=>b8 (S 8) (S 2) λa=>let T:=q S 12 [S 8,S 2,a];gI a (gL (cp c) (q (q T 17 [S 8]) 9 [S 8]) λb U=>gX 2 b (cg (U 8) (I 1) λd=>yN (q (q U 15 [U 8,d]) 8 [d])) yZ) (yE 0 T)
def cS:Yf:=λc a b d e=>cg b (I 1) λf=>gL (bY c) (q (q (cR 0 [a,b,d,e] ah.blank) 10 [b,f]) 8 [f]) λg S=>gX 0 g (yO []) yZ
def dE{x0 x1 x2 x3 W r}(h:cS bf x0 x1 x2 x3 W=some r):OG 213 #[] [x0,x1,x2,x3] W r:=oM 53 h (by kernel_rfl)
def dq:dF:=λc S=>b8 (S 10) (S 11) λa=>let T:=q S 31 [S 10,S 11,a];gI a (dL (S 10) (S 11) λb=>eh 3 228 b λd=>gB (Ro d (.int .u64 1)) λe=>eh 228 3 e λf=>bR 1 (S 0) f λg=>aF g λh=>bR 1 (S 0) (S 1) λi=>aF i λj=>gB (c (S 4) [h,j]) λk=>tA k (I 0) λl=>let U:=q (q (q T 34 [S 10,S 11,b,d,e,f]) 12 [f]) 40 [S 4,S 0,f,g,h,S 0,S 1,i,j,k,l];gI l (cg f (I 1) λm=>yN (q (q U 51 [f,m]) 10 [m])) (yN (q (q U 53 [f]) 11 [f]))) (yE 0 T)
def dw:dF:=λc S=>ji (S 10) (I 1) λa=>b8 (S 13) a λb=>let T:=q S 55 [S 13,S 10,a,b];gI b (cg (S 13) (I 1) λd=>cg (S 13) (I 1) λe=>bR 1 (S 0) e λf=>aF f λg=>bR 1 (S 0) (S 13) λh=>aF h λi=>bR 1 (S 0) (S 13) λj=>aI 1 j g λk=>bR 1 (S 0) d λl=>aI 1 l i λm=>cg (S 13) (I 1) λn=>yN (q (q (q T 61 [S 0,S 13,S 0,S 13,d,S 0,S 13,e,f,g,S 0,S 13,h,i,j,l]) 59 [S 13,n]) 13 [n])) (yE 2 T)
def dn:dF:=λc S=>b8 (S 14) (S 15) λa=>let T:=q S 83 [S 14,S 15,a];gI a (dL (S 14) (S 15) λb=>eh 3 228 b λd=>gB (Ro d (.int .u64 1)) λe=>eh 228 3 e λf=>bR 1 (S 0) (S 2) λg=>aF g λh=>bR 1 (S 0) f λi=>aF i λj=>gB (c (S 4) [h,j]) λk=>tA k (I 0) λl=>jB .not l λm=>let U:=q (q (q T 86 [S 14,S 15,b,d,e,f]) 16 [f]) 92 [S 4,S 0,S 2,g,h,S 0,f,i,j,k,l,m];gI m (cg f (I 1) λn=>yN (q (q U 104 [f,n]) 14 [n])) (yN (q (q U 106 [f]) 15 [f]))) (yE 4 T)
def dp:dF:=λc S=>gB (ZA (S 17) (S 14)) λa=>let T:=q S 108 [S 17,S 14,a];gI a (ji (S 17) (I 1) λb=>ji (S 17) (I 1) λd=>bR 1 (S 0) d λe=>aF e λf=>bR 1 (S 0) (S 17) λg=>aF g λh=>bR 1 (S 0) (S 17) λi=>aI 1 i f λj=>bR 1 (S 0) b λk=>aI 1 k h λl=>ji (S 17) (I 1) λm=>yN (q (q (q T 113 [S 0,S 17,S 0,S 17,b,S 0,S 17,d,e,f,S 0,S 17,g,h,i,k]) 111 [S 17,m]) 17 [m])) (yE 6 T)
def dr:dF:=λc S=>b8 (S 20) (S 21) λa=>let T:=q S 149 [S 20,S 21,a];gI a (dL (S 20) (S 21) λb=>eh 3 228 b λd=>gB (Ro d (.int .u64 1)) λe=>eh 228 3 e λf=>fO (S 22) f λg=>bR 1 (S 0) g λh=>aF h λi=>bR 1 (S 0) f λj=>aF j λk=>gB (c (S 4) [i,k]) λl=>tA l (I 0) λm=>jB .not m λn=>let U:=q (q (q T 152 [S 20,S 21,b,d,e,f]) 23 [f]) 158 [S 4,S 0,S 22,f,g,h,i,S 0,f,j,k,l,m,n];gI n (cg f (I 1) λo=>yN (q (q U 172 [f,o]) 20 [o])) (yN (q (q U 174 [f]) 21 [f]))) (yE 8 T)
def du:dF:=λc S=>b8 (S 20) (S 21) λa=>let T:=q S 149 [S 20,S 21,a];gI a (dL (S 20) (S 21) λb=>eh 3 228 b λd=>gB (Ro d (.int .u64 1)) λe=>eh 228 3 e λf=>fO (S 22) f λg=>bR 1 (S 0) g λh=>aF h λi=>bR 1 (S 0) f λj=>aF j λk=>gB (c (S 4) [i,k]) λl=>tA l (I 0) λm=>jB .not m λn=>let U:=q (q (q T 152 [S 20,S 21,b,d,e,f]) 23 [f]) 158 [S 4,S 0,S 22,f,g,h,i,S 0,f,j,k,l,m,n];gI n (cg f (I 1) λo=>yN (q (q U 172 [f,o]) 20 [o])) (yN (q (q U 174 [f]) 21 [f]))) (yE 8 T)
def jy:Zs:=λc a b d e f=>fO d b λg=>iX g (I 1) λh=>let S:=q (cR 0 [a,b,d,e,f] ah.blank) 25 [d,b,g,h];gI h (gL (dq c) (q (q (q (q S 29 [d]) 10 [d]) 30 [e]) 11 [e]) λi T=>gX 0 i (gL (dw c) (q (q T 54 [T 1]) 13 [T 1]) λj U=>gX 2 j (yO []) yZ) yZ) (fO e d λi=>iX i (I 1) λj=>let T:=q S 77 [e,d,i,j];gI j (gL (dn c) (q (q (q (q T 81 [b]) 14 [b]) 82 [d]) 15 [d]) λk U=>gX 4 k (gL (dp c) (q (q U 107 [U 2]) 17 [U 2]) λl V=>gX 6 l (yO []) yZ) yZ) (dL b e λk=>eh 3 228 k λl=>gB (Ro l (.int .u64 1)) λm=>eh 228 3 m λn=>dL n d λo=>gB (ZA d n) λp=>let U:=q (q (q (q (q T 129 [b,e,k,l,m,n]) 18 [n]) 135 [n,d,o]) 19 [o,I 0,I 0]) 138 [d,n,p];gI p (fO o e λr=>ji o (I 1) λs=>gL (dr c) (q (q (q (q (q (q U 141 [o,e,r]) 20 [r]) 144 [n]) 21 [n]) 147 [o,s]) 22 [s]) λt V=>gX 8 t (fO (V 19) (V 20) λu=>b8 (V 20) (V 2) λv=>gT v (gy (V 2)) λw=>gT v (gy u) λx=>gT v (Jj w x) λy=>aY v y (.bool false) λz=>gI z (cH c 221 [V 0,V 20,V 2,u,V 4] λA=>b8 (V 1) (V 20) λB=>gT B (gy (V 20)) λC=>gT B (gy (V 18)) λD=>gT B (Jj C D) λE=>aY B E (.bool false) λF=>gI F (cH c 214 [V 0,V 1,V 20,V 18,V 4] λG=>b8 (V 18) u λH=>gT H (gy u) λJ=>gT H (gy (V 3)) λK=>gT H (Jj J K) λL=>aY H L (.bool false) λM=>gI M (cH c 214 [V 0,V 18,u,V 3,V 4] λN=>yO []) (yO [])) (b8 (V 18) u λG=>gT G (gy u) λH=>gT G (gy (V 3)) λJ=>gT G (Jj H J) λK=>aY G K (.bool false) λL=>gI L (cH c 214 [V 0,V 18,u,V 3,V 4] λM=>yO []) (yO []))) (b8 (V 1) (V 20) λA=>gT A (gy (V 20)) λB=>gT A (gy (V 18)) λC=>gT A (Jj B C) λD=>aY A D (.bool false) λE=>gI E (cH c 214 [V 0,V 1,V 20,V 18,V 4] λF=>b8 (V 18) u λG=>gT G (gy u) λH=>gT G (gy (V 3)) λJ=>gT G (Jj H J) λK=>aY G K (.bool false) λL=>gI L (cH c 214 [V 0,V 18,u,V 3,V 4] λM=>yO []) (yO [])) (b8 (V 18) u λF=>gT F (gy u) λG=>gT F (gy (V 3)) λH=>gT F (Jj G H) λJ=>aY F J (.bool false) λK=>gI K (cH c 214 [V 0,V 18,u,V 3,V 4] λL=>yO []) (yO [])))) yZ) (ji o (I 1) λr=>gL (du c) (q (q (q (q (q (q U 145 [b]) 20 [b]) 146 [d]) 21 [d]) 147 [o,r]) 22 [r]) λs V=>gX 8 s (fO (V 19) (V 20) λt=>b8 (V 20) (V 2) λu=>gT u (gy (V 2)) λv=>gT u (gy t) λw=>gT u (Jj v w) λx=>aY u x (.bool false) λy=>gI y (cH c 221 [V 0,V 20,V 2,t,V 4] λz=>b8 (V 1) (V 20) λA=>gT A (gy (V 20)) λB=>gT A (gy (V 18)) λC=>gT A (Jj B C) λD=>aY A D (.bool false) λE=>gI E (cH c 214 [V 0,V 1,V 20,V 18,V 4] λF=>b8 (V 18) t λG=>gT G (gy t) λH=>gT G (gy (V 3)) λJ=>gT G (Jj H J) λK=>aY G K (.bool false) λL=>gI L (cH c 214 [V 0,V 18,t,V 3,V 4] λM=>yO []) (yO [])) (b8 (V 18) t λF=>gT F (gy t) λG=>gT F (gy (V 3)) λH=>gT F (Jj G H) λJ=>aY F J (.bool false) λK=>gI K (cH c 214 [V 0,V 18,t,V 3,V 4] λL=>yO []) (yO []))) (b8 (V 1) (V 20) λz=>gT z (gy (V 20)) λA=>gT z (gy (V 18)) λB=>gT z (Jj A B) λC=>aY z C (.bool false) λD=>gI D (cH c 214 [V 0,V 1,V 20,V 18,V 4] λE=>b8 (V 18) t λF=>gT F (gy t) λG=>gT F (gy (V 3)) λH=>gT F (Jj G H) λJ=>aY F J (.bool false) λK=>gI K (cH c 214 [V 0,V 18,t,V 3,V 4] λL=>yO []) (yO [])) (b8 (V 18) t λE=>gT E (gy t) λF=>gT E (gy (V 3)) λG=>gT E (Jj F G) λH=>aY E H (.bool false) λJ=>gI J (cH c 214 [V 0,V 18,t,V 3,V 4] λK=>yO []) (yO [])))) yZ)))
def nB{x0 x1 x2 x3 x4 W r}(h:jy bf x0 x1 x2 x3 x4 W=some r):OG 214 #[] [x0,x1,x2,x3,x4] W r:=oM 220 h (by kernel_rfl)
def iY:dF:=λc S=>gB (Jr (S 10) (S 11)) λa=>let T:=q S 18 [S 10,S 11,a];gI a (gB (ZA (S 10) (S 11)) λb=>let U:=q T 21 [S 10,S 11,b];gI b (fO (S 2) (S 10) λd=>cH c 226 [S 0,d,S 2,S 11,S 4] λe=>fO (S 10) (S 11) λf=>yN (q (q U 24 [S 0,S 2,S 10,d,S 2,S 11,S 4,e,S 10,S 11,f]) 10 [f])) (fO (S 2) (S 10) λd=>dL (S 2) (S 11) λe=>fO e (S 10) λf=>cH c 226 [S 0,d,f,S 10,S 4] λg=>fO (S 11) (S 10) λh=>yN (q (q U 35 [S 0,S 2,S 10,d,S 2,S 11,e,S 10,f,S 10,S 4,g,S 11,S 10,h]) 11 [h]))) (yE 0 T)
def kL:Zs:=λc a b d e f=>fO d b λg=>fO e d λh=>gL (iY c) (q (q (q (q (cR 0 [a,b,d,e,f] ah.blank) 12 [d,b,g]) 10 [g]) 15 [e,d,h]) 11 [h]) λi S=>gX 0 i (fO (S 2) (S 10) λj=>cH c 226 [S 0,j,S 2,S 10,S 4] λk=>yO []) yZ
def oT{x0 x1 x2 x3 x4 W r}(h:kL bf x0 x1 x2 x3 x4 W=some r):OG 221 #[] [x0,x1,x2,x3,x4] W r:=oM 58 h (by kernel_rfl)
def eB:dF:=λc S=>b8 (S 10) (S 3) λa=>let T:=q S 11 [S 10,S 3,a];gI a (dL (S 1) (S 10) λb=>dL (S 2) (S 10) λd=>dL (S 2) (S 10) λe=>bR 1 (S 0) e λf=>aF f λg=>dL (S 1) (S 10) λh=>bR 1 (S 0) h λi=>aF i λj=>bR 1 (S 0) b λk=>aI 1 k g λl=>bR 1 (S 0) d λm=>aI 1 m j λn=>cg (S 10) (I 1) λo=>yN (q (q (q T 16 [S 0,S 1,S 10,b,S 0,S 2,S 10,d,S 0,S 2,S 10,e,f,g,S 0,S 1,S 10,h,i,j,k,m]) 14 [S 10,o]) 10 [o])) (yE 0 T)
def jk:Zs:=λc a b d e f=>gL (eB c) (q (cR 0 [a,b,d,e,f] ah.blank) 10 [I 0]) λg S=>gX 0 g (yO []) yZ
def ni{x0 x1 x2 x3 x4 W r}(h:jk bf x0 x1 x2 x3 x4 W=some r):OG 226 #[] [x0,x1,x2,x3,x4] W r:=oM 38 h (by kernel_rfl)
structure fA where
 st:Int
 ow:Int
 dl:Int
 se:Int
 ep:Int
abbrev fo(x:fA):List ad:=[.af x.st,.int .u32 x.ow,.af x.dl,.int .u64 x.se,.int .u64 x.ep]
abbrev me(x:fA):ad:=.agg #[.af x.st,.int .u32 x.ow,.af x.dl,.int .u64 x.se,.int .u64 x.ep]
def BG:fA:=⟨0,0,0,0,0⟩
def TR{b o:Nat}{cs:List ad}{x:ad}{W:AW}(h:W.get b=some (.cells cs))(hv:cs[o]? =some x):bG (.pointer (some ⟨b,o,none⟩)) W=some (x,W):=aZ (az h) hv
section
variable {W:AW} {b:Nat} {x:fA}
def qp(h:W.get b=some (.cells (fo x))):bG (.pointer (some ⟨b,0,none⟩)) W=some (.af x.st,W):=TR h rfl
def D6(h:W.get b=some (.cells (fo x))):bG (.pointer (some ⟨b,1,none⟩)) W=some (.int .u32 x.ow,W):=TR h rfl
def qy(h:W.get b=some (.cells (fo x))):bG (.pointer (some ⟨b,2,none⟩)) W=some (.af x.dl,W):=TR h rfl
def No(h:W.get b=some (.cells (fo x))):bG (.pointer (some ⟨b,3,none⟩)) W=some (.int .u64 x.se,W):=TR h rfl
def Tu(h:W.get b=some (.cells (fo x))):bG (.pointer (some ⟨b,4,none⟩)) W=some (.int .u64 x.ep,W):=TR h rfl
def cy(h:W.get b=some (.cells (fo x))):fd 5 (.pointer (some ⟨b,0,none⟩)) W=some (me x,W):=bV (az h) rfl
def PY{z:fA}(h:W.get b=some (.cells (fo z))):gv 5 (.pointer (some ⟨b,0,none⟩)) (me x) W=some (ak,W.put b (.cells (fo x))):=AV (n:=5) (o:=0) (v:=me x) h rfl (aM _) rfl
end
def ahs(x:fA)(W:AW):nG (me x) W=some (.pointer (some ⟨W.next,0,none⟩),W.add (.cells (fo x))):=jf _
def yF(W:AW):cl Tryz.prog 87 W=some (.pointer (some ⟨W.next,0,none⟩),W.add (.cells (fo BG))):=aL (by kernel_rfl) rfl
def an0(a b:Int)(W:AW):dX Tryz.prog 87 [(3,.int .u64 a),(4,.int .u64 b)] W=some (me ⟨0,0,0,a,b⟩,W):=aL (by kernel_rfl) rfl
def qX(x:ad)(W:AW):fR Tryz.prog 87 x W=fd 5 x W:=by kernel_rfl
def oS(x:fA):ff (me x) (me x)=true:=ky (by simp[OV,tT])
def Me(x:fA):Int:=if x.st=1 then(if x.dl<0 then 6 else 0)else if x.st=0 then(if x.ow=0 then(if x.dl=0 then 0 else 6)else 6)else if x.st=2 then(if x.dl=0 then 0 else 6)else 6
def UT{x:fA}(h:x.st=1):Me x=if x.dl<0 then 6 else 0:=by unfold Me;rw[aq h]
def kb(x:fA)(W:AW):bf (.func (.func 97) #[] #[]) [me x] W=some (.af (Me x),W):=by
 refine aX rfl ?_ EX;unfold Cd;have hg:(W.add (.cells (fo x))).get W.next=some (.cells (fo x)):=AW.aH _ _;have aS:Le W (W.add (.cells (fo x))):=(Le.refl _).add _;simp only[SX,aN];generalize W.add (.cells (fo x))=W1 at *;unfold Me;by_cases c1:x.st=1
 ·have d1:=be c1;rw[aq c1];by_cases c2:x.dl<0
  ·have d2:=be c2;simp only[SX,qy hg,qp hg,d1,d2,aq c2,ai];exact⟨ao,aS⟩
  ·have d2:=bm c2;simp only[SX,qy hg,qp hg,d1,d2,ap c2,ai];exact⟨ao,aS⟩
 have d1:=bm c1;rw[ap c1];by_cases c0:x.st=0
 ·have d0:=be c0;rw[aq c0];by_cases c2:x.ow=0
  ·have d2:=be c2;rw[aq c2];by_cases c3:x.dl=0
   ·have d3:=be c3;simp only[SX,qy hg,qp hg,d1,d0,D6 hg,d2,d3,aq c3,ai];exact⟨ao,aS⟩
   ·have d3:=bm c3;simp only[SX,qy hg,qp hg,d1,d0,D6 hg,d2,d3,ap c3,ai];exact⟨ao,aS⟩
  ·have d2:=bm c2;rw[ap c2];simp only[SX,qy hg,qp hg,d1,d0,D6 hg,d2,ai];exact⟨ao,aS⟩
 have d0:=bm c0;rw[ap c0];by_cases c2:x.st=2
 ·have d2:=be c2;rw[aq c2];by_cases c3:x.dl=0
  ·have d3:=be c3;simp only[SX,qy hg,qp hg,d1,d0,d2,d3,aq c3,ai];exact⟨ao,aS⟩
  ·have d3:=bm c3;simp only[SX,qy hg,qp hg,d1,d0,d2,d3,ap c3,ai];exact⟨ao,aS⟩
 ·have d2:=bm c2;rw[ap c2];simp only[SX,qy hg,qp hg,d1,d0,d2,ai];exact⟨ao,aS⟩
def Lb(x:fA)(t:Int):Int:=if Me x=0 then(if t<0 then 7 else 0)else Me x
def Ao(x:fA)(w:Int):Int:=if Me x=0 then(if x.st=w then 0 else 15)else Me x
def oD(x:fA)(t:Int)(W:AW):bf (.func (.func 187) #[] #[]) [me x,.af t] W=some (.af (Lb x t),W):=by
 refine aX rfl ?_ Ga;unfold DM;have hg:(W.add (.cells (fo x))).get W.next=some (.cells (fo x)):=AW.aH _ _;have aS:Le W (W.add (.cells (fo x))):=(Le.refl _).add _;simp only[SX];generalize W.add (.cells (fo x))=W1 at *;unfold Lb;by_cases c1:Me x=0
 ·have d1:=be c1;rw[aq c1];by_cases c2:t<0
  ·have d2:=be c2;simp only[SX,cy hg,kb,d1,d2,aq c2,ai];exact⟨ao,aS⟩
  ·have d2:=bm c2;simp only[SX,cy hg,kb,d1,d2,ap c2,ai];exact⟨ao,aS⟩
 ·have d1:=bm c1;simp only[SX,cy hg,kb,d1,ap c1,ai];exact⟨ao,aS⟩
def dI(x:fA)(w:Int)(W:AW):bf (.func (.func 188) #[] #[]) [me x,.af w] W=some (.af (Ao x w),W):=by
 refine aX rfl ?_ Fj;unfold BW;have hg:(W.add (.cells (fo x))).get W.next=some (.cells (fo x)):=AW.aH _ _;have aS:Le W (W.add (.cells (fo x))):=(Le.refl _).add _;simp only[SX,aN];generalize W.add (.cells (fo x))=W1 at *;unfold Ao;by_cases c1:Me x=0
 ·have d1:=be c1;rw[aq c1];by_cases c2:x.st=w
  ·have d2:=be c2;simp only[SX,cy hg,kb,d1,qp hg,d2,aq c2,ai];exact⟨ao,aS⟩
  ·have d2:=bm c2;simp only[SX,cy hg,kb,d1,qp hg,d2,ap c2,ai];exact⟨ao,aS⟩
 ·have d1:=bm c1;simp only[SX,cy hg,kb,d1,ap c1,ai];exact⟨ao,aS⟩
def tu(x:fA):fA:=⟨0,0,0,x.se,x.ep⟩
def K8(x:fA)(W:AW):∃W1 W2,nG (me x) W=some (.pointer (some ⟨W.next,0,none⟩),W1)/\cl Tryz.prog 87 W1=some (.pointer (some ⟨W.next+1,0,none⟩),W2)/\Le W W2/\W2.next=W.next+2/\W2.get W.next=some (.cells (fo x))/\W2.get (W.next+1)=some (.cells (fo BG)):=
 ⟨_,_,ahs _ _,by rw[yF,AW.ar],((Le.refl _).add _).add _,by rw[AW.ar,AW.ar],by rw[AW.aD _ _ (by rw[AW.ar];omega),AW.aH],by rw[show W.next+1=(W.add (.cells (fo x))).next by rw[AW.ar],AW.aH]⟩
def wv(x:fA)(W:AW):bf (.func (.func 194) #[] #[]) [me x] W=some (me (tu x),W):=by refine aX rfl ?_ FW;unfold Ez;obtain⟨W1,W2,k1,k2,aS,n2,g1,g2⟩:=K8 x W;have st:=PY (x:=tu x) g2;simp only[SX,k1,k2,aN,No g1,Tu g1,an0,show me ⟨0,0,0,x.se,x.ep⟩=me (tu x)from rfl,st,zD,qX,cy (x:=tu x) (AW.aW _ _ _),bL,ai];exact⟨ao,aS.put (by omega) _⟩
def acp:((#[251]:Array ae)[0]?).bind Tryz.prog.underlying=some (.slice 35):=by kernel_rfl
def Gt(a b:Int)(W:AW):dA Tryz.prog 251 2 [(0,.af a),(1,.af b)] W=some (.slice (some ⟨W.next,0,none⟩) 2 2,W.add (.cells [.af a,.af b])):=aL (by kernel_rfl) rfl
def Vx{W:AW}{v:ad}{a b:Int}(h:gg W v [a,b]):bf (.func (.func 186) #[] #[]) [v] W=some (.af (if a=0 then b else a),W):=by
 refine aX rfl ?_ yb;unfold tG;have eG:∀V,Le W V->aR Tryz.prog .len #[251] 3 #[false] [v] V=some (.af 2,V):=λV hV=>by have:=(h.mono hV).len acp;exact this V 3 #[false]
 obtain⟨p0,i0,k0⟩:=gg.get h (i:=0) (by simp);obtain⟨p1,i1,k1⟩:=gg.get h (i:=1) (by simp);simp only[SX,eG W (Le.refl _)];refine bz 2 (by omega) (λi R V=>V=W/\R 3=.af 0/\R 6=v/\R 7=.af 2/\R 8=.af (i:Int)/\(1<=i->a=0)/\(2<=i->b=0))
  (λr=>r.2.2=W/\((r.1=.exit 0/\r.2.1 3=.af 0/\a=0/\b=0)\/(r.1=.ret/\r.2.1 2=.af (if a=0 then b else a)))) ⟨rfl,rfl,rfl,rfl,rfl,by omega,by omega⟩ ?_ ?_ ?_
 ·rintro i R V hi ⟨rfl,r3,r6,r7,r8,ha,hb⟩;unfold kr;have t1:((i:Int)<2):=by omega
  have t2:=λW'=>bJ W' i 1
  have e3:((i+1:Nat):Int)=(i:Int)+1:=by omega
  rcases(by omega:i=0\/i=1)with rfl|rfl
  ·have e0:∀W' k,nR 1 v (.int k ((0:Nat):Int)) W'=some (p0,W'):=i0;have l0:bG p0 V=some (.af a,V):=k0 V (Le.refl _);by_cases c:a=0
   ·have d:=be c;simp only[SX,r3,r6,r7,r8,t1,e0,l0,d,t2,ai];exact .inl ⟨ao,ao,r3,r6,r7,by rw[e3];rfl,λ_=>c,by omega⟩
   ·have d:=bm c;simp only[SX,r3,r6,r7,r8,t1,e0,l0,d,ai];exact .inr ⟨by simp,ao,.inr ⟨ao,by rw[ap c];rfl⟩⟩
  ·have e0:∀W' k,nR 1 v (.int k ((1:Nat):Int)) W'=some (p1,W'):=i1;have l0:bG p1 V=some (.af b,V):=k1 V (Le.refl _);have ha:=ha (aM _);by_cases c:b=0
   ·have d:=be c;simp only[SX,r3,r6,r7,r8,t1,e0,l0,d,t2,ai];exact .inl ⟨ao,ao,r3,r6,r7,by rw[e3];rfl,λ_=>ha,λ_=>c⟩
   ·have d:=bm c;simp only[SX,r3,r6,r7,r8,t1,e0,l0,d,ai];exact .inr ⟨by simp,ao,.inr ⟨ao,by rw[aq ha];rfl⟩⟩
 ·rintro R V ⟨rfl,r3,r6,r7,r8,ha,hb⟩;unfold kr;have t1:¬(((2:Nat):Int)<2):=by omega
  simp only[SX,r7,r8,t1,ai];exact⟨by simp,ao,.inl ⟨ao,r3,ha (by omega),hb (by omega)⟩⟩
 ·rintro⟨q,R,V⟩ ⟨rfl,hq⟩;simp only at hq;rcases hq with⟨rfl,r3,ha,hb⟩|⟨rfl,r2⟩
  ·simp only[SX,r3,ai];exact⟨by rw[aq ha,hb],Le.refl _⟩
  ·simp only[SX,r2,ai];exact⟨ao,Le.refl _⟩
end Go.Proofs.YtmaoneengdafhaaGreatDoor
namespace Go.Proofs.YtmaoneengdafhaaGreatDoor.Ho
open Go Go.Eng
def Ut:((#[150]:Array ae)[0]?).bind Tryz.prog.underlying=some (.slice 2):=by kernel_rfl
def Zd(a b:Int)(W:AW):dA Tryz.prog 150 2 [(0,.af a),(1,.af b)] W=some (.slice (some ⟨W.next,0,none⟩) 2 2,W.add (.cells [.af a,.af b])):=aL (by kernel_rfl) rfl
def Tg(a b:Int)(W:AW):aR Tryz.prog .min #[2,2] 2 #[false,false] [.af a,.af b] W=some (.af (min a b),W):=by
 have e:aR Tryz.prog .min #[2,2] 2 #[false,false] [.af a,.af b] W=(mo Tryz.prog ([Value.int .i64 a,.af b].all bC) (builtin .min #[2,2] 2 #[false,false] #[.af a,.af b])).map λv=>(v,W):=by unfold aR;rfl
 rw[e];have e2:builtin .min #[2,2] 2 #[false,false] #[.af a,.af b]=(do pure (.value (<-Builtin.min_ #[2,2] 2 #[.af a,.af b]))):=rfl;rw[e2];refine GI ?_ rfl _ rfl;unfold Builtin.min_;simp only[List.foldlM_cons,List.foldlM_nil,eT,Builtin.min2,gY,bL];congr 2;split<;>omega
def Yj{W:AW}{v:ad}{a b:Int}(h:gg W v [a,b]):bf (.func (.func 212) #[] #[]) [v] W=some (.af (min a b),W):=by
 refine aX rfl ?_ qU;unfold mU;obtain⟨p0,i1,i2⟩:=h.get (i:=0) (by simp);have i1':∀W' k,nR 1 v (.int k 0) W'=some (p0,W'):=i1;have i2':∀W',Le W W'->bG p0 W'=some (.af a,W'):=i2;obtain⟨p1,j1,j2⟩:=h.get (i:=1) (by simp);have j1':∀W' k,nR 1 v (.int k 1) W'=some (p1,W'):=j1;have j2':∀W',Le W W'->bG p1 W'=some (.af b,W'):=j2;have t0:¬((([a,b]:List Int).length:Int)<1):=by simp
 have tl:(([a,b]:List Int).length:Int)=2:=by simp
 simp only[SX,h.len Ut,t0,i1',i2' _ (.refl _)];refine bz 1 (by omega) (λk R W'=>W'=W/\R 0=v/\R 4=.af (1+(k:Int))/\R 3=.af (if k=0 then a else min a b))
  (λr=>r.1=.exit 0/\r.2.2=W/\r.2.1 3=.af (min a b)) ⟨rfl,rfl,rfl,rfl⟩ ?_ ?_ ?_
 ·rintro k R W' hk ⟨rfl,r0,r4,r3⟩;obtain rfl:k=0:=by omega
  unfold fX;have r4':R 4=.af 1:=r4;have r3':R 3=.af a:=r3;have t1:((1:Int)<2):=by omega
  have t2:=λW'=>bJ W' 1 1
  simp only[SX,r0,r4',r3',h.len Ut,tl,t1,j1',j2' _ (.refl _),Tg,t2,ai];exact .inl ⟨ao,ao,r0,rfl,rfl⟩
 ·rintro R W' ⟨rfl,r0,r4,r3⟩;unfold fX;have t1:¬(1+((1:Nat):Int)<2):=by omega
  simp only[SX,r0,r4,h.len Ut,tl,t1,ai];exact⟨by simp,ao,ao,r3⟩
 ·rintro⟨x,R,W'⟩ ⟨hx,rfl,r3⟩;simp only at hx r3;subst hx;simp only[SX,r3,ai];exact⟨ao,.refl _⟩
def KX{W:AW}{v:ad}{a b:Int}(h:gg W v [a,b]):bf (.func (.func 197) #[] #[]) [v] W=some (.bool (decide (min a b<0)),W):=by refine aX rfl ?_ Gc;unfold DT;simp only[SX,Yj h,ai];exact⟨ao,.refl _⟩
def G0{a b:Int}(ha:0<=a)(hb:0<=b)(W:AW):bf (.func (.func 165) #[] #[]) [.af a,.af b] W=some (.tuple #[.bool (decide (a<=b)),.af 0],W):=by refine aX rfl ?_ CB;unfold Af;have hI:gg (W.add (.cells [.af a,.af b])) (.slice (some ⟨W.next,0,none⟩) 2 2) [a,b]:=JX [a,b] 2 W;have hm:=KX hI;rw[bm (show¬min a b<0 by omega)]at hm;simp only[SX,Zd,hm,ai];exact⟨ao,(Le.refl _).add _⟩
end Go.Proofs.YtmaoneengdafhaaGreatDoor.Ho
namespace Go.Proofs.YtmaoneengdafhaaGreatDoor
open Go Go.Eng
def FZ(x:fA)(now:Int):Int:=if Lb x now≠0 then Lb x now else if Ao x 1≠0 then Ao x 1 else if x.dl<=now then 0 else 9
def vL(x:fA)(now:Int):fA:=if FZ x now=0 then tu x else x
def LX(x:fA)(now:Int)(W:AW):bf (.func (.func 169) #[] #[]) [me x,.af now] W=some (.tuple #[me (vL x now),.af (FZ x now)],W):=by
 refine aX rfl ?_ Cr;unfold zu;obtain⟨W1,W2,k1,k2,aS,n2,g1,g2⟩:=K8 x W;have hI:gg (W2.add (.cells [.af (Lb x now),.af (Ao x 1)])) (.slice (some ⟨W2.next,0,none⟩) 2 2) [Lb x now,Ao x 1]:=by refine⟨_,2,rfl,.inr ⟨W2.next,0,[.af (Lb x now),.af (Ao x 1)],rfl,by rw[AW.ar];omega,bU,λi hi=>?_⟩⟩;rcases(by simp at hi;omega:i=0\/i=1)with rfl|rfl<;>rfl
 have KI:=Vx hI;obtain⟨W3,hW3⟩:∃W3,W3=W2.add (.cells [.af (Lb x now),.af (Ao x 1)]):=⟨_,rfl⟩;rw[<-hW3]at KI;have l3:Le W2 W3:=by rw[hW3];exact(Le.refl _).add _
 have h1:=(l3.get W.next (by omega)).trans g1;have h2:=(l3.get (W.next+1) (by omega)).trans g2;have n3:=l3.next;have pE:∀o,Le W (W3.put (W.next+1) o):=λo=>(aS.trans l3).put (by omega) o
 have st:=λy=>PY (x:=y) h2
 have ld:=λy=>cy (x:=y) (W:=W3.put (W.next+1) (.cells (fo y))) (b:=W.next+1) (AW.aW _ _ _)
 by_cases c1:Lb x now=0;case neg=>
  have e1:FZ x now=Lb x now:=by unfold FZ;rw[aq c1]
  have e2:vL x now=x:=by unfold vL;rw[ap (by rw[e1];exact c1)]
  have d1:=bm c1;rw[ap c1]at KI;simp only[SX,k1,k2,cy g1,oD,dP,oS,lX,dI,Gt,<-hW3,KI,d1,cy h1,st x,cr,qX,ld x,bL,ai];exact⟨by rw[e1,e2],pE _⟩
 rw[aq c1]at KI;by_cases c2:Ao x 1=0;case neg=>
  have e1:FZ x now=Ao x 1:=by unfold FZ;rw[bK,aq c2]
  have e2:vL x now=x:=by unfold vL;rw[ap (by rw[e1];exact c2)]
  have d1:=bm c2;simp only[SX,k1,k2,cy g1,oD,dP,oS,lX,dI,Gt,<-hW3,KI,d1,cy h1,st x,cr,qX,ld x,bL,ai];exact⟨by rw[e1,e2],pE _⟩
 have d1:=be c2;obtain⟨hs,hn⟩:0<=x.dl/\0<=now:=by
  unfold Lb at c1;unfold Ao at c2;by_cases c:Me x=0
  ·rw[aq c]at c1 c2;by_cases c3:x.st=1
   ·have h4:=UT c3;rw[c]at h4;refine⟨?_,?_⟩
    ·by_cases c4:x.dl<0
     ·rw[aq c4]at h4;omega
     ·omega
    ·by_cases c4:now<0
     ·rw[aq c4]at c1;omega
     ·omega
   ·rw[ap c3]at c2;omega
  ·rw[ap c]at c1;exact absurd c1 c
 have hp:=Ho.G0 hs hn W3;by_cases c3:x.dl<=now
 ·have d3:=be c3;rw[d3]at hp;have e1:FZ x now=0:=by unfold FZ;rw[bK,bK,aq c3]
  have e2:vL x now=tu x:=by unfold vL;rw[aq e1]
  simp only[SX,k1,k2,cy g1,oD,dP,oS,lX,dI,Gt,<-hW3,KI,d1,aN,qy h1,hp,cy h1,wv,st (tu x),cr,qX,ld (tu x),bL,ai];exact⟨by rw[e1,e2],pE _⟩
 ·have d3:=bm c3;rw[d3]at hp;have e1:FZ x now=9:=by unfold FZ;rw[bK,bK,ap c3]
  have e2:vL x now=x:=by unfold vL;rw[ap (by rw[e1];decide)]
  simp only[SX,k1,k2,cy g1,oD,dP,oS,lX,dI,Gt,<-hW3,KI,d1,aN,qy h1,hp,cy h1,st x,cr,qX,ld x,bL,ai];exact⟨by rw[e1,e2],pE _⟩
def qd(x:fA)(o:Int):Int:=if Ao x 1≠0 then Ao x 1 else if x.ow=o then 0 else 14
def CS(x:fA)(o:Int)(W:AW):bf (.func (.func 193) #[] #[]) [me x,.int .u32 o] W=some (.af (qd x o),W):=by
 refine aX rfl ?_ FG;unfold Du qd;have hg:(W.add (.cells (fo x))).get W.next=some (.cells (fo x)):=AW.aH _ _;have aS:Le W (W.add (.cells (fo x))):=(Le.refl _).add _;simp only[SX,aN];generalize W.add (.cells (fo x))=W1 at *;by_cases c:Ao x 1=0
 ·have d:=be c;rw[bK];by_cases c2:x.ow=o
  ·have d2:=be c2;simp only[SX,cy hg,dI,d,D6 hg,d2,aq c2,ai];exact⟨ao,aS⟩
  ·have d2:=bm c2;simp only[SX,cy hg,dI,d,D6 hg,d2,ap c2,ai];exact⟨ao,aS⟩
 ·have d:=bm c;rw[aq c];simp only[SX,cy hg,dI,d,ai];exact⟨ao,aS⟩
def VW(x:fA)(o:Int):fA:=if qd x o=0 then tu x else x
def HS(x:fA)(o:Int)(W:AW):bf (.func (.func 155) #[] #[]) [me x,.int .u32 o] W=some (.tuple #[me (VW x o),.af (qd x o)],W):=by
 refine aX rfl ?_ A7;unfold xq VW;obtain⟨W1,W2,k1,k2,aS,n2,g1,g2⟩:=K8 x W;have pE:∀o,Le W (W2.put (W.next+1) o):=λo=>aS.put (by omega) o
 have st:=λy=>PY (x:=y) g2
 have ld:=λy=>cy (x:=y) (W:=W2.put (W.next+1) (.cells (fo y))) (b:=W.next+1) (AW.aW _ _ _)
 by_cases c:qd x o=0
 ·have d:=be c;simp only[SX,k1,k2,cy g1,CS,d,wv,st (tu x),cr,qX,ld (tu x),bL,aq c,ai];exact⟨by rw[c],pE _⟩
 ·have d:=bm c;simp only[SX,k1,k2,cy g1,CS,d,st x,cr,qX,ld x,bL,ap c,ai];exact⟨ao,pE _⟩
def aha(o a b:Int)(W:AW):dX Tryz.prog 87 [(0,.af 2),(1,.int .u32 o),(3,.int .u64 a),(4,.int .u64 b)] W=some (me ⟨2,o,0,a,b⟩,W):=aL (by kernel_rfl) rfl
def Y1{t:ae}{c d:Bool}{a b:Int}(W:AW):bs Tryz.prog .add t c d (.int .u64 a) (.int .u64 b) W=some (.int .u64 (IntKind.u64.wrap (a+b)),W):=jK (by simp only[Bc,oL,vT])
def Ms(x:fA):Int:=if x.se=18446744073709551615 then 17 else 0
def FY(x:fA)(o:Int):fA:=if Ms x=0 then⟨2,o,0,IntKind.u64.wrap (x.se+1),x.ep⟩else x
def Ls(x:fA)(o:Int)(W:AW):bf (.func (.func 196) #[] #[]) [me x,.int .u32 o] W=some (.tuple #[me (FY x o),.af (Ms x)],W):=by
 refine aX rfl ?_ Fg;unfold BI FY Ms;obtain⟨W1,W2,k1,k2,aS,n2,g1,g2⟩:=K8 x W;have pE:∀o,Le W (W2.put (W.next+1) o):=λo=>aS.put (by omega) o
 have st:=λy=>PY (x:=y) g2
 have ld:=λy=>cy (x:=y) (W:=W2.put (W.next+1) (.cells (fo y))) (b:=W.next+1) (AW.aW _ _ _)
 by_cases c:x.se=18446744073709551615
 ·have d:=be c;simp only[SX,k1,k2,aN,No g1,d,cy g1,st x,cr,qX,ld x,bL,aq c,ai];exact⟨rfl,pE _⟩
 ·have d:=bm c;simp only[SX,k1,k2,aN,No g1,Tu g1,d,Y1,aha,st ⟨2,o,0,IntKind.u64.wrap (x.se+1),x.ep⟩,cr,qX,ld ⟨2,o,0,IntKind.u64.wrap (x.se+1),x.ep⟩,bL,ap c,ai];exact⟨rfl,pE _⟩
def Ia(x:fA)(o:Int):Int:=if qd x o≠0 then qd x o else Ms x
def JK(x:fA)(o:Int):fA:=if Ia x o=0 then FY x o else x
def Wh{x:fA}{o:Int}(h:Ms x≠0):FY x o=x:=by unfold FY;rw[ap h]
def W8(x:fA)(o:Int)(W:AW):bf (.func (.func 157) #[] #[]) [me x,.int .u32 o] W=some (.tuple #[me (JK x o),.af (Ia x o)],W):=by
 refine aX rfl ?_ HC;unfold GC JK Ia;obtain⟨W1,W2,k1,k2,aS,n2,g1,g2⟩:=K8 x W;have pE:∀o,Le W (W2.put (W.next+1) o):=λo=>aS.put (by omega) o
 have st:=λy=>PY (x:=y) g2
 have ld:=λy=>cy (x:=y) (W:=W2.put (W.next+1) (.cells (fo y))) (b:=W.next+1) (AW.aW _ _ _)
 by_cases c:qd x o=0
 ·have d:=be c;have e:(if Ms x=0 then FY x o else x)=FY x o:=by
   split
   ·rfl
   ·rename_i h;exact(Wh h).symm
  simp only[SX,k1,k2,cy g1,CS,Ls,st (FY x o),cr,qX,ld (FY x o),bL,c,ap (show¬((0:Int)≠0)by omega),e,ai];exact⟨ao,pE _⟩
 ·have d:=bm c;simp only[SX,k1,k2,cy g1,CS,d,st x,cr,qX,ld x,bL,aq c,ap c,ai];exact⟨ao,pE _⟩
def g27:Tryz.prog.eqGuardType Tryz.prog.depth 48=false:=by kernel_rfl
noncomputable def EM(r:Option Bool):List (Int×Int)->Option Bool
 |[]=>r
 |p::l=>match some (p.1==p.2)with
  |some true=>EM r l
  |some false=>some false
  |none=>none
def AA(b:Bool):∀l:List (Int×Int),EM (some b) l=some ((l.all λp=>p.1==p.2)&&b)
 |[]=>rfl
 |p::l=>by
  unfold EM;cases h:p.1==p.2 with
  |true=>simp only[eK,h,np];exact AA b l
  |false=>simp only[eK,h,uC]
def q27(k ow un se sc n to t1 t2 t3 t4 nw k' ow' un' se' sc' n' to' NR Nt Oe Mt XD:Int):I7 Tryz.prog 8 48 (.agg (kS k ow un se sc n to t1 t2 t3 t4 nw)) (.agg (kS k' ow' un' se' sc' n' to' NR Nt Oe Mt XD))=
 EM (match tQ [(t1,NR),(t2,Nt),(t3,Oe),(t4,Mt)]with|some true=>tQ [(nw,XD)]|some false=>some false|none=>none) [(k,k'),(ow,ow'),(un,un'),(se,se'),(sc,sc'),(n,n'),(to,to')]:=by kernel_rfl
def aiY(k ow un se sc n to t1 t2 t3 t4 nw k' ow' un' se' sc' n' to' NR Nt Oe Mt XD:Int):Bool:=
 ([(k,k'),(ow,ow'),(un,un'),(se,se'),(sc,sc'),(n,n'),(to,to')]:List (Int×Int)).all (λp=>p.1==p.2)&&(([(t1,NR),(t2,Nt),(t3,Oe),(t4,Mt)]:List (Int×Int)).all (λp=>p.1==p.2)&&([(nw,XD)]:List (Int×Int)).all (λp=>p.1==p.2))
def aiI(k ow un se sc n to t1 t2 t3 t4 nw k' ow' un' se' sc' n' to' NR Nt Oe Mt XD:Int)(c d:Bool)(W:AW):
 bs Tryz.prog .neq 48 c d (.agg #[.af k,.int .u32 ow,.af un,.af se,.af sc,.af n,.int .u32 to,.int .u32 t1,.int .u32 t2,.int .u64 t3,.int .u64 t4,.af nw]) (.agg #[.af k',.int .u32 ow',.af un',.af se',.af sc',.af n',.int .u32 to',.int .u32 NR,.int .u32 Nt,.int .u64 Oe,.int .u64 Mt,.af XD]) W=
  some (.bool (!aiY k ow un se sc n to t1 t2 t3 t4 nw k' ow' un' se' sc' n' to' NR Nt Oe Mt XD),W):=by
 refine od g27 ((q27 ..).trans ?_);have h:(match tQ [(t1,NR),(t2,Nt),(t3,Oe),(t4,Mt)]with|some true=>tQ [(nw,XD)]|some false=>some false|none=>none)=some (([(t1,NR),(t2,Nt),(t3,Oe),(t4,Mt)]:List (Int×Int)).all (λp=>p.1==p.2)&&([(nw,XD)]:List (Int×Int)).all (λp=>p.1==p.2)):=by
  rw[pf];cases([(t1,NR),(t2,Nt),(t3,Oe),(t4,Mt)]:List (Int×Int)).all (λp=>p.1==p.2)with
  |true=>rw[np];exact pf _
  |false=>rfl
 rw[h,AA];rfl
structure jS where
 k:Int
 ow:Int
 un:Int
 se:Int
 sc:Int
 n:Int
 to:Int
 t1:Int
 t2:Int
 t3:Int
 t4:Int
 nw:Int
structure oE where
 er:Int
 se:Int
 n:Int
 dl:Int
 t1:Int
 t2:Int
 t3:Int
 t4:Int
 pl:Int
def op0:jS:=⟨0,0,0,0,0,0,0,0,0,0,0,0⟩
def kI:oE:=⟨0,0,0,0,0,0,0,0,0⟩
abbrev Jm(o:jS):ad:=.agg #[.af o.k,.int .u32 o.ow,.af o.un,.af o.se,.af o.sc,.af o.n,.int .u32 o.to,.int .u32 o.t1,.int .u32 o.t2,.int .u64 o.t3,.int .u64 o.t4,.af o.nw]
abbrev lC(r:oE):ad:=.agg #[.af r.er,.af r.se,.af r.n,.af r.dl,.int .u32 r.t1,.int .u32 r.t2,.int .u64 r.t3,.int .u64 r.t4,.af r.pl]
structure fF where
 id:Int
 th:Int
 ret:Bool
 op:jS
 rp:oE
structure gn where
 id:Int
 th:Int
 fr:Int
 to:Int
 op:jS
 rp:oE
abbrev jJ(e:fF):List ad:=[.af e.id,.af e.th,.bool e.ret,.af e.op.k,.int .u32 e.op.ow,.af e.op.un,.af e.op.se,.af e.op.sc,.af e.op.n,.int .u32 e.op.to,.int .u32 e.op.t1,.int .u32 e.op.t2,.int .u64 e.op.t3,.int .u64 e.op.t4,.af e.op.nw,
 .af e.rp.er,.af e.rp.se,.af e.rp.n,.af e.rp.dl,.int .u32 e.rp.t1,.int .u32 e.rp.t2,.int .u64 e.rp.t3,.int .u64 e.rp.t4,.af e.rp.pl]
abbrev iz(e:gn):List ad:=[.af e.id,.af e.th,.af e.fr,.af e.to,.af e.op.k,.int .u32 e.op.ow,.af e.op.un,.af e.op.se,.af e.op.sc,.af e.op.n,.int .u32 e.op.to,.int .u32 e.op.t1,.int .u32 e.op.t2,.int .u64 e.op.t3,.int .u64 e.op.t4,.af e.op.nw,
 .af e.rp.er,.af e.rp.se,.af e.rp.n,.af e.rp.dl,.int .u32 e.rp.t1,.int .u32 e.rp.t2,.int .u64 e.rp.t3,.int .u64 e.rp.t4,.af e.rp.pl]
abbrev XA(e:fF):ad:=.agg (jJ e).toArray
abbrev Eg(e:gn):ad:=.agg (iz e).toArray
def ev0:fF:=⟨0,0,false,op0,kI⟩
def ho0:gn:=⟨0,0,0,0,op0,kI⟩
def xi{b o:Nat}{cs:List ad}{x:ad}{W:AW}(h:W.get b=some (.cells cs))(hv:cs[o]? =some x):bG (.pointer (some ⟨b,o,none⟩)) W=some (x,W):=aZ (az h) hv
def abw{W:AW}{b:Nat}{cs:List ad}(h:W.get b=some (.cells cs)):aK W b=some cs:=by unfold aK;rw[h]
def La{cs vs:List ad}(h:cs.length=vs.length):fN cs 0 vs=vs:=by unfold fN;rw[qJ,lM,aN,<-h,zH,iD]
def kJ{n b:Nat}{cs:List ad}{vs:Array ad}{W:AW}(h:W.get b=some (.cells cs))(h1:cs.length=n)(h2:vs.size=n)(h3:vs.toList.all Eng.one=true):gv n (.pointer (some ⟨b,0,none⟩)) (.agg vs) W=some (ak,W.put b (.cells vs.toList)):=by have hl:=Array.length_toList (xs:=vs);rw[zq,abw h,bL,aq ⟨h2,by omega,h3⟩,La (by omega)]
def aki{t:ae}{zs vs:List ad}{n:Nat}(ha:∀W:AW,cl Tryz.prog t W=some (.pointer (some ⟨W.next,0,none⟩),W.add (.cells zs)))(h1:zs.length=n)(h2:vs.length=n)(h3:vs.all Eng.one=true)(W:AW):
 ∃V V2,cl Tryz.prog t W=some (.pointer (some ⟨W.next,0,none⟩),V)/\gv n (.pointer (some ⟨W.next,0,none⟩)) (.agg vs.toArray) V=some (ak,V2)/\Le W V2/\V2.next=W.next+1/\V2.get W.next=some (.cells vs):=by
 refine⟨_,_,ha W,kJ (AW.aH _ _) h1 (by simpa using h2) (by simpa using h3),((Le.refl _).add _).put (aM _) _,by rw[AW.bh,AW.ar],?_⟩;rw[AW.aW]
def abl(W:AW):cl Tryz.prog 52 W=some (.pointer (some ⟨W.next,0,none⟩),W.add (.cells (jJ ev0))):=aL (by kernel_rfl) rfl
def LC(W:AW):cl Tryz.prog 77 W=some (.pointer (some ⟨W.next,0,none⟩),W.add (.cells (iz ho0))):=aL (by kernel_rfl) rfl
def aag(W:AW):dX Tryz.prog 48 [] W=some (Jm op0,W):=aL (by kernel_rfl) rfl
def Xe(W:AW):dX Tryz.prog 50 [] W=some (lC kI,W):=aL (by kernel_rfl) rfl
def agy(e:fF)(W:AW):∃V V2,cl Tryz.prog 52 W=some (.pointer (some ⟨W.next,0,none⟩),V)/\gv 24 (.pointer (some ⟨W.next,0,none⟩)) (XA e) V=some (ak,V2)/\Le W V2/\V2.next=W.next+1/\V2.get W.next=some (.cells (jJ e)):=
 aki (n:=24) (vs:=jJ e) abl rfl rfl rfl W
section
variable {W:AW} {b:Nat} {e:fF} {h:gn}
def Fc(x:W.get b=some (.cells (jJ e))):fd 12 (.pointer (some ⟨b,3,none⟩)) W=some (Jm e.op,W):=bV (az x) rfl
def Dv(x:W.get b=some (.cells (jJ e))):fd 9 (.pointer (some ⟨b,15,none⟩)) W=some (lC e.rp,W):=bV (az x) rfl
def Hq(x:W.get b=some (.cells (jJ e))):fd 24 (.pointer (some ⟨b,0,none⟩)) W=some (XA e,W):=bV (az x) rfl
def WH(x:W.get b=some (.cells (jJ e))):bG (.pointer (some ⟨b,0,none⟩)) W=some (.af e.id,W):=xi x rfl
def Ji(x:W.get b=some (.cells (jJ e))):bG (.pointer (some ⟨b,1,none⟩)) W=some (.af e.th,W):=xi x rfl
def Dj(x:W.get b=some (.cells (jJ e))):bG (.pointer (some ⟨b,2,none⟩)) W=some (.bool e.ret,W):=xi x rfl
def Pa(x:W.get b=some (.cells (iz h))):fd 25 (.pointer (some ⟨b,0,none⟩)) W=some (Eg h,W):=bV (az x) rfl
def ad0(x:W.get b=some (.cells (iz h))):bG (.pointer (some ⟨b,2,none⟩)) W=some (.af h.fr,W):=xi x rfl
def I1(x:W.get b=some (.cells (iz h))):bG (.pointer (some ⟨b,3,none⟩)) W=some (.af h.to,W):=xi x rfl
def Vu(x:W.get b=some (.cells (iz h))):bG (.pointer (some ⟨b,0,none⟩)) W=some (.af h.id,W):=xi x rfl
end
def oP{α:Type}(z:Nat)(f:α->List ad)(cs:List ad)(p:Nat)(e:α):Prop:=(cs.drop p).take z=f e
abbrev RV(W:AW)(v:ad)(l:List fF):Prop:=Row W 24 (oP 24 jJ) v l
abbrev Mc(W:AW)(v:ad)(l:List gn):Prop:=Row W 25 (oP 25 iz) v l
def ig{α:Type}{z:Nat}{f:α->List ad}{cs:List ad}{p:Nat}{e:α}(h:oP z f cs p e){j:Nat}(hj:j<z):cs[p+j]? =(f e)[j]? :=by unfold oP at h;rw[<-h,lD,aq hj,qn]
def rM{α:Type}{z:Nat}{f:α->List ad}(hf:∀a,(f a).length=z)(a:α)(pre post:List ad):oP z f (pre++(f a++post)) pre.length a:=by unfold oP;rw[sS,<-hf a,sV]
def kX(e:fF):(jJ e).length=24:=rfl
def mQ(e:gn):(iz e).length=25:=rfl
def XK(e:fF):(jJ e).all Eng.one=true:=rfl
def ZG(e:gn):(iz e).all Eng.one=true:=rfl
def BQ:((#[25]:Array ae)[0]?).bind Tryz.prog.underlying=some (.slice 52):=by kernel_rfl
def Hi:((#[78]:Array ae)[0]?).bind Tryz.prog.underlying=some (.slice 77):=by kernel_rfl
def OX:((#[28]:Array ae)[0]?).bind Tryz.prog.underlying=some (.slice 3):=by kernel_rfl
def RV.get{W:AW}{v:ad}{l:List fF}(h:RV W v l){i:Nat}(hi:i<l.length):
 ∃b o,(∀W' k,nR 24 v (.int k (i:Int)) W'=some (.pointer (some ⟨b,o,none⟩),W'))/\b<W.next/\∀W',W'.get b=W.get b->fd 24 (.pointer (some ⟨b,o,none⟩)) W'=some (XA l[i],W')/\bG (.pointer (some ⟨b,o,none⟩)) W'=some (.af l[i].id,W')/\bG (.pointer (some ⟨b,o+1,none⟩)) W'=some (.af l[i].th,W')/\bG (.pointer (some ⟨b,o+2,none⟩)) W'=some (.bool l[i].ret,W')/\fd 9 (.pointer (some ⟨b,o+15,none⟩)) W'=some (lC l[i].rp,W'):=by
 obtain⟨b,o,cs,h1,h2,h3,h4⟩:=h.elem hi;refine⟨b,o,h1,h2,λW' hg=>?_⟩;have hc:aC W' b=some cs:=by
  have:aC W' b=aC W b:=by unfold aC;rw[hg]
  rw[this];exact h3
 have e0:(cs.drop o).take 24=jJ l[i]:=h4;refine⟨?_,aZ hc ((ig h4 (j:=0) (by omega)).trans rfl),aZ hc ((ig h4 (j:=1) (by omega)).trans rfl),aZ hc ((ig h4 (j:=2) (by omega)).trans rfl),?_⟩
 ·have:=bV (n:=24) (o:=o) hc (by rw[e0];rfl);rw[e0]at this;exact this
 ·have e9:(cs.drop (o+15)).take 9=(jJ l[i]).drop 15:=by rw[<-e0,List.drop_take,pM]
  have:=bV (n:=9) (o:=o+15) hc (by rw[e9];rfl);rw[e9]at this;exact this
def Mc.get{W:AW}{v:ad}{l:List gn}(h:Mc W v l){i:Nat}(hi:i<l.length):
 ∃b o,(∀W' k,nR 25 v (.int k (i:Int)) W'=some (.pointer (some ⟨b,o,none⟩),W'))/\b<W.next/\∀W',W'.get b=W.get b->fd 25 (.pointer (some ⟨b,o,none⟩)) W'=some (Eg l[i],W')/\bG (.pointer (some ⟨b,o,none⟩)) W'=some (.af l[i].id,W')/\bG (.pointer (some ⟨b,o+1,none⟩)) W'=some (.af l[i].th,W')/\bG (.pointer (some ⟨b,o+2,none⟩)) W'=some (.af l[i].fr,W')/\bG (.pointer (some ⟨b,o+3,none⟩)) W'=some (.af l[i].to,W'):=by
 obtain⟨b,o,cs,h1,h2,h3,h4⟩:=h.elem hi;refine⟨b,o,h1,h2,λW' hg=>?_⟩;have hc:aC W' b=some cs:=by
  have:aC W' b=aC W b:=by unfold aC;rw[hg]
  rw[this];exact h3
 have e0:(cs.drop o).take 25=iz l[i]:=h4;refine⟨?_,aZ hc ((ig h4 (j:=0) (by omega)).trans rfl),aZ hc ((ig h4 (j:=1) (by omega)).trans rfl),aZ hc ((ig h4 (j:=2) (by omega)).trans rfl),aZ hc ((ig h4 (j:=3) (by omega)).trans rfl)⟩;have:=bV (n:=25) (o:=o) hc (by rw[e0];rfl);rw[e0]at this;exact this
def anZ:Tryz.prog.eqGuardType Tryz.prog.depth 50=false:=by kernel_rfl
def alp(a b c d t1 t2 t3 t4 p a' b' c' d' NR Nt Oe Mt p':Int):I7 Tryz.prog 8 50 (.agg #[.af a,.af b,.af c,.af d,.int .u32 t1,.int .u32 t2,.int .u64 t3,.int .u64 t4,.af p]) (.agg #[.af a',.af b',.af c',.af d',.int .u32 NR,.int .u32 Nt,.int .u64 Oe,.int .u64 Mt,.af p'])=
 EM (match tQ [(t1,NR),(t2,Nt),(t3,Oe),(t4,Mt)]with|some true=>tQ [(p,p')]|some false=>some false|none=>none) [(a,a'),(b,b'),(c,c'),(d,d')]:=by kernel_rfl
def ahm{r:Option Bool}{rb:Bool}(hr:r=some rb)(l:List (Int×Int)):(match tQ l with|some true=>r|some false=>some false|none=>none)=some ((l.all λp=>p.1==p.2)&&rb):=by
 rw[pf];cases l.all λp=>p.1==p.2 with
 |true=>rw[np];exact hr
 |false=>rfl
open Classical in
def Vt(x y:oE)(c d:Bool)(W:AW):bs Tryz.prog .neq 50 c d (lC x) (lC y) W=some (.bool (!decide (x=y)),W):=by
 refine od anZ ((alp ..).trans ?_);rw[ahm (pf _),AA];congr 1;obtain⟨a,b,c,d,t1,t2,t3,t4,p⟩:=x;obtain⟨a',b',c',d',NR,Nt,Oe,Mt,p'⟩:=y;rw[wO];simp only[eK,wB,lX,a8,wq,gG,oE.mk.injEq];constructor
 ·rintro⟨⟨h1,h2,h3,h4⟩,⟨h5,h6,h7,h8⟩,h9⟩;exact⟨h1,h2,h3,h4,h5,h6,h7,h8,h9⟩
 ·rintro⟨h1,h2,h3,h4,h5,h6,h7,h8,h9⟩;exact⟨⟨h1,h2,h3,h4⟩,⟨h5,h6,h7,h8⟩,h9⟩
open Classical in
def aiV(x y:jS)(c d:Bool)(W:AW):bs Tryz.prog .neq 48 c d (Jm x) (Jm y) W=some (.bool (!decide (x=y)),W):=by
 refine(aiI ..).trans ?_;congr 3;congr 1;obtain⟨k,ow,un,se,sc,n,to,t1,t2,t3,t4,nw⟩:=x;obtain⟨k',ow',un',se',sc',n',to',NR,Nt,Oe,Mt,XD⟩:=y;unfold aiY;rw[wO];simp only[eK,wB,lX,a8,wq,gG,jS.mk.injEq];constructor
 ·rintro⟨⟨h1,h2,h3,h4,h5,h6,h7⟩,⟨h8,h9,FF,M3⟩,h12⟩;exact⟨h1,h2,h3,h4,h5,h6,h7,h8,h9,FF,M3,h12⟩
 ·rintro⟨h1,h2,h3,h4,h5,h6,h7,h8,h9,FF,M3,h12⟩;exact⟨⟨h1,h2,h3,h4,h5,h6,h7⟩,⟨h8,h9,FF,M3⟩,h12⟩
def Gq(o:jS):Int:=H3 o.k o.ow o.un o.se o.sc o.n o.to o.t1 o.t2 o.t3 o.t4 o.nw
def Gz(o:jS){W:AW}(h:GW W):bf (.func (.func 51) #[] #[]) [Jm o] W=some (.af (Gq o),W):=zU _ _ _ _ _ _ _ _ _ _ _ _ h
def cU:dF:=λc S=>gB (abX (S 2)) λa=>b8 (S 11) a λb=>gT b (mL 4 (S 10)) λd=>gT b (bG d) λe=>gT b (Z9 e) λf=>gT b (Xn f (I 1)) λg=>aY b g (.bool false) λh=>let T:=q S 43 [S 11,S 2,a,b,b,d,e,f,g,h];gI h (bR 1 (S 2) (S 11) λi=>aF i λj=>eh 42 3 j λk=>aE 4 (S 10) λl=>aF l λm=>gB (Z9 m) λn=>ji n (I 1) λo=>gB (ah5 k o) λp=>aE 4 (S 10) λr=>aF r λs=>bR 24 s p λt=>bu 24 t λu=>aE 4 (S 10) λv=>aF v λw=>cg p (I 1) λx=>bR 24 w x λy=>bu 24 y λz=>aG 52 λA=>aG 52 λB=>aI 24 A u λC=>gA (λW=>ur true (fd 24 y W) z&&(ur true (bG v W) w&&true)) (aI 24 B z λD=>aE 2 A λE=>aF E λF=>gT F (mL 2 B) λG=>gT F (bG G) λH=>gT F (TA .not H) λJ=>aY F J (.bool false) λK=>gT K (mL 1 A) λL=>gT K (bG L) λM=>gT K (mL 1 B) λN=>gT K (bG N) λO=>gT K (Jr M O) λP=>aY K P (.bool false) λQ=>let U:=q (q (q (q (q T 55 [S 2,S 11,i,j,k,l,m,n,o,p]) 12 [p]) 65 [r,s,p,t,u,v,w,p,x,y,z]) 13 [A,B]) 76 [E,F,F,G,H,J,K,K,L,M,N,O,P,Q];gI Q (aE 4 (S 10) λa0=>aF a0 λb0=>aE 4 (S 10) λd0=>aF d0 λe0=>cg p (I 1) λf0=>bu 24 B λg0=>bu 24 A λh0=>bR 24 b0 p λi0=>aI 24 i0 g0 λj0=>gA (λW=>ur true (fd 24 A W) h0&&(ur true (bG d0 W) e0&&true)) (bR 24 e0 f0 λk0=>aI 24 k0 h0 λl0=>cg (S 11) (I 1) λm0=>yN (q (q (q U 90 [a0,b0,p,d0,e0,p,f0,g0,h0,i0,k0]) 53 [S 11,m0]) 11 [m0]))) (cg (S 11) (I 1) λa0=>yN (q (q U 53 [S 11,a0]) 11 [a0])))) (yE 0 T)
def nO:yc:=λc a b d=>bw a λe=>bu 5 e λf=>cH c 6 [f,I 80] λg=>gF g (gy b) λh=>gF g (zt2 h) λi=>gF g (Xn i (I 60)) λj=>aY g (.bool true) j λk=>gF k (gy d) λl=>gF k (abX l) λm=>gF k (Xn m (I 60)) λn=>aY k (.bool true) n λo=>gI o (cH c 7 [] λp=>yO [(p,none)]) (bu 5 e λp=>cH c 8 [p,b] λr=>aB r 0 λs=>aB r 1 λt=>aB r 2 λu=>aG 34 λv=>aI 7 v s λw=>eg u (I 0) λx=>gI x (cH c 7 [] λy=>yO [(y,none)]) (bu 5 e λy=>cH c 11 [y] λz=>aG 27 λA=>aI 5 A z λB=>gL (cU c) (q (q (q (q (q (q (q (q (q (q (cR 0 [a,b,d] ah.blank) 3 [e]) 6 [.bool false]) 18 [f,g,g,h,i,j,k,k,l,m,n,o]) 32 [p,b,r]) 31 [r]) 35 [s,t,u]) 7 [v,t,u]) 38 [u,x]) 41 [y,z]) 10 [A,I 0]) λC S=>gX 0 C (bu 5 (S 10) λD=>cH c 8 [D,S 1] λE=>aB E 0 λF=>aB E 1 λG=>aB E 2 λH=>aG 34 λJ=>aI 7 J F λK=>OC H (I 0) λL=>gT L (fd 7 (S 7)) λM=>gT L (fd 7 J) λN=>gT L (zc c 10 [M,N]) λO=>aY L O (.bool false) λP=>gT P (zc c 7 []) λQ=>aY P Q (.bool false) λa0=>yO [(a0,none)]) yZ))
def rU{x0 x1 x2 W r}(h:nO bf x0 x1 x2 W=some r):OG 4 #[] [x0,x1,x2] W r:=oM 118 h (by kernel_rfl)
def gP:dF:=λc S=>b8 (S 51) (S 50) λa=>gI a (bR 1 (S 49) (S 51) λb=>aF b λd=>av (S 7) λe=>aE 5 e λf=>aF f λg=>ji d (I 1) λh=>bR 25 g h λi=>bu 25 i λj=>aG 77 λk=>aI 25 k j λl=>bu 7 (S 11) λm=>aE 4 k λn=>bu 12 n λo=>cH c 25 [m,o] λp=>aB p 0 λr=>aB p 1 λs=>aB p 2 λt=>aG 34 λu=>aG 50 λv=>aI 7 u r λw=>aI 9 v s λx=>bu 25 k λy=>cH c 26 [y] λz=>gT z (fd 9 v) λA=>gT z (mL 16 k) λB=>gT z (fd 9 B) λC=>gT z (adR A C) λD=>aY z D (.bool false) λE=>let T:=q (q (q (q (q (q (q (q (q S 52 [a,S 51,b,d]) 12 [S 51,d]) 56 [S 7,e,f,g,d,h,i,j]) 14 [k]) 65 [m,n,o,p]) 64 [p]) 69 [r,s,t]) 15 [u,v,t]) 72 [y,z,z,A,B,C,D,E];gI E (bu 7 (S 4) λF=>aI 7 (S 4) F λG=>yR (q (q T 80 [F,S 51]) 5 [S 51,I 6])) (bu 7 u λF=>aI 7 (S 11) F λG=>cg (S 51) (I 1) λH=>yN (q (q T 82 [F,H]) 51 [H]))) (yE 0 (q S 52 [a]))
def tO:fg:=λc a b=>bw a λd=>aG 34 λe=>bu 5 d λf=>cH c 22 [f] λg=>aB g 0 λh=>aB g 1 λi=>aB g 2 λj=>eg j (I 0) λk=>gI k (bu 7 e λl=>aI 7 e l λm=>yO [(e,some 34),(I 0,none),(j,none)]) (nf b λl=>tD l (I 400) λm=>gI m (bu 7 e λn=>aI 7 e n λo=>yO [(e,some 34),(I 0,none),(I 3,none)]) (cH c 23 [h,b] λn=>aB n 0 λo=>aB n 1 λp=>eg p (I 0) λr=>gI r (bu 7 e λs=>aI 7 e s λt=>yO [(e,some 34),(o,none),(p,none)]) (aE 0 d λs=>bu 4 s λt=>cH c 24 [t] λu=>aB u 0 λv=>aB u 1 λw=>aG 34 λx=>aI 7 x v λy=>nf b λz=>gL (gP c) (q (q (q (q (q (q (q (q (q (q (q (q (q (q (q (q (q (q (q (q (cR 0 [a,b] ah.blank) 2 [d]) 4 [e,I 0,I 0]) 19 [f,g]) 18 [g]) 21 [h,i,j]) 7 [h,i]) 6 [j]) 24 [j,k]) 28 [b,l,m]) 33 [h,b,n]) 32 [n]) 36 [o,p]) 9 [o,p]) 38 [p,r]) 44 [s,t,u]) 43 [u]) 47 [v,w]) 11 [x]) 6 [w]) 49 [b,z,I 0]) λA S=>gX 0 A (bu 7 (S 11) λB=>aI 7 (S 4) B λC=>yO [(S 4,some 34),(I 0,none),(S 6,none)]) (gR A (yO [(S 4,some 34),(S 5,none),(S 6,none)])))))
def yg{x0 x1 W r}(h:tO bf x0 x1 W=some r):OG 8 #[] [x0,x1] W r:=oM 86 h (by kernel_rfl)
def qL:dF:=λc S=>aE 5 (S 2) λa=>aF a λb=>gB (FN b) λd=>b8 (S 5) d λe=>let T:=q S 39 [S 5,a,b,d,e];gI e (aE 5 (S 2) λf=>aF f λg=>bR 5 g (S 5) λh=>bu 5 h λi=>aE 5 (S 3) λj=>aF j λk=>bR 5 k (S 5) λl=>bu 5 l λm=>gB (agm i m) λn=>let U:=q T 46 [f,g,S 5,h,i,j,k,S 5,l,m,n];gI n (yR (q U 4 [.bool false])) (cg (S 5) (I 1) λo=>yN (q (q U 44 [S 5,o]) 5 [o]))) (yE 0 T)
def mB:dF:=λc S=>aE 6 (S 2) λa=>aF a λb=>bR 1 b (S 6) λd=>aF d λe=>qB e λf=>b8 (S 7) f λg=>let T:=q S 77 [S 7,a,b,S 6,d,e,f,g];gI g (aE 6 (S 2) λh=>aF h λi=>bR 1 i (S 6) λj=>aF j λk=>bR 1 k (S 7) λl=>aF l λm=>aE 6 (S 3) λn=>aF n λo=>bR 1 o (S 6) λp=>aF p λr=>bR 1 r (S 7) λs=>aF s λt=>gB (XT m t) λu=>let U:=q T 87 [h,i,S 6,j,k,S 7,l,m,n,o,S 6,p,r,S 7,s,t,u];gI u (yR (q U 4 [.bool false])) (cg (S 7) (I 1) λv=>yN (q (q U 85 [S 7,v]) 7 [v]))) (yE 4 T)
def qw:dF:=λc S=>aE 6 (S 2) λa=>aF a λb=>gB (HW b) λd=>b8 (S 6) d λe=>let T:=q S 57 [S 6,a,b,d,e];gI e (aE 6 (S 2) λf=>aF f λg=>bR 1 g (S 6) λh=>aF h λi=>qB i λj=>aE 6 (S 3) λk=>aF k λl=>bR 1 l (S 6) λm=>aF m λn=>qB n λo=>gB (Jr j o) λp=>let U:=q T 64 [f,g,S 6,h,i,j,k,l,S 6,m,n,o,p];gI p (yR (q U 4 [.bool false])) (gL (mB c) (q U 7 [I 0]) λr V=>gX 4 r (cg (V 6) (I 1) λs=>yN (q (q V 62 [V 6,s]) 6 [s])) (gR r (yR V)))) (yE 2 T)
def Dp:fg:=λc a b=>bw a λd=>bw b λe=>aE 0 d λf=>bu 4 f λg=>aE 0 e λh=>bu 4 h λi=>cH c 29 [g,i] λj=>jB .not j λk=>gF k (mL 4 d) λl=>gF k (bG l) λm=>gF k (mL 4 e) λn=>gF k (bG n) λo=>gF k (Tc m o) λp=>aY k (.bool true) p λr=>gF r (mL 5 d) λs=>gF r (bG s) λt=>gF r (FN t) λu=>gF r (mL 5 e) λv=>gF r (bG v) λw=>gF r (FN w) λx=>gF r (Jr u x) λy=>aY r (.bool true) y λz=>gF z (mL 6 d) λA=>gF z (bG A) λB=>gF z (HW B) λC=>gF z (mL 6 e) λD=>gF z (bG D) λE=>gF z (HW E) λF=>gF z (Jr C F) λG=>aY z (.bool true) G λH=>gI H (yO [(.bool false,none)]) (gL (qL c) (q (q (q (cR 0 [a,b] ah.blank) 2 [d,e,.bool false]) 8 [f,g,h,i,j,k,k,l,m,n,o,p,r,r,s,t,u,v,w,x,y,z,z,A,B,C,D,E,F,G,H]) 5 [I 0]) λJ S=>gX 0 J (gL (qw c) (q S 6 [I 0]) λK T=>gX 2 K (yO [(.bool true,none)]) (gR K (yO [(T 4,none)]))) (gR J (yO [(S 4,none)])))
def Gg{x0 x1 W r}(h:Dp bf x0 x1 W=some r):OG 10 #[] [x0,x1] W r:=oM 104 h (by kernel_rfl)
def dZ:fg:=λc a b=>cH c 121 [a,b] λd=>gB (L9 d (I 0)) λe=>yO [(e,none)]
def gO{x0 x1 W r}(h:dZ bf x0 x1 W=some r):OG 95 #[] [x0,x1] W r:=oM 9 h (by kernel_rfl)
def fC:iu:=λc a=>gB (aiR a (.slice none 0 0)) λb=>gI b (yO [(.slice none 0 0,none)]) (cd 31 0 [] λd=>fI #[31,31] d a λe=>yO [(e,none)])
def jV{x0 W r}(h:fC bf x0 W=some r):OG 122 #[] [x0] W r:=oM 8 h (by kernel_rfl)
def eX:dF:=λc S=>b8 (S 16) (S 15) λa=>let T:=q S 17 [a];gI a (bR 1 (S 14) (S 16) λb=>aF b λd=>tA d (I 1) λe=>gF e (gy d) λf=>gF e (bG (S 2)) λg=>gF e (rh g) λh=>gF e (mL 5 h) λi=>gF e (bG i) λj=>gF e (zt6 j) λk=>gF e (ZA f k) λl=>aY e (.bool true) l λm=>let U:=q (q (q (q T 18 [S 16,b,d]) 7 [S 16,d]) 22 [d,e,e,f,g,h,i,j,k,l,m]) 21 [m];gI m (aI 1 (S 4) (S 16) λn=>aI 1 (S 5) (I 4) λo=>yR (q U 33 [S 16])) (aF (S 6) λn=>gB (uA 115 n d false) λo=>let V:=q (q U 35 [n,d,o]) 34 [o];gI o (aI 1 (S 4) (S 16) λp=>aI 1 (S 5) (I 8) λr=>yR (q V 38 [S 16])) (aF (S 6) λp=>gB (pW 115 p d (.bool true)) λr=>cg (S 16) (I 1) λs=>yN (q (q V 39 [p,d,s]) 16 [s])))) (yE 0 T)
def il:dF:=λc S=>aG 77 λa=>aI 25 a (S 44) λb=>yN (q S 9 [a])
def lY(call:Eng.Callee)(R:Nat->ad)(W:AW):eH Tryz.prog call false 68 (wR [1,1,1,0,1,0,0] (Bz 23)) LT R W ke=il call R W:=by kernel_rfl
def ip:dF:=λc S=>aF (S 6) λa=>aE 0 (S 9) λb=>aF b λd=>gB (uA 115 a d false) λe=>jB .not e λf=>let T:=q S 45 [a,b,d,e,f];gI f (aF (S 3) λg=>nf g λh=>aI 1 (S 4) h λi=>aI 1 (S 5) (I 10) λj=>yR (q T 50 [g,h])) (yN T)
def mc(call:Eng.Callee)(R:Nat->ad)(W:AW):eH Tryz.prog call false 68 (wR [1,1,1,0,1,0,1] (Bz 23)) LT R W ke=ip call R W:=by kernel_rfl
def eR:dF:=λc S=>b8 (S 54) (S 53) λa=>gI a (bR 1 (S 52) (S 54) λb=>aF b λd=>aG 3 λe=>aI 1 e d λf=>gB (pX (.func 53) #[] #[S 2,e]) λg=>aF (S 3) λh=>cg (S 54) (I 1) λi=>gB (wt 28 h (some i) none none) λj=>cH c 54 [j,g] λk=>let T:=q (q (q (q (q (q S 55 [a,S 54,b,d]) 11 [e]) 10 [S 54]) 59 [g]) 12 [g]) 60 [h,S 54,i,j,g,k];gI k (aI 1 (S 4) (S 54) λl=>aI 1 (S 5) (I 9) λm=>yR (q T 66 [S 54])) (cg (S 54) (I 1) λl=>yN (q (q T 67 [l]) 54 [l]))) (yE 5 (q S 55 [a]))
def fL:fg:=λc a b=>bw a λd=>bw b λe=>aG 3 λf=>aG 35 λg=>gB (C4 115 none) λh=>aG 115 λi=>aI 1 i h λj=>aF e λk=>nf k λl=>gL (eX c) (q (q (q (q (cR 0 [a,b] ah.blank) 2 [d,e,f,g]) 13 [h]) 6 [i]) 14 [k,l,I 0]) λm S=>gX 0 m (aF (S 2) λn=>cH c 52 [n,rB 26] λo=>gB (i8 c o (.loop .ready none (q S 42 [n,o]) 68 #[44] (wR [1,1,1,0,1,0,0] (Bz 23)) (wR [1,1,1,0,1,0,1] (Bz 23)))) λp=>gM p (aF (S 3) λr=>nf r λs=>gL (eR c) (q (q S 42 [n,o]) 52 [r,s,I 0]) λt T=>gX 5 t (aI 1 (T 4) (I 0) λu=>aI 1 (T 5) (I 0) λv=>yO [(T 4,some 3),(T 5,some 35)]) (gR t (yO [(T 4,some 3),(T 5,some 35)]))) (gR p (yO [(S 4,some 3),(S 5,some 35)]))) (gR m (yO [(S 4,some 3),(S 5,some 35)]))
def nU{x0 x1 W r}(h:fL bf x0 x1 W=some r):OG 23 #[] [x0,x1] W r:=oM 68 h (by kernel_rfl)
def Bk:iu:=λc a=>bw a λb=>aG 34 λd=>bu 4 b λe=>cH c 55 [e] λf=>aB f 0 λg=>aB f 1 λh=>eg h (I 0) λi=>gI i (br 34 [] λj=>aI 7 d j λk=>yO [(d,some 34),(h,none)]) (bu 4 b λj=>gB (ri 31 g g) λk=>aE 3 b λl=>aF l λm=>gB (PQ m) λn=>gB (ri 32 n n) λo=>br 34 [(0,j),(2,k),(3,o)] λp=>aI 7 d p λr=>yO [(d,some 34),(I 0,none)])
def Im{x0 W r}(h:Bk bf x0 W=some r):OG 24 #[] [x0] W r:=oM 23 h (by kernel_rfl)
def DU:fg:=λc a b=>bw a λd=>bw b λe=>aG 34 λf=>aG 50 λg=>bu 7 d λh=>cH c 56 [h] λi=>eg i (I 0) λj=>gI j (bu 7 d λk=>br 50 [] λl=>aI 7 f k λm=>aI 9 g l λn=>yO [(f,some 34),(g,some 50),(i,none)]) (bu 7 d λk=>bu 12 e λl=>cH c 57 [k,l] λm=>aB m 0 λn=>aB m 1 λo=>aB m 2 λp=>aI 7 f n λr=>aI 9 g o λs=>yO [(f,some 34),(g,some 50),(p,none)])
def LH{x0 x1 W r}(h:DU bf x0 x1 W=some r):OG 25 #[] [x0,x1] W r:=oM 21 h (by kernel_rfl)
def cM:dF:=λc S=>b8 (S 8) (S 7) λa=>gI a (bR 5 (S 0) (S 8) λb=>bu 5 b λd=>gB (c (S 1) [d]) λe=>let T:=q (q (q S 9 [a,S 8]) 5 [S 8]) 11 [S 1,S 0,S 8,b,d,e];gI e (yR (q (q T 17 [S 8]) 4 [S 8])) (cg (S 8) (I 1) λf=>yN (q (q T 18 [f]) 8 [f]))) (yE 0 (q S 9 [a]))
def eP:fg:=λc a b=>gB (FN a) λd=>gL (cM c) (q (q (cR 0 [a,b] ah.blank) 4 [I 0]) 6 [a,d,I 0]) λe S=>gX 0 e (yO [(I (-1),none)]) (gR e (yO [(S 4,none)]))
def iT{x0 x1 W r}(h:eP bf x0 x1 W=some r):OG 121 #[] [x0,x1] W r:=oM 19 h (by kernel_rfl)
def jb:yc:=λc a b d=>aF b λe=>av e λf=>aE 5 f λg=>aF g λh=>ji a (I 1) λi=>bR 25 h i λj=>bu 25 j λk=>aF b λl=>av l λm=>aE 5 m λn=>aF n λo=>aF d λp=>ji p (I 1) λr=>bR 25 o r λs=>bu 25 s λt=>cH c 42 [k,t] λu=>yO [(u,none)]
def mX{x0 x1 x2 W r}(h:jb bf x0 x1 x2 W=some r):OG 53 #[x1,x2] [x0] W r:=oM 22 h (by kernel_rfl)
def iQ:dF:=λc S=>b8 (S 66) (S 65) λa=>gI a (bR 1 (S 64) (S 66) λb=>aF b λd=>gB (uA 166 (S 7) d false) λe=>let T:=q (q (q S 67 [a,b,d]) 9 [d]) 70 [S 7,d,e];gI e (yR (q T 2 [I 8])) (gB (pW 166 (S 7) d (.bool true)) λf=>cg (S 66) (I 1) λg=>yN (q (q T 73 [S 7,d,g]) 66 [g]))) (yE 3 (q S 67 [a]))
def po:dF:=λc S=>b8 (S 48) (S 47) λa=>gI a (bR 1 (S 46) (S 48) λb=>aF b λd=>qB d λe=>aE 0 (S 1) λf=>aE 3 f λg=>aF g λh=>bR 3 h (S 48) λi=>aE 2 i λj=>aF j λk=>gB (ZA e k) λl=>let T:=q (q (q S 49 [a,S 48,b,d]) 5 [S 48,d]) 53 [d,e,f,g,h,S 48,i,j,k,l];gI l (yR (q T 2 [I 3])) (gB (C4 166 none) λm=>qB d λn=>gL (iQ c) (q (q (q T 63 [m]) 7 [m]) 64 [d,n,I 0]) λo U=>gX 3 o (cg (U 48) (I 1) λp=>yN (q (q U 76 [p]) 48 [p])) (gR o (yR U)))) (yE 1 (q S 49 [a]))
def BX:iu:=λc a=>bw a λb=>aE 0 b λd=>bu 4 d λe=>cH c 55 [e] λf=>aB f 0 λg=>aB f 1 λh=>eg h (I 0) λi=>gI i (yO [(h,none)]) (aE 4 b λj=>aF j λk=>gB (Vr k (I 0)) λl=>gI l (yO [(I 7,none)]) (aE 5 b λm=>aF m λn=>gB (FN n) λo=>gB (Jr o g) λp=>gF p (mL 6 b) λr=>gF p (bG r) λs=>gF p (HW s) λt=>gF p (mL 0 b) λu=>gF p (mL 3 u) λv=>gF p (bG v) λw=>gF p (PQ w) λx=>gF p (Jr t x) λy=>aY p (.bool true) y λz=>gF z (mL 5 b) λA=>gF z (bG A) λB=>gF z (zc c 95 [B,rB 96]) λC=>aY z (.bool true) C λD=>gI D (yO [(I 6,none)]) (aE 6 b λE=>aF E λF=>gB (HW F) λG=>gL (po c) (q (q (q (q (q (q (q (q (q (q (q (q (cR 0 [a] ah.blank) 1 [b,I 0]) 11 [d,e,f]) 10 [f]) 14 [g,h]) 3 [g,h]) 17 [h,i]) 16 [i]) 21 [j,k,l]) 20 [l]) 25 [m,n,o,g,p,p,r,s,t,u,v,w,x,y,z,z,A,B,C,D]) 24 [D]) 45 [E,F,G,I 0]) λH S=>gX 1 H (yO [(I 0,none)]) (gR H (yO [(S 2,none)])))))
def Ek{x0 W r}(h:BX bf x0 W=some r):OG 56 #[] [x0] W r:=oM 77 h (by kernel_rfl)
def DJ:fg:=λc a b=>bw a λd=>bw b λe=>aG 34 λf=>aG 50 λg=>bu 12 e λh=>cH c 98 [h] λi=>aB i 0 λj=>aB i 1 λk=>aB i 2 λl=>eg l (I 0) λm=>gI m (bu 7 d λn=>br 50 [] λo=>aI 7 f n λp=>aI 9 g o λr=>yO [(f,some 34),(g,some 50),(l,none)]) (bu 7 d λn=>bu 12 e λo=>cH c 99 [n,o,j,k] λp=>eg p (I 0) λr=>gI r (bu 7 d λs=>br 50 [(0,p)] λt=>aI 7 f s λu=>aI 9 g t λv=>yO [(f,some 34),(g,some 50),(I 0,none)]) (bu 7 d λs=>bu 12 e λt=>cH c 100 [s] λu=>gA (λW=>ur true (fd 12 e W) t&&true) (br 170 [(0,u),(1,t),(2,j)] λv=>bw v λw=>aE 0 e λx=>aF x λy=>aG 50 λz=>cH c 101 [] λA=>gA (λW=>ur true (bG x W) y&&true) (gB (mS 172 A y) λB=>gB (c B [w]) λC=>aI 9 z C λD=>aE 0 z λE=>aF E λF=>eg F (I 0) λG=>gI G (bu 7 d λH=>bu 9 z λJ=>aI 7 f H λK=>gA (λW=>ur true (fd 9 z W) J&&true) (aI 9 g J λL=>yO [(f,some 34),(g,some 50),(I 0,none)])) (av w λH=>aE 0 H λJ=>bu 7 J λK=>bu 9 z λL=>aI 7 f K λM=>gA (λW=>ur true (fd 9 z W) L&&true) (aI 9 g L λN=>yO [(f,some 34),(g,some 50),(I 0,none)]))))))
def JO{x0 x1 W r}(h:DJ bf x0 x1 W=some r):OG 57 #[] [x0,x1] W r:=oM 56 h (by kernel_rfl)
def xA:iu:=λc a=>bw a λb=>bu 5 b λd=>cH c 97 [d] λe=>eg e (I 0) λf=>yO [(f,none)]
def AF{x0 W r}(h:xA bf x0 W=some r):OG 96 #[] [x0] W r:=oM 6 h (by kernel_rfl)
def gh:fg:=λc a b=>tA a (I 0) λd=>gF d (gy a) λe=>gF d (mL 5 b) λf=>gF d (bG f) λg=>gF d (FN g) λh=>gF d (RW e h) λi=>aY d (.bool true) i λj=>gI j (yO [(I 4,none)]) (yO [(I 0,none)])
def ga:Zs:=λc a b d e f=>gI f (tA b (I 0) λg=>gF g (gy b) λh=>gF g (mL 6 d) λi=>gF g (bG i) λj=>gF g (HW j) λk=>gF g (RW h k) λl=>aY g (.bool true) l λm=>gI m (yO [(I 4,none)]) (aE 0 e λn=>aF n λo=>iX o (I 3) λp=>gT p (mL 5 e) λr=>gT p (bG r) λs=>gT p (zb1 s (I 1)) λt=>gT p (gy t) λu=>gF u (mL 5 e) λv=>gF u (bG v) λw=>gF u (Xn w (I 8)) λx=>gT p (pj u (.bool true) x) λy=>aY p y (.bool false) λz=>gI z (yO [(I 7,none)]) (yO [(I 0,none)]))) (gh c a d)
def jm:afS:=λc a b d e f g=>gI g (aE 1 e λh=>aF h λi=>aE 7 e λj=>aE 1 j λk=>aF k λl=>gB (XT i l) λm=>gI m (yO [(I 14,none)]) (gh c a d)) (iX f (I 3) λh=>gI h (ga c a b d e h) (iX f (I 10) λi=>gI i (ga c a b d e i) (iX f (I 11) λj=>ga c a b d e j)))
def jt:Yf:=λc a b d e=>aE 0 e λf=>aF f λg=>iX g (I 8) λh=>gI h (aE 1 e λi=>aF i λj=>gB (aby j (.int .u32 0)) λk=>gI k (yO [(I 14,none)]) (gh c a d)) (iX g (I 6) λi=>gI i (jm c a b d e g i) (iX g (I 7) λj=>jm c a b d e g j))
def jo:afS:=λc a b d e f g=>gI g (yO [(I 0,none)]) (iX f (I 9) λh=>gI h (jt c a b d e) (aE 2 e λi=>aF i λj=>aE 4 d λk=>aF k λl=>gB (ab7 j l) λm=>gI m (yO [(I 13,none)]) (jt c a b d e)))
def xF:Yf:=λc a b d e=>bw a λf=>bw b λg=>aE 0 g λh=>aF h λi=>iX i (I 1) λj=>gI j (jo c d e f g i j) (iX i (I 12) λk=>jo c d e f g i k)
def AX{x0 x1 x2 x3 W r}(h:xF bf x0 x1 x2 x3 W=some r):OG 99 #[] [x0,x1,x2,x3] W r:=oM 74 h (by kernel_rfl)
def jX:dF:=λc S=>b8 (S 17) (S 16) λa=>gI a (bR 1 (S 15) (S 17) λb=>aF b λd=>cH c 123 [d] λe=>bR 1 (S 3) (S 17) λf=>aI 1 f e λg=>cg (S 17) (I 1) λh=>yN (q (q (q (q S 18 [a,S 17,b,d]) 4 [S 17,d]) 22 [S 3,S 17,d,e,f,h]) 17 [h])) (yE 0 (q S 18 [a]))
def sy:iu:=λc a=>bw a λb=>aG 34 λd=>aE 5 b λe=>aF e λf=>cH c 122 [f] λg=>aE 5 b λh=>aI 1 h g λi=>aE 6 b λj=>aF j λk=>gB (HW k) λl=>gB (ri 32 l l) λm=>aE 6 b λn=>aF n λo=>gB (HW o) λp=>gL (jX c) (q (q (q (q (cR 0 [a] ah.blank) 1 [b,d]) 6 [e,f,g,h,j,k,l,m]) 3 [m]) 14 [n,o,p,I 0]) λr S=>gX 0 r (aE 6 (S 1) λs=>aI 1 s (S 3) λt=>bu 7 (S 1) λu=>aI 7 (S 2) u λv=>yO [(S 2,some 34)]) yZ
def Ct{x0 W r}(h:sy bf x0 W=some r):OG 100 #[] [x0] W r:=oM 31 h (by kernel_rfl)
def xM:anV:=λc=>aG 172 λa=>br 172 [(1,rB 124),(2,rB 125),(3,rB 126),(4,rB 127),(5,rB 128),(6,rB 129),(7,rB 130),(8,rB 131),(9,rB 132),(10,rB 133),(11,rB 134),(12,rB 135)] λb=>aI 13 a b λd=>yO [(a,some 172)]
def F8{W r}(h:xM bf W=some r):OG 101 #[] [] W r:=oM 2 h (by kernel_rfl)
def jL:iu:=λc a=>gB (afC a (.slice none 0 0)) λb=>gI b (yO [(.slice none 0 0,none)]) (cd 88 0 [] λd=>fI #[88,88] d a λe=>yO [(e,none)])
def ol{x0 W r}(h:jL bf x0 W=some r):OG 123 #[] [x0] W r:=oM 8 h (by kernel_rfl)
def qh:iu:=λc a=>aG 50 λb=>av a λd=>aE 0 d λe=>aE 0 e λf=>aE 2 f λg=>aF g λh=>cH c 150 [a,h] λi=>br 50 [(3,i)] λj=>aI 9 b j λk=>yO [(b,some 50)]
def uB{x0 W r}(h:qh bf x0 W=some r):OG 124 #[] [x0] W r:=oM 12 h (by kernel_rfl)
def pQ:iu:=λc a=>aG 50 λb=>av a λd=>aE 0 d λe=>aE 0 e λf=>aE 1 f λg=>aF g λh=>cH c 150 [a,h] λi=>av a λj=>aE 0 j λk=>aE 5 k λl=>aF l λm=>av a λn=>aE 19 n λo=>aF o λp=>bR 5 m p λr=>bu 5 r λs=>av a λt=>aE 7 t λu=>aE 1 u λv=>aF v λw=>cH c 152 [s,w,i] λx=>aB x 0 λy=>aB x 1 λz=>cH c 151 [a,y,z] λA=>eg A (I 0) λB=>gI B (br 50 [(0,A)] λC=>aI 9 b C λD=>yO [(b,some 50)]) (br 50 [(3,i)] λC=>aI 9 b C λD=>yO [(b,some 50)])
def vM{x0 W r}(h:pQ bf x0 W=some r):OG 125 #[] [x0] W r:=oM 41 h (by kernel_rfl)
def fk:dF:=λc S=>b8 (S 23) (S 22) λa=>gI a (bR 5 (S 21) (S 23) λb=>bu 5 b λd=>aG 87 λe=>aI 5 e d λf=>aE 0 e λg=>aF g λh=>iX h (I 0) λi=>bR 1 (S 3) (S 23) λj=>aI 1 j i λk=>cg (S 23) (I 1) λl=>yN (q (q (q (q (q S 24 [a,S 23,b,d]) 5 [e]) 4 [S 23]) 28 [S 3,S 23,g,h,i,j,l]) 23 [l])) (yE 0 (q S 24 [a]))
def fj:dF:=λc S=>b8 (S 72) (S 71) λa=>gI a (av (S 0) λb=>aE 0 b λd=>aE 5 d λe=>aF e λf=>dL (S 6) (S 72) λg=>av (S 0) λh=>aE 0 h λi=>aE 5 i λj=>aF j λk=>dL (S 6) (S 72) λl=>bR 5 k l λm=>bu 5 m λn=>av (S 0) λo=>aE 7 o λp=>aE 1 p λr=>aF r λs=>cH c 152 [n,s,S 8] λt=>gA (λW=>ur true (bG e W) f&&true) (aB t 0 λu=>aB t 1 λv=>bR 5 f g λw=>aI 5 w u λx=>cg (S 72) (I 1) λy=>yN (q (q (q (q (q (q S 73 [a,S 72]) 9 [S 72]) 76 [S 0,b,d,e,f,S 6,S 72,g,S 0,h,i,j,k,S 6,S 72,l,m,n,S 0,o,p,r,s,S 8,t]) 75 [t]) 101 [u,v,w,y]) 72 [y]))) (yE 2 (q S 73 [a]))
def pp:iu:=λc a=>aG 50 λb=>av a λd=>aE 0 d λe=>aE 5 e λf=>aF f λg=>gB (FN g) λh=>gB (ri 135 h h) λi=>av a λj=>aE 0 j λk=>aE 5 k λl=>aF l λm=>gB (FN m) λn=>gL (fk c) (q (q (q (q (cR 0 [a] ah.blank) 2 [b]) 10 [a,d,e,f,g,h,i]) 3 [i]) 17 [a,j,k,l,m,n,I 0]) λo S=>gX 0 o (av (S 0) λp=>aE 0 p λr=>aE 0 r λs=>bu 4 s λt=>av (S 0) λu=>aE 7 u λv=>aE 4 v λw=>aF w λx=>av (S 0) λy=>aE 7 y λz=>aE 5 z λA=>aF A λB=>cH c 153 [t,S 3,x,B] λC=>aB C 0 λD=>aB C 1 λE=>eg E (I 0) λF=>gI F (br 50 [(0,E)] λG=>aI 9 (S 2) G λH=>yO [(S 2,some 50)]) (av (S 0) λG=>aE 0 G λH=>aE 0 H λJ=>aE 1 J λK=>aF K λL=>cH c 150 [S 0,L] λM=>av (S 0) λN=>aE 7 N λO=>aE 5 O λP=>aF P λQ=>gL (fj c) (q (q (q (q (q (q (q (q S 36 [S 0,p,r,s,t,S 3,S 0,u,v,w,x,S 0,y,z,A,B,C]) 35 [C]) 53 [D,E]) 6 [D,E]) 55 [E,F]) 59 [S 0,S 0,G,H,J,K,L,M]) 8 [M]) 67 [S 0,N,O,P,Q,I 0]) λa0 T=>gX 2 a0 (av (T 0) λb0=>aE 7 b0 λd0=>aE 5 d0 λe0=>aF e0 λf0=>br 50 [(1,T 6),(2,f0),(3,T 8)] λg0=>aI 9 (T 2) g0 λh0=>yO [(T 2,some 50)]) yZ)) yZ
def tX{x0 W r}(h:pp bf x0 W=some r):OG 126 #[] [x0] W r:=oM 113 h (by kernel_rfl)
def nc:iu:=λc a=>aG 50 λb=>av a λd=>aE 0 d λe=>aE 5 e λf=>aF f λg=>av a λh=>aE 19 h λi=>aF i λj=>bR 5 g j λk=>bu 5 k λl=>av a λm=>aE 7 m λn=>aE 1 n λo=>aF o λp=>cH c 155 [l,p] λr=>aB r 0 λs=>aB r 1 λt=>cH c 154 [a,s,t] λu=>aI 9 b u λv=>yO [(b,some 50)]
def rl{x0 W r}(h:nc bf x0 W=some r):OG 127 #[] [x0] W r:=oM 24 h (by kernel_rfl)
def rn:iu:=λc a=>aG 50 λb=>av a λd=>aE 0 d λe=>aE 5 e λf=>aF f λg=>av a λh=>aE 19 h λi=>aF i λj=>bR 5 g j λk=>bu 5 k λl=>av a λm=>aE 7 m λn=>aE 1 n λo=>aF o λp=>cH c 157 [l,p] λr=>aB r 0 λs=>aB r 1 λt=>cH c 156 [a,s,t] λu=>aI 9 b u λv=>yO [(b,some 50)]
def w9{x0 W r}(h:rn bf x0 W=some r):OG 128 #[] [x0] W r:=oM 24 h (by kernel_rfl)
def mj:iu:=λc a=>aG 50 λb=>av a λd=>aE 0 d λe=>aE 5 e λf=>aF f λg=>av a λh=>aE 19 h λi=>aF i λj=>bR 5 g j λk=>bu 5 k λl=>av a λm=>aE 7 m λn=>aE 7 n λo=>bu 4 o λp=>av a λr=>aE 7 r λs=>aE 6 s λt=>aF t λu=>cH c 158 [l,p,u] λv=>aB v 0 λw=>aB v 1 λx=>cH c 156 [a,w,x] λy=>aI 9 b y λz=>yO [(b,some 50)]
def qD{x0 W r}(h:mj bf x0 W=some r):OG 129 #[] [x0] W r:=oM 29 h (by kernel_rfl)
def nS:iu:=λc a=>aG 50 λb=>av a λd=>aE 0 d λe=>aE 5 e λf=>aF f λg=>av a λh=>aE 19 h λi=>aF i λj=>bR 5 g j λk=>bu 5 k λl=>av a λm=>aE 7 m λn=>aE 7 n λo=>bu 4 o λp=>cH c 159 [l,p] λr=>aB r 0 λs=>aB r 1 λt=>cH c 154 [a,s,t] λu=>aI 9 b u λv=>yO [(b,some 50)]
def sO{x0 W r}(h:nS bf x0 W=some r):OG 130 #[] [x0] W r:=oM 24 h (by kernel_rfl)
def nT:iu:=λc a=>aG 50 λb=>av a λd=>aE 0 d λe=>aE 5 e λf=>aF f λg=>av a λh=>aE 19 h λi=>aF i λj=>bR 5 g j λk=>bu 5 k λl=>cH c 160 [l] λm=>aB m 0 λn=>aB m 1 λo=>cH c 154 [a,n,o] λp=>aI 9 b p λr=>yO [(b,some 50)]
def sF{x0 W r}(h:nT bf x0 W=some r):OG 131 #[] [x0] W r:=oM 19 h (by kernel_rfl)
def mi:iu:=λc a=>aG 50 λb=>av a λd=>aE 0 d λe=>aE 5 e λf=>aF f λg=>av a λh=>aE 19 h λi=>aF i λj=>bR 5 g j λk=>bu 5 k λl=>av a λm=>aE 7 m λn=>aE 7 n λo=>bu 4 o λp=>cH c 161 [l,p] λr=>br 50 [(0,r)] λs=>aI 9 b s λt=>yO [(b,some 50)]
def qo{x0 W r}(h:mi bf x0 W=some r):OG 132 #[] [x0] W r:=oM 21 h (by kernel_rfl)
def eJ:iu:=λc a=>aG 50 λb=>av a λd=>aE 0 d λe=>aE 6 e λf=>aF f λg=>av a λh=>aE 7 h λi=>aE 4 i λj=>aF j λk=>bR 1 g k λl=>av l λm=>aF m λn=>qB n λo=>av a λp=>aE 0 p λr=>aE 0 r λs=>aE 3 s λt=>aF t λu=>av a λv=>aE 7 v λw=>aE 4 w λx=>aF x λy=>bR 3 u y λz=>aE 2 z λA=>aF A λB=>gB (RW o B) λC=>gI C (br 50 [(0,I 5)] λD=>aI 9 b D λE=>yO [(b,some 50)]) (av l λD=>aF D λE=>av a λF=>aE 7 F λG=>aE 1 G λH=>aF H λJ=>cH c 162 [E,J] λK=>gI K (br 50 [(0,I 8)] λL=>aI 9 b L λM=>yO [(b,some 50)]) (av l λL=>aF L λM=>av a λN=>aE 7 N λO=>aE 1 O λP=>aF P λQ=>cd 88 1 [(0,Q)] λa0=>fI #[88,88] M a0 λb0=>av l λd0=>aI 1 d0 b0 λe0=>av l λf0=>aF f0 λg0=>qB g0 λh0=>br 50 [(5,h0)] λi0=>aI 9 b i0 λj0=>yO [(b,some 50)]))
def mT{x0 W r}(h:eJ bf x0 W=some r):OG 133 #[] [x0] W r:=oM 64 h (by kernel_rfl)
def ku:iu:=λc a=>aG 50 λb=>av a λd=>aE 0 d λe=>aE 6 e λf=>aF f λg=>av a λh=>aE 7 h λi=>aE 4 i λj=>aF j λk=>bR 1 g k λl=>av l λm=>aF m λn=>av a λo=>aE 7 o λp=>aE 1 p λr=>aF r λs=>cH c 163 [n,s] λt=>tA t (I 0) λu=>gI u (br 50 [(0,I 4)] λv=>aI 9 b v λw=>yO [(b,some 50)]) (av l λv=>aF v λw=>cg t (I 1) λx=>cH c 164 [w,t,x] λy=>av l λz=>aI 1 z y λA=>br 50 [] λB=>aI 9 b B λC=>yO [(b,some 50)])
def mr{x0 W r}(h:ku bf x0 W=some r):OG 134 #[] [x0] W r:=oM 38 h (by kernel_rfl)
def fD:dF:=λc S=>b8 (S 37) (S 36) λa=>gI a (bR 5 (S 35) (S 37) λb=>bu 5 b λd=>aG 87 λe=>aI 5 e d λf=>aE 2 e λg=>aF g λh=>aF (S 1) λi=>av i λj=>aE 0 j λk=>aE 4 k λl=>aF l λm=>cH c 165 [h,m] λn=>aB n 0 λo=>aB n 1 λp=>gT o (mL 0 e) λr=>gT o (bG r) λs=>gT o (zb7 s (I 1)) λt=>aY o t (.bool false) λu=>let T:=q (q (q (q (q (q (q (q S 38 [a,S 37,b,d]) 5 [e]) 4 [S 37]) 43 [g,h,i,j,k,l,m,n]) 42 [n]) 51 [o,p]) 6 [o,p]) 53 [o,o,r,s,t,u];gI u (cd 28 1 [(0,S 37)] λv=>fI #[28,28] (S 3) v λw=>cg (S 37) (I 1) λx=>yN (q (q (q (q T 59 [S 3,S 37,v,w]) 3 [w]) 63 [x]) 37 [x])) (cg (S 37) (I 1) λv=>yN (q (q T 63 [v]) 37 [v]))) (yE 0 (q S 38 [a]))
def eA:dF:=λc S=>b8 (S 69) (S 68) λa=>gI a (bR 1 (S 67) (S 69) λb=>aF b λd=>aF (S 1) λe=>av e λf=>aE 0 f λg=>aE 5 g λh=>aF h λi=>aF (S 1) λj=>av j λk=>aE 0 k λl=>aE 5 l λm=>aF m λn=>bR 5 n d λo=>bu 5 o λp=>aF (S 1) λr=>av r λs=>aE 0 s λt=>aE 4 t λu=>aF u λv=>cH c 169 [p,v] λw=>gA (λW=>ur true (bG h W) i&&(ur true (bG (S 1) W) e&&true)) (aB w 0 λx=>aB w 1 λy=>bR 5 i d λz=>aI 5 z x λA=>aF (S 1) λB=>cH c 170 [B,d] λC=>cg (S 69) (I 1) λD=>yN (q (q (q (q (q (q S 70 [a,b,d]) 9 [d]) 74 [e,f,g,h,i,d,j,k,l,m,n,d,o,p,r,s,t,u,v,w]) 73 [w]) 94 [x,y,z,B,d,C,D]) 69 [D]))) (yE 2 (q S 70 [a]))
def fE:iu:=λc a=>bw a λb=>aG 50 λd=>aF b λe=>av e λf=>aE 7 f λg=>aE 11 g λh=>aF h λi=>aF b λj=>av j λk=>aE 0 k λl=>aE 4 l λm=>aF m λn=>gB (YC i n) λo=>gI o (br 50 [(0,I 18)] λp=>aI 9 d p λr=>yO [(d,some 50)]) (aF b λp=>aF b λr=>av r λs=>aE 7 s λt=>aE 11 t λu=>aF u λv=>av p λw=>aE 0 w λx=>aE 4 x λy=>aI 1 y v λz=>aF b λA=>av A λB=>aE 0 B λC=>aE 5 C λD=>aF D λE=>gB (FN E) λF=>gL (fD c) (q (q (q (q (q (cR 0 [a] ah.blank) 1 [b,d]) 10 [e,f,g,h,i,j,k,l,m,n,o]) 22 [p,r,s,t,u,v,w,x,y]) 3 [.slice none 0 0]) 31 [A,B,C,D,E,F,I 0]) λG S=>gX 0 G (gB (pX (.func 167) #[] #[S 1]) λH=>cH c 166 [S 3,H] λJ=>nf (S 3) λK=>gL (eA c) (q S 64 [S 3,H,J,S 3,K,I 0]) λL T=>gX 2 L (br 50 [] λM=>aI 9 (T 2) M λN=>yO [(T 2,some 50)]) yZ) yZ)
def mV{x0 W r}(h:fE bf x0 W=some r):OG 135 #[] [x0] W r:=oM 102 h (by kernel_rfl)
def pw:fg:=λc a b=>av a λd=>aE 0 d λe=>aE 4 e λf=>aF f λg=>cH c 185 [g,b] λh=>aB h 0 λi=>aB h 1 λj=>yO [(i,none)]
def ub{x0 x1 W r}(h:pw bf x0 x1 W=some r):OG 150 #[] [x0,x1] W r:=oM 18 h (by kernel_rfl)
def jI:yc:=λc a b d=>bw b λe=>OC d (I 0) λf=>gI f (av a λg=>aE 0 g λh=>aE 5 h λi=>aF i λj=>av a λk=>aE 19 k λl=>aF l λm=>bu 5 e λn=>bR 5 j m λo=>aI 5 o n λp=>yO [(d,none)]) (yO [(d,none)])
def sx{x0 x1 x2 W r}(h:jI bf x0 x1 x2 W=some r):OG 151 #[] [x0,x1,x2] W r:=oM 21 h (by kernel_rfl)
def EK:yc:=λc a b d=>bw a λe=>aG 87 λf=>bu 5 e λg=>bu 5 e λh=>cH c 187 [g,d] λi=>gA (λW=>ur true (fd 5 e W) h&&true) (cH c 188 [h,I 0] λj=>cd 251 2 [(0,i),(1,j)] λk=>cH c 186 [k] λl=>eg l (I 0) λm=>gI m (bu 5 e λn=>aI 5 f n λo=>yO [(f,some 87),(l,none)]) (aE 0 e λn=>aI 1 n (I 1) λo=>aE 1 e λp=>aI 1 p b λr=>aE 2 e λs=>aI 1 s d λt=>bu 5 e λu=>aI 5 f u λv=>yO [(f,some 87),(I 0,none)]))
def F6{x0 x1 x2 W r}(h:EK bf x0 x1 x2 W=some r):OG 152 #[] [x0,x1,x2] W r:=oM 26 h (by kernel_rfl)
def xw:Yf:=λc a b d e=>bw a λf=>bu 4 f λg=>cH c 189 [g,b,d] λh=>eg h (I 0) λi=>gI i (yO [(I 0,none),(h,none)]) (cH c 190 [e] λj=>jB .not j λk=>gI k (yO [(I 0,none),(I 7,none)]) (bu 4 f λl=>cH c 192 [l,b,d] λm=>cH c 191 [m,e] λn=>aB n 0 λo=>aB n 1 λp=>aG 240 λr=>aI 5 r o λs=>jB .not p λt=>gI t (yO [(I 0,none),(I 15,none)]) (aE 0 r λu=>aE 1 u λv=>aF v λw=>aE 3 r λx=>aF x λy=>dL w y λz=>yO [(z,none),(I 0,none)])))
def Bf{x0 x1 x2 x3 W r}(h:xw bf x0 x1 x2 x3 W=some r):OG 153 #[] [x0,x1,x2,x3] W r:=oM 40 h (by kernel_rfl)
def ks:yc:=λc a b d=>bw b λe=>aG 50 λf=>bu 5 e λg=>cH c 151 [a,g,d] λh=>OC h (I 0) λi=>gI i (av a λj=>aE 19 j λk=>aF k λl=>cH c 170 [a,l] λm=>br 50 [(0,h)] λn=>aI 9 f n λo=>yO [(f,some 50)]) (br 50 [(0,h)] λj=>aI 9 f j λk=>yO [(f,some 50)])
def ug{x0 x1 x2 W r}(h:ks bf x0 x1 x2 W=some r):OG 154 #[] [x0,x1,x2] W r:=oM 21 h (by kernel_rfl)
def lQ:yc:=λc a b d=>bw b λe=>aG 50 λf=>bu 5 e λg=>cH c 151 [a,g,d] λh=>eg h (I 0) λi=>gI i (br 50 [(0,h)] λj=>aI 9 f j λk=>yO [(f,some 50)]) (bu 5 e λj=>av a λk=>aE 19 k λl=>aF l λm=>eh 3 43 m λn=>aG 46 λo=>cH c 195 [j,n] λp=>aB p 0 λr=>aB p 1 λs=>aI 4 o r λt=>bu 4 o λu=>br 50 [(4,u)] λv=>aI 9 f v λw=>yO [(f,some 50)])
def uz{x0 x1 x2 W r}(h:lQ bf x0 x1 x2 W=some r):OG 156 #[] [x0,x1,x2] W r:=oM 29 h (by kernel_rfl)
def uT:yc:=λc a b d=>bw a λe=>bw b λf=>aG 87 λg=>bu 5 e λh=>bu 4 f λi=>cH c 161 [h,i] λj=>eg j (I 0) λk=>gI k (bu 5 e λl=>aI 5 g l λm=>yO [(g,some 87),(j,none)]) (bu 5 e λl=>cH c 196 [l,d] λm=>aB m 0 λn=>aB m 1 λo=>aI 5 g n λp=>yO [(g,some 87),(o,none)])
def zV{x0 x1 x2 W r}(h:uT bf x0 x1 x2 W=some r):OG 158 #[] [x0,x1,x2] W r:=oM 21 h (by kernel_rfl)
def yW:fg:=λc a b=>bw a λd=>bw b λe=>aG 87 λf=>bu 5 d λg=>bu 4 e λh=>cH c 161 [g,h] λi=>eg i (I 0) λj=>gI j (bu 5 d λk=>aI 5 f k λl=>yO [(f,some 87),(i,none)]) (bu 5 d λk=>cH c 194 [k] λl=>aI 5 f l λm=>yO [(f,some 87),(I 0,none)])
def CH{x0 x1 W r}(h:yW bf x0 x1 W=some r):OG 159 #[] [x0,x1] W r:=oM 16 h (by kernel_rfl)
def yK:iu:=λc a=>bw a λb=>aG 87 λd=>bu 5 b λe=>cH c 188 [e,I 2] λf=>eg f (I 0) λg=>gI g (bu 5 b λh=>aI 5 d h λi=>yO [(d,some 87),(f,none)]) (aE 4 b λh=>aF h λi=>gB (XU i (.int .u64 18446744073709551615)) λj=>gI j (bu 5 b λk=>aI 5 d k λl=>yO [(d,some 87),(I 17,none)]) (aE 4 b λk=>aF k λl=>gB (abG l (.int .u64 1)) λm=>aE 4 b λn=>aI 1 n m λo=>bu 5 b λp=>cH c 194 [p] λr=>aI 5 d r λs=>yO [(d,some 87),(I 0,none)]))
def Cn{x0 W r}(h:yK bf x0 W=some r):OG 160 #[] [x0] W r:=oM 21 h (by kernel_rfl)
def B8:fg:=λc a b=>bw a λd=>bw b λe=>bu 5 d λf=>aE 0 e λg=>aF g λh=>cH c 195 [f,h] λi=>aB i 0 λj=>aB i 1 λk=>aG 46 λl=>aI 4 l j λm=>eg k (I 0) λn=>gI n (yO [(k,none)]) (bu 4 l λo=>bu 4 e λp=>gB (afQ o p) λr=>gI r (yO [(I 16,none)]) (yO [(I 0,none)]))
def Dz{x0 x1 W r}(h:B8 bf x0 x1 W=some r):OG 161 #[] [x0,x1] W r:=oM 22 h (by kernel_rfl)
def iN:fg:=λc a b=>cH c 163 [a,b] λd=>gB (L9 d (I 0)) λe=>yO [(e,none)]
def my{x0 x1 W r}(h:iN bf x0 x1 W=some r):OG 162 #[] [x0,x1] W r:=oM 9 h (by kernel_rfl)
def eY:dF:=λc S=>b8 (S 8) (S 7) λa=>gI a (bR 1 (S 0) (S 8) λb=>aF b λd=>gB (agG (S 1) d) λe=>let T:=q (q (q S 9 [a,S 8]) 5 [S 8]) 11 [S 1,S 0,S 8,b,d,e];gI e (yR (q (q T 17 [S 8]) 4 [S 8])) (cg (S 8) (I 1) λf=>yN (q (q T 18 [f]) 8 [f]))) (yE 0 (q S 9 [a]))
def jQ:fg:=λc a b=>qB a λd=>gL (eY c) (q (q (cR 0 [a,b] ah.blank) 4 [I 0]) 6 [a,d,I 0]) λe S=>gX 0 e (yO [(I (-1),none)]) (gR e (yO [(S 4,none)]))
def oc{x0 x1 W r}(h:jQ bf x0 x1 W=some r):OG 163 #[] [x0,x1] W r:=oM 19 h (by kernel_rfl)
def nN:yc:=λc a b d=>aF d λe=>av e λf=>aE 0 f λg=>aE 5 g λh=>aF h λi=>bR 5 i a λj=>aE 2 j λk=>aF k λl=>aF d λm=>av m λn=>aE 0 n λo=>aE 5 o λp=>aF p λr=>bR 5 r b λs=>aE 2 s λt=>aF t λu=>cH c 168 [l,u] λv=>yO [(v,none)]
def sn{x0 x1 x2 W r}(h:nN bf x0 x1 x2 W=some r):OG 167 #[x2] [x0,x1] W r:=oM 25 h (by kernel_rfl)
def j9:fg:=λc a b=>av a λd=>aE 0 d λe=>aE 0 e λf=>bu 4 f λg=>cH c 200 [g,b] λh=>aB h 0 λi=>aB h 1 λj=>aG 177 λk=>aI 3 k i λl=>av a λm=>aE 0 m λn=>aE 6 n λo=>aF o λp=>aE 0 k λr=>aF r λs=>bR 1 p s λt=>aF t λu=>qB u λv=>tD v (I 0) λw=>gI w (av a λx=>aE 0 x λy=>aE 5 y λz=>aF z λA=>av a λB=>aE 0 B λC=>aE 5 C λD=>aF D λE=>bR 5 E b λF=>bu 5 F λG=>bR 1 u (I 0) λH=>aF H λJ=>av a λK=>aE 0 K λL=>aE 0 L λM=>aE 1 M λN=>aF N λO=>cH c 150 [a,O] λP=>gA (λW=>ur true (bG H W) J&&(ur true (fd 5 F W) G&&(ur true (bG D W) E&&(ur true (bG z W) A&&true)))) (cH c 152 [G,J,P] λQ=>gA (λW=>ur true (bG z W) A&&true) (aB Q 0 λa0=>aB Q 1 λb0=>bR 5 A b λd0=>aI 5 d0 a0 λe0=>av a λf0=>aE 0 f0 λg0=>aE 6 g0 λh0=>aF h0 λi0=>aE 0 k λj0=>aF j0 λk0=>gB (wt 88 u (some (I 1)) none none) λl0=>bR 1 i0 k0 λm0=>aI 1 m0 l0 λn0=>yO []))) (yO [])
def t8{x0 x1 W r}(h:j9 bf x0 x1 W=some r):OG 170 #[] [x0,x1] W r:=oM 69 h (by kernel_rfl)
def GH:fg:=λc a b=>cd 150 2 [(0,a),(1,b)] λd=>cH c 197 [d] λe=>gI e (yO [(I 0,none),(I 7,none)]) (eh 2 44 a λf=>eh 2 44 b λg=>gB (ahf f g) λh=>gB (agu h (.int .u64 63)) λi=>gB (XU i (.int .u64 0)) λj=>gI j (eh 44 2 h λk=>yO [(k,none),(I 0,none)]) (yO [(I 9223372036854775807,none),(I 0,none)]))
def I2{x0 x1 W r}(h:GH bf x0 x1 W=some r):OG 185 #[] [x0,x1] W r:=oM 21 h (by kernel_rfl)
def vj:yc:=λc a b d=>bw a λe=>bu 4 e λf=>cH c 55 [f] λg=>aB g 0 λh=>aB g 1 λi=>eg i (I 0) λj=>gI j (yO [(i,none)]) (gB (afv b) λk=>gB (Jr k h) λl=>gI l (yO [(I 6,none)]) (tA d (I 0) λm=>gF m (gy d) λn=>gF m (mL 3 e) λo=>gF m (bG o) λp=>gF m (PQ p) λr=>gF m (RW n r) λs=>aY m (.bool true) s λt=>gI t (yO [(I 4,none)]) (yO [(I 0,none)])))
def zG{x0 x1 x2 W r}(h:vj bf x0 x1 x2 W=some r):OG 189 #[] [x0,x1,x2] W r:=oM 33 h (by kernel_rfl)
def uR:iu:=λc a=>gB (L9 a (I 1)) λb=>gT b (gy a) λd=>gT b (zb5 d (I 8)) λe=>aY b e (.bool false) λf=>yO [(f,none)]
def zL{x0 W r}(h:uR bf x0 W=some r):OG 190 #[] [x0] W r:=oM 9 h (by kernel_rfl)
def p7:dF:=λc S=>aG 240 λa=>aI 5 a (S 11) λb=>yN (q S 7 [a])
def uL(call:Eng.Callee)(R:Nat->ad)(W:AW):eH Tryz.prog call false 26 (wR [1,1,0,1,0,0] (Bz 191)) LT R W ke=p7 call R W:=by kernel_rfl
def kT:dF:=λc S=>aF (S 5) λa=>jB .not a λb=>gF b (bG (S 6)) λd=>gF b (fd 5 (S 7)) λe=>gF b (bG (S 6)) λf=>gF b (fd 5 (S 4)) λg=>gF b (c d [e]) λh=>gA (λW=>ur (qk b false) (fd 5 (S 4) W) g&&(ur (qk b false) (bG (S 6) W) f&&true)) (gF b (c f [g]) λi=>gF b (Jj h i) λj=>aY b (.bool true) j λk=>let T:=q (q (q (q S 12 [a,b,b,d,e]) 18 [f,g]) 17 [h]) 20 [i,j,k];gI k (bu 5 (S 7) λl=>aI 5 (S 4) l λm=>aI 1 (S 5) (.bool true) λn=>yN (q T 23 [l])) (yN T))
def uU(call:Eng.Callee)(R:Nat->ad)(W:AW):eH Tryz.prog call false 26 (wR [1,1,0,1,0,1] (Bz 191)) LT R W ke=kT call R W:=by kernel_rfl
def xy:fg:=λc a b=>aG 240 λd=>aG 4 λe=>aG 252 λf=>aI 1 f (rB 208) λg=>cH c 210 [a,b] λh=>gB (i8 c h (.loop .ready none (q (q (cR 0 [a,b] ah.blank) 4 [d,e,f]) 8 [a,b,h]) 26 #[11] (wR [1,1,0,1,0,0] (Bz 191)) (wR [1,1,0,1,0,1] (Bz 191)))) λi=>gM i (bu 5 d λj=>aF e λk=>aI 5 d j λl=>gA (λW=>ur true (bG e W) k&&true) (aI 1 e k λm=>yO [(d,some 240),(e,some 4)])) yZ
def A3{x0 x1 W r}(h:xy bf x0 x1 W=some r):OG 191 #[] [x0,x1] W r:=oM 26 h (by kernel_rfl)
def eS:ak7:=λc S a b d=>cg d (I 1) λe=>br 222 [(0,a),(1,e)] λf=>aI 3 b f λg=>cg d (I 1) λh=>yN (q (q (q S 67 [a,d,e,f]) 43 [d,h]) 14 [h])
def fV:dF:=λc S=>dL (S 8) (S 12) λa=>gB (Yh (S 14) a) λb=>let T:=q S 38 [S 14,S 8,S 12,a,b];gI b (dL (S 8) (S 12) λd=>b8 (S 14) d λe=>gT e (gy (S 1)) λf=>gT e (gy (S 14)) λg=>gT e (nR 1 f g) λh=>gT e (bG h) λi=>aY e i (.bool false) λj=>let U:=q T 45 [S 14,S 8,S 12,d,e,e,f,g,h,i,j];gI j (aE 2 (S 13) λk=>aF k λl=>cg l (I 1) λm=>aE 2 (S 13) λn=>aI 1 n m λo=>cg (S 14) (I 1) λp=>yN (q (q (q U 56 [k,l,m,n]) 43 [S 14,p]) 14 [p])) (aE 2 (S 13) λk=>aF k λl=>tD l (I 0) λm=>let V:=q U 60 [k,l,m];gI m (bu 3 (S 13) λn=>cd 219 1 [(0,n)] λo=>fI #[219,219] (S 7) o λp=>eS c (q (q V 63 [S 7,n,o,p]) 7 [p]) (S 11) (S 13) (S 14)) (eS c V (S 11) (S 13) (S 14)))) (yE 2 T)
def mG:dF:=λc S=>b8 (S 29) (S 28) λa=>gI a (bR 1 (S 27) (S 29) λb=>aF b λd=>br 222 [(0,S 29),(1,S 8)] λe=>aG 222 λf=>aI 3 f e λg=>gL (fV c) (q (q (q (q (q (q S 30 [a,S 29,b,d]) 11 [S 29,d]) 34 [S 29,S 8,e]) 13 [f]) 37 [S 8]) 14 [S 8]) λh T=>gX 2 h (dL (T 8) (T 12) λi=>cg (T 29) (I 1) λj=>yN (q (q (q (q T 71 [T 8,T 12,i]) 8 [i]) 74 [j]) 29 [j])) yZ) (yE 0 (q S 30 [a]))
def xz:yc:=λc a b d=>bw a λe=>bu 4 e λf=>cH c 211 [f,d] λg=>aB g 0 λh=>aB g 1 λi=>aB g 2 λj=>aE 3 e λk=>aF k λl=>bR 3 l d λm=>aE 1 m λn=>aF n λo=>nf o λp=>gL (mG c) (q (q (q (q (q (q (q (cR 0 [a,b,d] ah.blank) 3 [e]) 6 [.slice none 0 0,.slice none 0 0]) 16 [f,d,g]) 15 [g]) 19 [h,i,j]) 8 [h,i,j]) 22 [k,l,d,m,n,o,p,I 0]) λr S=>gX 0 r (yO [(S 7,none)]) yZ
def Bm{x0 x1 x2 W r}(h:xz bf x0 x1 x2 W=some r):OG 192 #[] [x0,x1,x2] W r:=oM 76 h (by kernel_rfl)
def Aa:fg:=λc a b=>bw a λd=>aG 46 λe=>bu 5 d λf=>cH c 188 [f,I 2] λg=>eg g (I 0) λh=>gI h (br 46 [] λi=>aI 4 e i λj=>yO [(e,some 46),(g,none)]) (aE 1 d λi=>aF i λj=>aE 3 d λk=>aF k λl=>aE 4 d λm=>aF m λn=>br 46 [(0,b),(1,j),(2,l),(3,n)] λo=>aI 4 e o λp=>yO [(e,some 46),(I 0,none)])
def Ce{x0 x1 W r}(h:Aa bf x0 x1 W=some r):OG 195 #[] [x0,x1] W r:=oM 21 h (by kernel_rfl)
def tx:iu:=λc a=>bw a λb=>aE 3 b λd=>aF d λe=>aE 4 b λf=>aF f λg=>aE 0 b λh=>aE 2 h λi=>aF i λj=>cH c 209 [e] λk=>gA (λW=>ur true (bG i W) j&&(ur true (bG f W) g&&true)) (cH c 209 [g] λl=>gA (λW=>ur true (bG i W) j&&true) (dL k l λm=>cH c 209 [j] λn=>fO m n λo=>yO [(o,none)]))
def xS{x0 W r}(h:tx bf x0 W=some r):OG 208 #[] [x0] W r:=oM 15 h (by kernel_rfl)
def uM:iu:=λc a=>iX a (I 1) λb=>gI b (yO [(I 1,none)]) (yO [(I 0,none)])
def yP{x0 W r}(h:uM bf x0 W=some r):OG 209 #[] [x0] W r:=oM 5 h (by kernel_rfl)
def mF:fg:=λc a b=>bw a λd=>bw b λe=>gB (pX (.func 220) #[] #[d,e]) λf=>yO [(f,none)]
def wW{x0 x1 W r}(h:mF bf x0 x1 W=some r):OG 210 #[] [x0,x1] W r:=oM 6 h (by kernel_rfl)
def fH:dF:=λc S=>b8 (S 19) (S 18) λa=>gI a (bu 3 (S 5) λb=>aE 2 (S 5) λd=>aF d λe=>aF (S 2) λf=>fO e f λg=>fO g (S 19) λh=>br 240 [(0,b),(1,S 19),(2,h)] λi=>gB (c (S 0) [i]) λj=>jB .not j λk=>let T:=q (q (q S 20 [a,S 19]) 6 [S 19]) 22 [S 0,b,S 19,d,e,f,g,S 19,h,i,j,k];gI k (yR T) (cg (S 19) (I 1) λl=>yN (q (q T 34 [l]) 19 [l]))) (yE 2 (q S 20 [a]))
def iC:dF:=λc S=>b8 (S 9) (S 8) λa=>gI a (bR 3 (S 7) (S 9) λb=>bu 3 b λd=>aG 222 λe=>aI 3 e d λf=>aE 2 e λg=>aF g λh=>aF (S 2) λi=>fO h i λj=>cg j (I 1) λk=>gB (aip k (I 0)) λl=>gL (fH c) (q (q (q S 10 [a,b,d]) 5 [e]) 13 [g,h,i,j,k,l,I 0]) λm T=>gX 2 m (cg (T 9) (I 1) λn=>yN (q (q T 35 [n]) 9 [n])) (gR m (yR T))) (yE 0 (q S 10 [a]))
def kn:yc:=λc a b d=>aF b λe=>gB (ahQ e) λf=>gL (iC c) (q (cR 0 [a,b,d] ah.blank) 7 [e,f,I 0]) λg S=>gX 0 g (yO []) (gR g (yO []))
def tU{x0 x1 x2 W r}(h:kn bf x0 x1 x2 W=some r):OG 220 #[x1,x2] [x0] W r:=oM 36 h (by kernel_rfl)
structure Md where
 a:Int
 b:Int
 c:Int
 d:Int
def ti0:Md:=⟨0,0,0,0⟩
abbrev TJ(t:Md):List ad:=[.int .u32 t.a,.int .u32 t.b,.int .u64 t.c,.int .u64 t.d]
abbrev Xu(t:Md):ad:=.agg #[.int .u32 t.a,.int .u32 t.b,.int .u64 t.c,.int .u64 t.d]
def J2(W:AW):cl Tryz.prog 46 W=some (.pointer (some ⟨W.next,0,none⟩),W.add (.cells (TJ ti0))):=aL (by kernel_rfl) rfl
def ahx(a b c d:Int)(W:AW):dX Tryz.prog 46 [(0,.int .u32 a),(1,.int .u32 b),(2,.int .u64 c),(3,.int .u64 d)] W=some (Xu ⟨a,b,c,d⟩,W):=aL (by kernel_rfl) rfl
def acy(W:AW):dX Tryz.prog 46 [] W=some (Xu ti0,W):=aL (by kernel_rfl) rfl
def aau(x:ad)(W:AW):fR Tryz.prog 46 x W=fd 4 x W:=by kernel_rfl
def amg:Tryz.prog.eqGuardType Tryz.prog.depth 46=false:=by kernel_rfl
def akQ(a b c d a' b' c' d':Int):I7 Tryz.prog 8 46 (.agg #[.int .u32 a,.int .u32 b,.int .u64 c,.int .u64 d]) (.agg #[.int .u32 a',.int .u32 b',.int .u64 c',.int .u64 d'])=tQ [(a,a'),(b,b'),(c,c'),(d,d')]:=by kernel_rfl
def ahK(a b c d a' b' c' d':Int)(k l:Bool)(W:AW):bs Tryz.prog .neq 46 k l (.agg #[.int .u32 a,.int .u32 b,.int .u64 c,.int .u64 d]) (.agg #[.int .u32 a',.int .u32 b',.int .u64 c',.int .u64 d']) W=some (.bool (!(decide (a=a')&&(decide (b=b')&&(decide (c=c')&&decide (d=d'))))),W):=by refine od amg ((akQ ..).trans ?_);rw[pf];simp only[eK,wB,lX];rfl
def Xf(x:fA)(n:Int):Md:=if Ao x 2=0 then⟨n,x.ow,x.se,x.ep⟩else ti0
def vN(x:fA)(n:Int)(W:AW):bf (.func (.func 195) #[] #[]) [me x,.int .u32 n] W=some (.tuple #[Xu (Xf x n),.af (Ao x 2)],W):=by
 refine aX rfl ?_ Ce;unfold Aa Xf;by_cases c:Ao x 2=0
 ·simp(maxDischargeDepth:=9) only[SX,MX,HX,Nat.reduceAdd,J2,dI,c,ahx,cr,aau]
 ·simp(maxDischargeDepth:=9) only[SX,MX,HX,Nat.reduceAdd,J2,dI,bm c,acy,cr,aau,ap c]
def Jv(x:fA)(t:Md):Int:=if Ao x 2=0 then bif decide (x.ow=t.b)&&(decide (x.se=t.c)&&decide (x.ep=t.d))then 0 else 16 else Ao x 2
def pB(x:fA)(t:Md)(W:AW):bf (.func (.func 161) #[] #[]) [me x,Xu t] W=some (.af (Jv x t),W):=by
 refine aX rfl ?_ Dz;unfold B8 Jv;by_cases c:Ao x 2=0
 ·have e:Xf x t.a=⟨t.a,x.ow,x.se,x.ep⟩:=aq c;cases d:(decide (x.ow=t.b)&&(decide (x.se=t.c)&&decide (x.ep=t.d)))<;>simp(maxDischargeDepth:=9) only[SX,MX,HX,Nat.reduceAdd,Nat.reduceEqDiff,J2,vN,e,c,ahK,d,je,pA]
 ·have e:Xf x t.a=ti0:=ap c;simp(maxDischargeDepth:=9) only[SX,MX,HX,Nat.reduceAdd,Nat.reduceEqDiff,J2,vN,e,bm c,ap c]
def trE(x:fA)(t:Md):Int:=if Jv x t=0 then Ms x else Jv x t
def trS(x:fA)(t:Md)(o:Int):fA:=if Jv x t=0 then FY x o else x
def F4(x:fA)(t:Md)(o:Int)(W:AW):bf (.func (.func 158) #[] #[]) [me x,Xu t,.int .u32 o] W=some (.tuple #[me (trS x t o),.af (trE x t)],W):=by
 refine aX rfl ?_ zV;unfold uT trS trE;by_cases c:Jv x t=0
 ·simp(maxDischargeDepth:=9) only[SX,MX,HX,Nat.reduceAdd,Nat.reduceEqDiff,yF,pB,Ls,c,cr,qX]
 ·simp(maxDischargeDepth:=9) only[SX,MX,HX,Nat.reduceAdd,Nat.reduceEqDiff,yF,pB,bm c,cr,qX,ap c]
def rfS(x:fA)(t:Md):fA:=if Jv x t=0 then tu x else x
def Mb(x:fA)(t:Md)(W:AW):bf (.func (.func 159) #[] #[]) [me x,Xu t] W=some (.tuple #[me (rfS x t),.af (Jv x t)],W):=by
 refine aX rfl ?_ CH;unfold yW rfS;by_cases c:Jv x t=0
 ·simp(maxDischargeDepth:=9) only[SX,MX,HX,Nat.reduceAdd,Nat.reduceEqDiff,yF,pB,wv,c,cr,qX]
 ·simp(maxDischargeDepth:=9) only[SX,MX,HX,Nat.reduceAdd,Nat.reduceEqDiff,yF,pB,bm c,cr,qX,ap c]
def rvE(x:fA):Int:=if Ao x 2=0 then(if x.ep=18446744073709551615 then 17 else 0)else Ao x 2
def rvS(x:fA):fA:=if Ao x 2=0 then(if x.ep=18446744073709551615 then x else⟨0,0,0,x.se,IntKind.u64.wrap (x.ep+1)⟩)else x
def Yw(a b c d e:Int)(W:AW):bf (.func (.func 194) #[] #[]) [.agg #[.af a,.int .u32 b,.af c,.int .u64 d,.int .u64 e]] W=some (me ⟨0,0,0,d,e⟩,W):=wv ⟨a,b,c,d,e⟩ W
def L6(x:fA)(W:AW):bf (.func (.func 160) #[] #[]) [me x] W=some (.tuple #[me (rvS x),.af (rvE x)],W):=by
 refine aX rfl ?_ Cn;unfold yK rvS rvE;by_cases c:Ao x 2=0
 ·by_cases k:x.ep=18446744073709551615
  ·have k2:=be k;simp(maxDischargeDepth:=9) only[SX,MX,HX,Nat.reduceAdd,yF,dI,c,k2,cr,qX,aq k]
  ·have k2:=bm k;simp(maxDischargeDepth:=9) only[SX,MX,HX,Nat.reduceAdd,Nat.reduceLT,yF,dI,c,k2,Y1,Yw,cr,qX,ap k]
 ·simp(maxDischargeDepth:=9) only[SX,MX,HX,Nat.reduceAdd,yF,dI,bm c,cr,qX,ap c]
def Pl(x:fA)(t:Int):Int:=if Lb x t=0 then Ao x 0 else Lb x t
def Sr(x:fA)(o t:Int):fA:=if Pl x t=0 then⟨1,o,t,x.se,x.ep⟩else x
def agc(W:AW)(B:Nat)(a b:Int)(h:aC W B=some [.af a,.af b])(hB:B<W.next):bf (.func (.func 186) #[] #[]) [.slice (some ⟨B,0,none⟩) 2 2] W=some (.af (if a=0 then b else a),W):=
 Vx ⟨_,_,rfl,.inr ⟨B,0,_,rfl,hB,h,λi hi=>by rcases(show i=0\/i=1 by simp at hi;omega)with rfl|rfl<;>rfl⟩⟩
def wk(x:fA)(o t:Int)(W:AW):bf (.func (.func 152) #[] #[]) [me x,.int .u32 o,.af t] W=some (.tuple #[me (Sr x o t),.af (Pl x t)],W):=by
 refine aX rfl ?_ F6;unfold EK Sr;have h:=agc (((W.add (.cells (fo x))).add (.cells (fo BG))).add (.cells [.af (Lb x t),.af (Ao x 0)])) (W.next+2) (Lb x t) (Ao x 0) (bU) (by simp only[AW.ar];omega);rw[show(if Lb x t=0 then Ao x 0 else Lb x t)=Pl x t from rfl]at h;by_cases c:Pl x t=0
 ·simp(maxDischargeDepth:=9) only[SX,MX,HX,Nat.reduceAdd,Nat.reduceEqDiff,Nat.reduceLT,yF,oD,dI,oS,Gt,h,c,cr,qX]
 ·simp(maxDischargeDepth:=9) only[SX,MX,HX,Nat.reduceAdd,Nat.reduceEqDiff,Nat.reduceLT,yF,oD,dI,oS,Gt,h,bm c,cr,qX,ap c]
def iV(a b:Int):Int:=if a<0\/b<0 then 0 else min (a+b) 9223372036854775807
def Vm(n:Int)(W:AW):o8 Tryz.prog 2 44 (.af n) W=some (.int .u64 (IntKind.u64.wrap n),W):=aL (by kernel_rfl) rfl
def acx(n:Int)(W:AW):o8 Tryz.prog 44 2 (.int .u64 n) W=some (.af (IntKind.i64.wrap n),W):=aL (by kernel_rfl) rfl
def ahy(n:Int)(c d:Bool)(W:AW):bs Tryz.prog .shr 44 c d (.int .u64 n) (.int .u64 63) W=some (.int .u64 (n.fdiv 9223372036854775808),W):=by refine oG (by simp[nl,Bc]) rfl rfl rfl ?_;simp[eqGuard,binOp,Op.shift];rfl
def yI{n:Int}(h1:0<=n)(h2:n<18446744073709551616):IntKind.u64.wrap n=n:=by unfold IntKind.wrap;simp only[IntKind.bits,IntKind.signed];simp;omega
def adB{a b:Int}(ha:a<9223372036854775808)(hb:b<9223372036854775808)(W:AW):bf (.func (.func 185) #[] #[]) [.af a,.af b] W=some (.tuple #[.af (iV a b),.af (if a<0\/b<0 then 7 else 0)],W):=by
 refine aX rfl ?_ I2;unfold GH iV;have hI:gg (W.add (.cells [.af a,.af b])) (.slice (some ⟨W.next,0,none⟩) 2 2) [a,b]:=JX [a,b] 2 W;have hm:=Ho.KX hI;by_cases c:a<0\/b<0
 ·rw[be (show min a b<0 by omega)]at hm;simp(maxDischargeDepth:=9) only[SX,MX,HX,Ho.Zd,hm,aq c]
 ·rw[bm (show¬min a b<0 by omega)]at hm;have w1:=yI (n:=a) (by omega) (by omega);have w2:=yI (n:=b) (by omega) (by omega);have w3:=yI (n:=a+b) (by omega) (by omega);by_cases k:a+b<9223372036854775808
  ·have k2:decide ((a+b).fdiv 9223372036854775808=0)=true:=be (by rw[Hs _ (by omega)];omega);have w4:=rC (n:=a+b) (by omega) (by omega);simp(maxDischargeDepth:=9) only[SX,MX,HX,Ho.Zd,hm,Vm,w1,w2,Y1,w3,ahy,k2,acx,w4,ap c,Int.min_eq_left (show a+b<=9223372036854775807 by omega)]
  ·have k2:decide ((a+b).fdiv 9223372036854775808=0)=false:=bm (by rw[Hs _ (by omega)];omega);simp(maxDischargeDepth:=9) only[SX,MX,HX,Ho.Zd,hm,Vm,w1,w2,Y1,w3,ahy,k2,ap c,Int.min_eq_right (show 9223372036854775807<=a+b by omega)]
def If{α:Type}{W:AW}{z:Nat}{f:α->List ad}(hf:∀a,(f a).length=z){v:ad}{l:List α}(h:Rd W z f v l):Row W z (oP z f) v l:=by
 obtain⟨a,c,rfl,h⟩:=h;refine⟨a,c,rfl,?_⟩;rcases h with h|⟨b,o,cs,h1,h2,h3,h4⟩
 ·exact .inl h
 ·refine .inr ⟨b,o,cs,h1,h2,h3,λi hi=>?_⟩;unfold oP;have e0:l.flatMap f=(l.take i).flatMap f++(f l[i]++(l.drop (i+1)).flatMap f):=by rw[<-gU,<-ss hi,<-jg,Fv]
  have e1:((l.take i).flatMap f).length=i*z:=by rw[cD hf,fu,nZ (by omega)]
  have e2:(((cs.drop o).take (l.length*z)).drop (i*z)).take z=f l[i]:=by rw[h4,e0,<-e1,sS,<-hf l[i],sV]
  have e3:i*z+z<=l.length*z:=by rw[<-Nat.succ_mul];exact lU z hi
  rw[List.drop_take,pM,List.take_take,nZ (by omega)]at e2;exact e2
def pN(x:fA):(fo x).length=5:=rfl
def Yk(x:fA):(fo x).all Eng.one=true:=rfl
def AS(n:Int):List ad:=[.int .u32 n]
def zj(n:Int):(AS n).length=1:=rfl
def Ea(n:Int):(AS n).all Eng.one=true:=rfl
def vB(l:List Int):l.flatMap AS=l.map (Value.int .u32):=by
 induction l with
 |nil=>rfl
 |cons a l ih=>rw[gU,ih];rfl
abbrev Qm(W:AW)(v:ad)(l:List fA):Prop:=Rd W 5 fo v l
abbrev QC(W:AW)(v:ad)(l:List Int):Prop:=Rd W 1 AS v l
def alu:mq Tryz.prog #[31,31] 5 40=true:=by kernel_rfl
def Pq:mq Tryz.prog #[88,88] 1 4=true:=by kernel_rfl
def adX(W:AW):dA Tryz.prog 31 0 [] W=some (.slice (some ⟨W.next,0,none⟩) 0 0,W.add (.cells [])):=aL (by kernel_rfl) rfl
def YQ(W:AW):dA Tryz.prog 88 0 [] W=some (.slice (some ⟨W.next,0,none⟩) 0 0,W.add (.cells [])):=aL (by kernel_rfl) rfl
def u25:Tryz.prog.underlying 31=some (.slice 87):=by kernel_rfl
def ab0:Tryz.prog.underlying 88=some (.slice 43):=by kernel_rfl
def BZ:((#[31]:Array ae)[0]?).bind Tryz.prog.underlying=some (.slice 87):=by kernel_rfl
def xN:((#[88]:Array ae)[0]?).bind Tryz.prog.underlying=some (.slice 43):=by kernel_rfl
def OZ{t e:ae}(hu:Tryz.prog.underlying t=some (.slice e))(a:Option Addr)(c d:Bool)(l k:Nat)(W:AW):bs Tryz.prog .eql t c d (.slice a l k) (.slice none 0 0) W=some (.bool a.isNone,W):=by
 cases a with
 |none=>unfold bs nl mh;simp only[hu,Option.isNone_none]
 |some a=>unfold bs nl mh;simp only[hu,Option.isNone_some]
def UH{α:Type}{z:Nat}{f:α->List ad}{W:AW}{l:List α}{n c:Nat}(h:Rd W z f (.slice none n c) l):l=[]:=by
 obtain⟨a,c',e,h⟩:=h;injection e with e1 e2 e3;rcases h with h|⟨b,o,cs,e,-⟩
 ·exact h
 ·rw[<-e1]at e;cases e
def nu{α:Type}{z:Nat}{f:α->List ad}{W:AW}{v:ad}{l:List α}(h:Rd W z f v l){ts:Array ae}{e:ae}(ht:(ts[0]?).bind Tryz.prog.underlying=some (.slice e))(W':AW)(ty:ae)(cf:Array Bool):aR Tryz.prog .len ts ty cf [v] W'=some (.af (l.length:Int),W'):=by obtain⟨a,c,rfl,-⟩:=h;exact fZ ht _ _ _
def QC.get{W:AW}{v:ad}{l:List Int}(h:QC W v l){i:Nat}(hi:i<l.length):∃b o,(∀W' k,nR 1 v (.int k (i:Int)) W'=some (.pointer (some ⟨b,o,none⟩),W'))/\b<W.next/\∀W',W'.get b=W.get b->bG (.pointer (some ⟨b,o,none⟩)) W'=some (.int .u32 l[i],W'):=by obtain⟨b,o,cs,h1,h2,h3,h4⟩:=(If zj h).elem hi;exact⟨b,o,h1,h2,λW' hg=>aZ (by unfold aC at h3|-;rw[hg];exact h3) ((ig h4 (j:=0) (by omega)).trans rfl)⟩
def Qm.get{W:AW}{v:ad}{l:List fA}(h:Qm W v l){i:Nat}(hi:i<l.length):∃b o,(∀W' k,nR 5 v (.int k (i:Int)) W'=some (.pointer (some ⟨b,o,none⟩),W'))/\b<W.next/\∀W',W'.get b=W.get b->fd 5 (.pointer (some ⟨b,o,none⟩)) W'=some (me l[i],W'):=by
 obtain⟨b,o,cs,h1,h2,h3,h4⟩:=(If pN h).elem hi;refine⟨b,o,h1,h2,λW' hg=>?_⟩;have hc:aC W' b=some cs:=by unfold aC at h3|-;rw[hg];exact h3
 have e0:(cs.drop o).take 5=fo l[i]:=h4;have:=bV (n:=5) (o:=o) hc (by rw[e0];rfl);rw[e0]at this;exact this
def JE{W:AW}{v:ad}{l:List Int}(h:QC W v l)(hl:l.length<=10000)(x:Int):bf (.func (.func 163) #[] #[]) [v,.int .u32 x] W=some (.af (oi (λy=>decide (x=y)) l),W):=by
 refine aX rfl ?_ oc;unfold jQ;simp only[SX,nu h xN];refine bz l.length (by omega) (λk R W'=>W'=W/\R 0=v/\R 1=.int .u32 x/\R 7=.af (l.length:Int)/\R 8=.af (k:Int)/\(l.take k).any (λy=>decide (x=y))=false)
  (λr=>r.2.2=W/\((r.1=.exit 0/\oi (λy=>decide (x=y)) l= -1)\/(r.1=.ret/\r.2.1 4=.af (oi (λy=>decide (x=y)) l)))) ⟨rfl,rfl,rfl,rfl,rfl,rfl⟩ ?_ ?_ ?_
 ·rintro k R W' hk ⟨rfl,h0,h1,h7,h8,ha⟩;unfold eY;obtain⟨b,o,g1,-,g2⟩:=h.get hk;have e1:((k:Int)<(l.length:Int)):=by omega
  have e2:(k:Int)+1=((k+1:Nat):Int):=by omega
  have ea:=bJ W' k 1;simp only[SX,h0,h1,h7,h8,e1,g1,g2 _ rfl];cases hx:decide (x=l[k])
  ·simp only[SX,ea,ai];exact .inl ⟨ao,ao,h0,h1,h7,by rw[<-e2];rfl,yU hk hx ha⟩
  ·simp only[SX,ai];exact .inr ⟨by simp,ao,.inr ⟨ao,by rw[we hk hx ha];rfl⟩⟩
 ·rintro R W' ⟨rfl,h0,h1,h7,h8,ha⟩;unfold eY;have e1:¬((l.length:Int)<(l.length:Int)):=by omega
  rw[cY]at ha;simp only[SX,h7,h8,e1,ai];exact⟨by simp,ao,.inl ⟨ao,wl ha⟩⟩
 ·rintro⟨y,R,W'⟩ ⟨hW,hq⟩;simp only at hW hq;subst hW;rcases hq with⟨rfl,hq⟩|⟨rfl,h4⟩
  ·simp(maxDischargeDepth:=9) only[SX,MX,HX,hq]
  ·simp(maxDischargeDepth:=9) only[SX,MX,HX,h4]
def BL{W:AW}{v:ad}{l:List Int}(h:QC W v l)(hl:l.length<=10000)(x:Int):bf (.func (.func 162) #[] #[]) [v,.int .u32 x] W=some (.bool (l.any λy=>decide (x=y)),W):=by refine aX rfl ?_ my;unfold iN;simp(maxDischargeDepth:=9) only[SX,MX,HX,JE h hl,zR]
section
variable {α:Type} {z:Nat} {f:α->List ad}
def Es(hf:∀a,(f a).length=z){xs:List α}{j:Nat}{x:α}(h:xs[j]? =some x):xs.flatMap f=(xs.take j).flatMap f++(f x++(xs.drop (j+1)).flatMap f)/\((xs.take j).flatMap f).length=j*z:=by obtain⟨hi,e⟩:=cn.1 h;refine⟨?_,by rw[cD hf,fu,nZ (by omega)]⟩;rw[<-e,<-gU,<-ss hi,<-jg,Fv]
def Gu(hf:∀a,(f a).length=z){xs:List α}{j:Nat}{x:α}(h:xs[j]? =some x):((xs.flatMap f).drop (j*z)).take z=f x:=by obtain⟨e1,e2⟩:=Es hf h;rw[e1,<-e2,sS,<-hf x,sV]
def SP(hf:∀a,(f a).length=z){xs:List α}{j:Nat}{x:α}(h:xs[j]? =some x)(y:α):fN (xs.flatMap f) (j*z) (f y)=(xs.set j y).flatMap f:=by obtain⟨e1,e2⟩:=Es hf h;obtain⟨hi,-⟩:=cn.1 h;have e3:xs.set j y=xs.take j++y::xs.drop (j+1):=CZ.trans (aq hi);unfold fN;rw[e3,jg,gU,e1,<-e2,sV,hf y,<-hf x,<-pM,sS,sS,mA]
end
def wM{W V:AW}{v:ad}{Q:AW->Prop}(hq:Q V)(hb:Le W V->Q W):∃W',gc W (v,V)=(v,W')/\Q W':=by
 unfold gc;split
 ·rename_i h;exact⟨W,rfl,hb h.2⟩
 ·exact⟨V,rfl,hq⟩
structure cK where
 v:fc
 now:Int
 st:List fA
 qs:List (List Int)
abbrev Mj(o:jS):List ad:=[.af o.k,.int .u32 o.ow,.af o.un,.af o.se,.af o.sc,.af o.n,.int .u32 o.to,.int .u32 o.t1,.int .u32 o.t2,.int .u64 o.t3,.int .u64 o.t4,.af o.nw]
abbrev IU(v:fc)(sv:ad)(now:Int)(sq qq:ad)(o:jS)(s:Int):List ad:=[.af v.sh,.af v.dS,.af v.g9,sv,.af now,sq,qq,
 .af o.k,.int .u32 o.ow,.af o.un,.af o.se,.af o.sc,.af o.n,.int .u32 o.to,.int .u32 o.t1,.int .u32 o.t2,.int .u64 o.t3,.int .u64 o.t4,.af o.nw,.af s]
abbrev bi(b:Nat):ad:=.pointer (some ⟨b,0,none⟩)
abbrev uu(b n:Nat):ad:=.slice (some ⟨b,0,none⟩) n (dY+5)
abbrev oh(b n:Nat):ad:=.slice (some ⟨b,0,none⟩) n n
def QA(W:AW)(u:ad)(l:List Int)(B:Nat):Prop:=(l=[]/\(u=.slice none 0 0\/∃a,u=.slice (some a) 0 0))\/∃o cs,u=.slice (some ⟨B,o,none⟩) l.length (dY+1)/\W.get B=some (.cells cs)/\(cs.drop o).take l.length=l.map (Value.int .u32)
def QA.keep{W W':AW}{u:ad}{l:List Int}{B:Nat}(h:QA W u l B)(hg:W'.get B=W.get B):QA W' u l B:=by
 rcases h with h|⟨o,cs,h1,h2,h3⟩
 ·exact .inl h
 ·exact .inr ⟨o,cs,h1,by rw[hg];exact h2,h3⟩
def QA.slice{W:AW}{u:ad}{l:List Int}{B:Nat}(h:QA W u l B):∃a c,u=.slice a l.length c:=by
 rcases h with⟨rfl,rfl|⟨a,rfl⟩⟩|⟨o,cs,h1,h2,h3⟩
 ·exact⟨_,_,rfl⟩
 ·exact⟨_,_,rfl⟩
 ·exact⟨_,_,h1⟩
def QsA(W:AW)(qb:Nat)(bq:Nat->Nat)(qs:List (List Int)):Prop:=∃qv,W.get qb=some (.cells qv)/\qv.length=qs.length/\∀k (h:k<qs.length),∃u,qv[k]? =some u/\QA W u qs[k] (bq k)
structure dT (W0 W:AW) (ob sb qb:Nat) (bq:Nat->Nat) (x:cK) (sv:ad) (o:jS) (s:Int):Prop where
 le:Le W0 W
 lo:W0.next<=ob/\W0.next<=sb/\W0.next<=qb
 hi:ob<W.next/\sb<W.next/\qb<W.next
 ne:ob≠sb/\ob≠qb/\sb≠qb
 nq:∀k,W0.next<=bq k/\bq k<W.next/\bq k≠ob/\bq k≠sb/\bq k≠qb
 sec:iO W0 sv x.v.aA
 go:W.get ob=some (.cells (IU x.v sv x.now (uu sb x.st.length) (oh qb x.qs.length) o s))
 gs:W.get sb=some (.cells (x.st.flatMap fo))
 gq:QsA W qb bq x.qs
section
variable {W0 W W':AW} {ob sb qb:Nat} {bq:Nat->Nat} {x x':cK} {sv:ad} {o:jS} {s:Int}
def QsA.keep{qs:List (List Int)}(h:QsA W qb bq qs)(h1:W'.get qb=W.get qb)(h2:∀k,W'.get (bq k)=W.get (bq k)):QsA W' qb bq qs:=by obtain⟨qv,a,b,c⟩:=h;refine⟨qv,by rw[h1];exact a,b,λk hk=>?_⟩;obtain⟨u,c1,c2⟩:=c k hk;exact⟨u,c1,c2.keep (h2 k)⟩
def Fr(W W':AW)(sb qb:Nat):Prop:=W.next<=W'.next/\∀b,b<W.next->b≠sb->b≠qb->W'.get b=W.get b
def Fr.refl(W:AW)(sb qb:Nat):Fr W W sb qb:=⟨aM _,λ_ _ _ _=>rfl⟩
def Fr.trans{A B C:AW}(h:Fr A B sb qb)(k:Fr B C sb qb):Fr A C sb qb:=⟨eW h.1 k.1,λb hb h1 h2=>(k.2 b (eE hb h.1) h1 h2).trans (h.2 b hb h1 h2)⟩
def Fr.of_le{A B:AW}(h:Le A B):Fr A B sb qb:=⟨h.next,λb hb _ _=>h.get b hb⟩
def dT.step(h:dT W0 W ob sb qb bq x sv o s)(hf:Fr W W' sb qb)(e1:x'.v=x.v)(e2:x'.now=x.now)(e3:x'.st.length=x.st.length)(e4:x'.qs.length=x.qs.length)
 (gs:W'.get sb=some (.cells (x'.st.flatMap fo)))(gq:QsA W' qb bq x'.qs):dT W0 W' ob sb qb bq x' sv o s where
 le:=⟨eW h.le.next hf.1,λb hb=>(hf.2 b (eE hb h.le.next) (by have:=h.lo;omega) (by have:=h.lo;omega)).trans (h.le.get b hb)⟩
 lo:=h.lo
 hi:=by have:=h.hi;have:=hf.1;omega
 ne:=h.ne
 nq:=λk=>by have:=h.nq k;have:=hf.1;omega
 sec:=by rw[e1];exact h.sec
 go:=by rw[hf.2 ob h.hi.1 h.ne.1 h.ne.2.1,e1,e2,e3,e4];exact h.go
 gs:=gs
 gq:=gq
def dT.mono(h:dT W0 W ob sb qb bq x sv o s)(aS:Le W W'):dT W0 W' ob sb qb bq x sv o s:=
 h.step (.of_le aS) rfl rfl rfl rfl (by rw[aS.get _ h.hi.2.1];exact h.gs) (h.gq.keep (aS.get _ h.hi.2.2) λk=>aS.get _ (h.nq k).2.1)
def dT.back(h:dT W0 W ob sb qb bq x sv o s)(h2:dT W0 W' ob sb qb bq x' sv o s)(aS:Le W W'):dT W0 W ob sb qb bq x' sv o s where
 le:=h.le
 lo:=h.lo
 hi:=h.hi
 ne:=h.ne
 nq:=h.nq
 sec:=h2.sec
 go:=by rw[<-aS.get _ h.hi.1];exact h2.go
 gs:=by rw[<-aS.get _ h.hi.2.1];exact h2.gs
 gq:=h2.gq.keep (aS.get _ h.hi.2.2).symm λk=>(aS.get _ (h.nq k).2.1).symm
def dT.other(h:dT W0 W ob sb qb bq x sv o s){b:Nat}{c:db}(h1:W0.next<=b)(h2:b≠ob)(h3:b≠sb)(h4:b≠qb)(h5:∀k,b≠bq k):dT W0 (W.put b c) ob sb qb bq x sv o s where
 le:=h.le.put h1 _
 lo:=h.lo
 hi:=h.hi
 ne:=h.ne
 nq:=h.nq
 sec:=h.sec
 go:=by rw[AW.ay _ _ h2];exact h.go
 gs:=by rw[AW.ay _ _ h3];exact h.gs
 gq:=h.gq.keep (AW.ay _ _ h4) λk=>AW.ay _ _ (h5 k)
def dT.c(h:dT W0 W ob sb qb bq x sv o s):aC W ob=some (IU x.v sv x.now (uu sb x.st.length) (oh qb x.qs.length) o (s:Int)):=az h.go
def wX{s n b:Nat}(hs:s<n)(W':AW):nR 5 (uu b n) (.af (s:Int)) W'=some (.pointer (some ⟨b,s*5,none⟩),W'):=by have:=rT (z:=5) (b:=b) (o:=0) (c:=dY+5) (W:=W') (k:=.i64) hs;rwa [aN]at this
def MV{l:List fA}{y:fA}{b s:Nat}{W:AW}(hb:W.get b=some (.cells (l.flatMap fo)))(h:l[s]? =some y):fd 5 (.pointer (some ⟨b,s*5,none⟩)) W=some (me y,W):=by have e:=Gu pN h;have:=bV (W:=W) (n:=5) (o:=s*5) (az hb) (by rw[e];rfl);rw[e]at this;exact this
def IB{l:List fA}{y z:fA}{b s:Nat}{W:AW}(hb:W.get b=some (.cells (l.flatMap fo)))(h:l[s]? =some y):gv 5 (.pointer (some ⟨b,s*5,none⟩)) (me z) W=some (ak,W.put b (.cells ((l.set s z).flatMap fo))):=by
 have hl:s*5+5<=(l.flatMap fo).length:=by rw[cD pN];have:=(cn.1 h).1;omega
 refine(AV (n:=5) (o:=s*5) (v:=me z) hb rfl hl rfl).trans ?_;rw[<-SP pN h z];rfl
def dT.ld(h:dT W0 W ob sb qb bq x sv o s){i:Nat}{u:ad}(hi:(IU x.v sv x.now (uu sb x.st.length) (oh qb x.qs.length) o (s:Int))[i]? =some u):bG (.pointer (some ⟨ob,i,none⟩)) W=some (u,W):=aZ h.c hi
def dT.l5(h:dT W0 W ob sb qb bq x sv o s):bG (.pointer (some ⟨ob,5,none⟩)) W=some (uu sb x.st.length,W):=h.ld rfl
def dT.l6(h:dT W0 W ob sb qb bq x sv o s):bG (.pointer (some ⟨ob,6,none⟩)) W=some (oh qb x.qs.length,W):=h.ld rfl
def dT.SG(h:dT W0 W ob sb qb bq x sv o s):bG (.pointer (some ⟨ob,19,none⟩)) W=some (.af (s:Int),W):=h.ld rfl
def uN(h:dT W0 W ob sb qb bq x sv o s){acw:Int}(h1:x.now<9223372036854775808)(h2:acw<9223372036854775808):bf (.func (.func 150) #[] #[]) [bi ob,.af acw] W=some (.af (iV x.now acw),W):=by refine aX rfl ?_ ub;unfold pw;simp(maxDischargeDepth:=9) only[SX,MX,HX,aJ,h.c,adB h1 h2]
def HB(x:cK)(s:Nat)(y:fA)(e:Int):cK:=if e=0 then{x with st:=x.st.set s y}else x
def A2{s:Nat}(h:dT W0 W ob sb qb bq x sv o s)(hs:s<x.st.length)(y:fA)(e:Int):∃W',bf (.func (.func 151) #[] #[]) [bi ob,me y,.af e] W=some (.af e,W')/\dT W0 W' ob sb qb bq (HB x s y e) sv o s/\Fr W W' sb qb:=by
 have hq:Ok (jI bf (bi ob) (me y) (.af e) W) λr=>r.1=.af e/\dT W0 r.2 ob sb qb bq (HB x s y e) sv o s/\Fr W r.2 sb qb:=by
  unfold jI HB;have aS:Le W (W.add (.cells (fo y))):=(Le.refl W).add _;have h1:=h.mono aS;have g1:(W.add (.cells (fo y))).get W.next=some (.cells (fo y)):=AW.aH _ _;have n1:=AW.ar W (.cells (fo y));simp only[SX];generalize W.add (.cells (fo y))=W1 at *;by_cases c:e=0
  ·have st:=IB (z:=y) h1.gs (bS hs);simp only[SX,c,aJ,aN,h1.l5,h1.SG,cy g1,wX hs,st,ba,ai];have hf:Fr W (W1.put sb (.cells ((x.st.set s y).flatMap fo))) sb qb:=⟨by rw[AW.bh];omega,λb hb b1 b2=>by rw[AW.ay _ _ (aV b1)];exact aS.get b hb⟩;refine⟨ao,h.step (x':={x with st:=x.st.set s y}) hf rfl rfl (by simp) rfl (AW.aW _ _ _) (h.gq.keep ?_ λk=>?_),hf⟩
   ·exact(AW.ay _ _ h.ne.2.2).trans (aS.get _ h.hi.2.2)
   ·exact(AW.ay _ _ (aV (h.nq k).2.2.2.1)).trans (aS.get _ (h.nq k).2.1)
  ·have d:=bm c;simp only[SX,d,ap c,ai];exact⟨ao,h1,.of_le aS⟩
 obtain⟨⟨v,V⟩,k1,rfl,k2⟩:=hq;have hg:=sx k1;obtain⟨V2,e',q⟩:=wM (v:=.af e) (Q:=λV=>dT W0 V ob sb qb bq (HB x s y e) sv o s/\Fr W V sb qb) k2 λhp=>⟨h.back k2.1 hp,.refl _ _ _⟩
 exact⟨V2,by rw[hg,e'],q⟩
end
def xG(v:fc)(s:Nat):Nat:=(eZ v s).1.1
def pU(x:cK)(s:Nat)(a:Int):fA:=Sr (x.st.getD s BG) a (iV x.now x.v.dS)
def sf(x:cK)(s:Nat):cK:=match x.qs[xG x.v s]? with
 |some (a::t)=>{x with st:=x.st.set s (pU x s a),qs:=x.qs.set (xG x.v s) t}
 |_=>x
def ahO:kQ Tryz.prog 43=some 1:=by kernel_rfl
def aeq{B o n:Nat}(h:0<n)(W:AW):ft Tryz.prog 88 (.slice (some ⟨B,o,none⟩) n (dY+1)) (some (.af 1)) none none W=some (.slice (some ⟨B,o+1,none⟩) (n-1) (dY+1),W):=by
 unfold ft mH;have e1:kK (.af 1)=some 1:=rfl;have e2:((⟨B,o,none⟩:Addr).add (1*1))=⟨B,o+1,none⟩:=by rw[cP]
 simp only[ab0,ahO,fm,e1,aq (show 1<=n by omega),yo,Nat.zero_lt_one,ba,aM,e2]
def QA.tail{W:AW}{a:Int}{t:List Int}{B o:Nat}{cs:List ad}(h2:W.get B=some (.cells cs))(h3:(cs.drop o).take (a::t).length=(a::t).map (Value.int .u32)):QA W (.slice (some ⟨B,o+1,none⟩) ((a::t).length-1) (dY+1)) t B:=by rw[show(a::t).length-1=t.length from rfl];refine .inr ⟨o+1,cs,rfl,h2,?_⟩;have e:=iH (List.drop 1) h3;rw[List.drop_take,pM]at e;exact e
section
variable {W0 W W':AW} {ob sb qb:Nat} {bq:Nat->Nat} {x x':cK} {sv:ad} {o:jS} {s:Int}
def dT.l4(h:dT W0 W ob sb qb bq x sv o s):fd 4 (.pointer (some ⟨ob,0,none⟩)) W=some (kP x.v sv,W):=bV h.c rfl
def dT.l1(h:dT W0 W ob sb qb bq x sv o s):bG (.pointer (some ⟨ob,1,none⟩)) W=some (.af x.v.dS,W):=h.ld rfl
def ad3(W:AW):∃W1,cl Tryz.prog 177 W=some (.pointer (some ⟨W.next,0,none⟩),W1)/\W1.next=W.next+1/\Le W W1/\aK W1 W.next=some [.af 0,.af 0,.af 0]:=aaH W
def Kl(h:dT W0 W ob sb qb bq x sv o s){i:Nat}(hs:i<x.st.length)(hk:xG x.v i<x.qs.length)(hv:x.v.aA.length<1000)(h1:x.now<9223372036854775808)(h2:x.v.dS<9223372036854775808):
 ∃W',bf (.func (.func 170) #[] #[]) [bi ob,.af (i:Int)] W=some (.tuple #[],W')/\dT W0 W' ob sb qb bq (sf x i) sv o s/\Fr W W' sb qb:=by
 have hq:Ok (j9 bf (bi ob) (.af (i:Int)) W) λr=>r.1=.tuple #[]/\dT W0 r.2 ob sb qb bq (sf x i) sv o s/\Fr W r.2 sb qb:=by
  unfold j9;have nQ:=Tl (v:=x.v) (sv:=sv) (W:=W) (bF:=(i:Int)) (h.sec.mono h.le) hv;obtain⟨V1,a1,n1,l1,r1⟩:=ad3 W;have b1:=W9 (a:=((eZ x.v i).1.1:Int)) (c:=((eZ x.v i).1.2.1:Int)) (d:=((eZ x.v i).1.2.2:Int)) r1;have gb:(V1.put W.next (.cells [.af ((eZ x.v i).1.1:Int),.af ((eZ x.v i).1.2.1:Int),.af ((eZ x.v i).1.2.2:Int)])).get W.next=some (.cells [.af ((eZ x.v i).1.1:Int),.af ((eZ x.v i).1.2.1:Int),.af ((eZ x.v i).1.2.2:Int)]):=AW.aW _ _ _;have l2:=l1.put (aM _) (.cells [.af ((eZ x.v i).1.1:Int),.af ((eZ x.v i).1.2.1:Int),.af ((eZ x.v i).1.2.2:Int)]);have n2:(V1.put W.next (.cells [.af ((eZ x.v i).1.1:Int),.af ((eZ x.v i).1.2.1:Int),.af ((eZ x.v i).1.2.2:Int)])).next=W.next+1:=n1;simp only[SX,aJ,aN,h.l4,nQ,a1,b1];generalize V1.put W.next (.cells [.af ((eZ x.v i).1.1:Int),.af ((eZ x.v i).1.2.1:Int),.af ((eZ x.v i).1.2.2:Int)])=W1 at *;have h':=h.mono l2;have gi:∀V:AW,V.get W.next=W1.get W.next->bG (.pointer (some ⟨W.next,0,none⟩)) V=some (.af (xG x.v i:Int),V):=λV hV=>aZ (az (hV.trans gb)) rfl
  obtain⟨qv,q1,q2,q3⟩:=h'.gq;obtain⟨u,u1,u2⟩:=q3 _ hk;have ix:∀V:AW,nR 1 (oh qb x.qs.length) (.af (xG x.v i:Int)) V=some (.pointer (some ⟨qb,xG x.v i,none⟩),V):=λV=>by have:=rT (z:=1) (b:=qb) (o:=0) (c:=x.qs.length) (W:=V) (k:=.i64) hk;rwa [aN,jE]at this
  have lu:bG (.pointer (some ⟨qb,xG x.v i,none⟩)) W1=some (u,W1):=aZ (az q1) u1;obtain⟨ua,uc,ue⟩:=u2.slice;have ul:∀V:AW,aR Tryz.prog .len #[88] 3 #[false] [u] V=some (.af ((x.qs[xG x.v i]).length:Int),V):=λV=>by rw[ue];exact fZ xN _ _ _
  simp only[SX,gi W1 rfl,h'.l6,ix,lu,ul];cases he:x.qs[xG x.v i]with
  |nil=>
   have e0:sf x i=x:=by unfold sf;rw[bS hk,he]
   rw[e0];simp only[SX,wC,Int.lt_irrefl,ai,show((0:Nat):Int)=0 from rfl];exact⟨ao,h',.of_le l2⟩
  |cons a t=>
   have e0:sf x i={x with st:=x.st.set i (pU x i a),qs:=x.qs.set (xG x.v i) t}:=by unfold sf;rw[bS hk,he]
   rw[e0];rw[he]at u2;rcases u2 with⟨hx,_⟩|⟨oo,cs,rfl,u3,u4⟩
   ·cases hx
   have uj:decide ((0:Int)<(((a::t).length:Nat):Int))=true:=be (by rw[cG];omega);have hgi:=bS hs;have hg0:x.st.getD i BG=x.st[i]:=by simp[List.getD,hgi]
   have Xy:=MV (W:=W1) h'.gs hgi;have ix0:∀V:AW,nR 1 (.slice (some ⟨bq (xG x.v i),oo,none⟩) (a::t).length (dY+1)) (.af 0) V=some (.pointer (some ⟨bq (xG x.v i),oo,none⟩),V):=λV=>by have:=rT (z:=1) (b:=bq (xG x.v i)) (o:=oo) (l:=(a::t).length) (i:=0) (c:=dY+1) (W:=V) (k:=.i64) (by rw[cG];omega);rwa [sW,fY]at this
   have la:bG (.pointer (some ⟨bq (xG x.v i),oo,none⟩)) W1=some (.int .u32 a,W1):=aZ (az u3) (by have:=iH (λl:List ad=>l[0]?) u4;simp only[lD,qn,cG,fY,Nat.zero_lt_succ,ba,kg,Bx]at this;exact this);have st:=IB (z:=pU x i a) h'.gs hgi;have hho:Sr x.st[i] a (iV x.now x.v.dS)=pU x i a:=by unfold pU;rw[hg0]
   simp only[SX,uj,h'.l5,wX hs,Xy,ix0,la,h'.l1,uN h' h1 h2,dP,wA,oS,kB,ki,wk,hho,st];have FB:dT W0 (W1.put sb (.cells ((x.st.set i (pU x i a)).flatMap fo))) ob sb qb bq {x with st:=x.st.set i (pU x i a)} sv o s:=
    h'.step ⟨by rw[AW.bh];omega,λb _ b1 _=>AW.ay _ _ (aV b1)⟩ rfl rfl (by simp) rfl (AW.aW _ _ _) (h'.gq.keep (AW.ay _ _ h.ne.2.2) λk=>AW.ay _ _ (aV (h.nq k).2.2.2.1))
   have gi2:=gi (W1.put sb (.cells ((x.st.set i (pU x i a)).flatMap fo))) (AW.ay _ _ (by have:=h.hi.2.1;omega));have q1':aK (W1.put sb (.cells ((x.st.set i (pU x i a)).flatMap fo))) qb=some qv:=dJ ((AW.ay _ _ h.ne.2.2).trans q1);have gsb:=AW.aW W1 sb (.cells ((x.st.set i (pU x i a)).flatMap fo));have O2:∀b,b≠sb->(W1.put sb (.cells ((x.st.set i (pU x i a)).flatMap fo))).get b=W1.get b:=λb hb=>AW.ay _ _ (aV hb)
   have nn:(W1.put sb (.cells ((x.st.set i (pU x i a)).flatMap fo))).next=W1.next:=rfl;generalize W1.put sb (.cells ((x.st.set i (pU x i a)).flatMap fo))=W2 at *;have l6:bG (.pointer (some ⟨ob,6,none⟩)) W2=some (oh qb x.qs.length,W2):=FB.l6;have QL:xG x.v i<qv.length:=by omega
   have sq:gv 1 (.pointer (some ⟨qb,xG x.v i,none⟩)) (.slice (some ⟨bq (xG x.v i),oo+1,none⟩) ((a::t).length-1) (dY+1)) W2=some (ak,W2.put qb (.cells (qv.set (xG x.v i) (.slice (some ⟨bq (xG x.v i),oo+1,none⟩) ((a::t).length-1) (dY+1))))):=by rw[mD,q1',bL,aq QL]
   simp only[SX,l6,gi2,aeq (show 0<(a::t).length by rw[cG];omega),ix,sq,ai];have hf:Fr W (W2.put qb (.cells (qv.set (xG x.v i) (.slice (some ⟨bq (xG x.v i),oo+1,none⟩) ((a::t).length-1) (dY+1))))) sb qb:=
    ⟨by rw[AW.bh];omega,λb hb b1 b2=>(AW.ay _ _ (aV b2)).trans ((O2 b b1).trans (l2.get b hb))⟩
   refine⟨ao,h.step (x':={x with st:=x.st.set i (pU x i a),qs:=x.qs.set (xG x.v i) t}) hf rfl rfl (by simp) (by simp) ((AW.ay _ _ (aV h.ne.2.2)).trans gsb) ?_,hf⟩;have gk:∀k,(W2.put qb (.cells (qv.set (xG x.v i) (.slice (some ⟨bq (xG x.v i),oo+1,none⟩) ((a::t).length-1) (dY+1))))).get (bq k)=W1.get (bq k):=λk=>(AW.ay _ _ (aV (h.nq k).2.2.2.2)).trans (O2 _ (h.nq k).2.2.2.1)
   refine⟨_,AW.aW _ _ _,by simp[q2],λk AO=>?_⟩;have RN:k<x.qs.length:=by simpa using AO
   by_cases hkk:xG x.v i=k
   ·subst hkk;refine⟨_,by rw[vd QL],?_⟩;rw[CP];exact QA.tail ((gk _).trans u3) u4
   ·obtain⟨u',v1,v2⟩:=q3 k RN;refine⟨u',by rw[xP hkk];exact v1,?_⟩;rw[Ib hkk];exact v2.keep (gk k)
 obtain⟨⟨v,V⟩,k1,rfl,k2⟩:=hq;have hg:=t8 k1;obtain⟨V2,e,q⟩:=wM (v:=.tuple #[]) (Q:=λV=>dT W0 V ob sb qb bq (sf x i) sv o s/\Fr W V sb qb) k2 λhp=>⟨h.back k2.1 hp,.refl _ _ _⟩
 exact⟨V2,by rw[hg,e],q⟩
end
abbrev oH(r:oE):List ad:=[.af r.er,.af r.se,.af r.n,.af r.dl,.int .u32 r.t1,.int .u32 r.t2,.int .u64 r.t3,.int .u64 r.t4,.af r.pl]
def O7(W:AW):cl Tryz.prog 50 W=some (bi W.next,W.add (.cells (oH kI))):=aL (by kernel_rfl) rfl
def aaW(x:ad)(W:AW):fR Tryz.prog 50 x W=fd 9 x W:=by kernel_rfl
def rK(e:Int):oE:={kI with er:=e}
def Z8(d:Int):oE:={kI with dl:=d}
def rpT(t:Md):oE:={kI with t1:=t.a,t2:=t.b,t3:=t.c,t4:=t.d}
def oR(e:Int)(W:AW):dX Tryz.prog 50 [(0,.af e)] W=some (lC (rK e),W):=aL (by kernel_rfl) rfl
def VO(e:Int)(W:AW):dX Tryz.prog 50 [(3,.af e)] W=some (lC (Z8 e),W):=aL (by kernel_rfl) rfl
def adp(t:Md)(W:AW):dX Tryz.prog 50 [(4,Xu t)] W=some (lC (rpT t),W):=aL (by kernel_rfl) rfl
def j7(W:AW):∃V,cl Tryz.prog 50 W=some (bi W.next,V)/\Le W V/\V.next=W.next+1/\V.get W.next=some (.cells (oH kI)):=⟨_,O7 W,(Le.refl _).add _,AW.ar _ _,AW.aH _ _⟩
section
variable {W0 W V:AW} {ob sb qb:Nat} {bq:Nat->Nat} {x x':cK} {sv:ad} {o:jS} {s:Int}
def pJ{b:Nat}{r0:oE}(hg:V.get b=some (.cells (oH r0)))(r:oE):gv 9 (bi b) (lC r) V=some (ak,V.put b (.cells (oH r)))/\iS Tryz.prog [(bi b,some 50)] (V.put b (.cells (oH r)))=some (lC r,V.put b (.cells (oH r))):=by refine⟨kJ (vs:=(oH r).toArray) hg rfl rfl rfl,?_⟩;rw[zD,aaW,bV (cs:=oH r) (az (AW.aW _ _ _)) rfl];rfl
def eV{b:Nat}(h:dT W0 W ob sb qb bq x sv o s)(h2:dT W0 V ob sb qb bq x' sv o s)(hf:Fr W V sb qb)(hb:W.next<=b)(c:db):dT W0 (V.put b c) ob sb qb bq x' sv o s/\Fr W (V.put b c) sb qb:=
 ⟨h2.other (by have:=h.le.next;omega) (by have:=h.hi;omega) (by have:=h.hi;omega) (by have:=h.hi;omega) (λk=>by have:=h.nq k;omega),
   by rw[AW.bh];exact hf.1,λi hi i1 i2=>(AW.ay _ _ (by omega)).trans (hf.2 i hi i1 i2)⟩
def Og(x:cK)(s:Nat)(y:fA)(e:Int):cK:=if e=0 then sf {x with st:=x.st.set s y} s else x
structure Bd (x:cK) (s:Nat):Prop where
 i:s<x.st.length
 k:xG x.v s<x.qs.length
 v:x.v.aA.length<1000
 now:x.now<9223372036854775808
 dS:x.v.dS<9223372036854775808
 g9:x.v.g9<9223372036854775808
def Bd.ch{s:Nat}(h:Bd x s)(y:fA):Bd {x with st:=x.st.set s y} s:=⟨by simpa using h.i,h.k,h.v,h.now,h.dS,h.g9⟩
def DQ{s:Nat}(h:dT W0 W ob sb qb bq x sv o s)(hb:Bd x s)(y:fA)(e:Int):∃W',bf (.func (.func 154) #[] #[]) [bi ob,me y,.af e] W=some (lC (rK e),W')/\dT W0 W' ob sb qb bq (Og x s y e) sv o s/\Fr W W' sb qb:=by
 have hq:Ok (ks bf (bi ob) (me y) (.af e) W) λr=>r.1=lC (rK e)/\dT W0 r.2 ob sb qb bq (Og x s y e) sv o s/\Fr W r.2 sb qb:=by
  unfold ks;have Ov:Le W (W.add (.cells (fo y))):=(Le.refl W).add _;obtain⟨V,al,nh,n2,g2⟩:=j7 (W.add (.cells (fo y)));have g1:V.get W.next=some (.cells (fo y)):=(nh.get _ (by rw[AW.ar];omega)).trans (AW.aH _ _);have aS:=Ov.trans nh;rw[AW.ar]at n2 g2;simp only[SX];rw[al];simp only[SX,AW.ar,cy g1];obtain⟨V2,k1,k2,k3⟩:=A2 (h.mono aS) hb.i y e;have g3:V2.get (W.next+1)=some (.cells (oH kI)):=(k3.2 _ (by omega) (by have:=h.hi;omega) (by have:=h.hi;omega)).trans g2;have f3:Fr W V2 sb qb:=(Fr.of_le aS).trans k3;by_cases c:e=0
  ·have e1:HB x s y e={x with st:=x.st.set s y}:=aq c;have e2:Og x s y e=sf {x with st:=x.st.set s y} s:=aq c;rw[e1]at k2;rw[e2];have Qw:=hb.ch y;obtain⟨V3,m1,m2,m3⟩:=Kl k2 Qw.i Qw.k Qw.v Qw.now Qw.dS;have g4:V3.get (W.next+1)=some (.cells (oH kI)):=(m3.2 _ (by have:=k3.1;omega) (by have:=h.hi;omega) (by have:=h.hi;omega)).trans g3;obtain⟨p1,p2⟩:=pJ g4 (rK e);have d:=be c;simp only[SX,k1,d,aJ,k2.SG,aN,m1,oR,p1,p2,ai];exact⟨ao,eV h m2 (f3.trans m3) (by omega) _⟩
  ·have e1:HB x s y e=x:=ap c;have e2:Og x s y e=x:=ap c;rw[e1]at k2;rw[e2];obtain⟨p1,p2⟩:=pJ g3 (rK e);have d:=bm c;simp only[SX,k1,d,oR,p1,p2,ai];exact⟨ao,eV h k2 f3 (by omega) _⟩
 obtain⟨⟨v,V⟩,k1,rfl,k2⟩:=hq;have hg:=ug k1;obtain⟨V2,e',q⟩:=wM (v:=lC (rK e)) (Q:=λV=>dT W0 V ob sb qb bq (Og x s y e) sv o s/\Fr W V sb qb) k2 λhp=>⟨h.back k2.1 hp,.refl _ _ _⟩
 exact⟨V2,by rw[hg,e'],q⟩
def Xh(s:Nat)(y:fA)(e:Int):oE:=if e=0 then rpT (Xf y s)else rK e
def aeu{n:Nat}(h:n<4294967296)(W:AW):o8 Tryz.prog 3 43 (.af (n:Int)) W=some (.int .u32 (n:Int),W):=by
 have e:IntKind.u32.wrap (n:Int)=n:=by unfold IntKind.wrap;simp only[IntKind.bits,IntKind.signed];simp;omega
 have:=(aL (by kernel_rfl) rfl:o8 Tryz.prog 3 43 (.af (n:Int)) W=some (.int .u32 (IntKind.u32.wrap (n:Int)),W));rw[e]at this;exact this
def aer(W:AW):∃V,cl Tryz.prog 46 W=some (bi W.next,V)/\Le W V/\V.next=W.next+1/\V.get W.next=some (.cells (TJ ti0)):=⟨_,J2 W,(Le.refl _).add _,AW.ar _ _,AW.aH _ _⟩
def alb{b:Nat}{t0:Md}(hg:V.get b=some (.cells (TJ t0)))(t:Md):gv 4 (bi b) (Xu t) V=some (ak,V.put b (.cells (TJ t)))/\fd 4 (bi b) (V.put b (.cells (TJ t)))=some (Xu t,V.put b (.cells (TJ t))):=
 ⟨kJ (vs:=(TJ t).toArray) hg rfl rfl rfl,bV (cs:=TJ t) (az (AW.aW _ _ _)) rfl⟩
def OT{s:Nat}(h:dT W0 W ob sb qb bq x sv o s)(hb:Bd x s)(hs:s<4294967296)(y:fA)(e:Int):∃W',bf (.func (.func 156) #[] #[]) [bi ob,me y,.af e] W=some (lC (Xh s y e),W')/\dT W0 W' ob sb qb bq (HB x s y e) sv o s/\Fr W W' sb qb:=by
 have hq:Ok (lQ bf (bi ob) (me y) (.af e) W) λr=>r.1=lC (Xh s y e)/\dT W0 r.2 ob sb qb bq (HB x s y e) sv o s/\Fr W r.2 sb qb:=by
  unfold lQ;have Ov:Le W (W.add (.cells (fo y))):=(Le.refl W).add _;obtain⟨V,al,nh,n2,g2⟩:=j7 (W.add (.cells (fo y)));have g1:V.get W.next=some (.cells (fo y)):=(nh.get _ (by rw[AW.ar];omega)).trans (AW.aH _ _);have aS:=Ov.trans nh;rw[AW.ar]at n2 g2;simp only[SX];rw[al];simp only[SX,AW.ar,cy g1];obtain⟨V2,k1,k2,k3⟩:=A2 (h.mono aS) hb.i y e;have g3:V2.get (W.next+1)=some (.cells (oH kI)):=(k3.2 _ (by omega) (by have:=h.hi;omega) (by have:=h.hi;omega)).trans g2;have g3':V2.get W.next=some (.cells (fo y)):=(k3.2 _ (by omega) (by have:=h.hi;omega) (by have:=h.hi;omega)).trans g1;have f3:Fr W V2 sb qb:=(Fr.of_le aS).trans k3;by_cases c:e=0
  ·have e2:Xh s y e=rpT (Xf y s):=aq c;rw[e2];have d:=be c;obtain⟨V3,m1,m2,m3,m4⟩:=aer V2;obtain⟨p1,p2⟩:=alb m4 (Xf y s);have aci:Le V2 (V3.put V2.next (.cells (TJ (Xf y s)))):=m2.put (aM _) _;have hn4:(V3.put V2.next (.cells (TJ (Xf y s)))).next=V2.next+1:=m3;have g4:(V3.put V2.next (.cells (TJ (Xf y s)))).get (W.next+1)=some (.cells (oH kI)):=(aci.get _ (by have:=k3.1;omega)).trans g3;obtain⟨p3,p4⟩:=pJ g4 (rpT (Xf y s));simp only[SX,k1,d,cy g3',aJ,k2.SG,aN,aeu hs,m1,vN,p1,p2,adp,p3,p4,ai];exact⟨ao,eV h (k2.mono aci) (f3.trans (.of_le aci)) (by omega) _⟩
  ·have e2:Xh s y e=rK e:=ap c;rw[e2];obtain⟨p1,p2⟩:=pJ g3 (rK e);have d:=bm c;simp only[SX,k1,d,oR,p1,p2,ai];exact⟨ao,eV h k2 f3 (by omega) _⟩
 obtain⟨⟨v,V⟩,k1,rfl,k2⟩:=hq;have hg:=uz k1;obtain⟨V2,e',q⟩:=wM (v:=lC (Xh s y e)) (Q:=λV=>dT W0 V ob sb qb bq (HB x s y e) sv o s/\Fr W V sb qb) k2 λhp=>⟨h.back k2.1 hp,.refl _ _ _⟩
 exact⟨V2,by rw[hg,e'],q⟩
def jr(W0 W:AW)(ob sb qb:Nat)(bq:Nat->Nat)(sv:ad)(o:jS)(s:Int)(F:Nat)(x':cK)(r:oE):Prop:=∃W' bq',bf (.func (.func F) #[] #[]) [bi ob] W=some (lC r,W')/\dT W0 W' ob sb qb bq' x' sv o s/\W.next<=W'.next/\(∀b,ob<b->b<W.next->W'.get b=W.get b)/\∀k,bq' k=bq k\/W.next<=bq' k
def jW(h:dT W0 W ob sb qb bq x sv o s)(ut:sb<ob/\qb<ob){F:Nat}{t:Option (ad×AW)}{r:oE}(Mi:∀{r},t=some r->bf (.func (.func F) #[] #[]) [bi ob] W=some (gc W r))
 (ht:Ok t λq=>q.1=lC r/\dT W0 q.2 ob sb qb bq x' sv o s/\Fr W q.2 sb qb):jr W0 W ob sb qb bq sv o s F x' r:=by
 obtain⟨⟨v,V⟩,k1,rfl,k2⟩:=ht;obtain⟨V2,e',q1,q2,q3⟩:=wM (v:=lC r) (Q:=λV=>dT W0 V ob sb qb bq x' sv o s/\Fr W V sb qb) k2 λhp=>⟨h.back k2.1 hp,.refl _ _ _⟩
 exact⟨V2,bq,by rw[Mi k1,e'],q1,q2,λb b1 b2=>q3 b b2 (by omega) (by omega),λ_=>.inl rfl⟩
def dT.l8(h:dT W0 W ob sb qb bq x sv o s):bG (.pointer (some ⟨ob,8,none⟩)) W=some (.int .u32 o.ow,W):=h.ld rfl
def dT.l13(h:dT W0 W ob sb qb bq x sv o s):bG (.pointer (some ⟨ob,13,none⟩)) W=some (.int .u32 o.to,W):=h.ld rfl
def dT.l2(h:dT W0 W ob sb qb bq x sv o s):bG (.pointer (some ⟨ob,2,none⟩)) W=some (.af x.v.g9,W):=h.ld rfl
abbrev CD(o:jS):Md:=⟨o.t1,o.t2,o.t3,o.t4⟩
def dT.l14(h:dT W0 W ob sb qb bq x sv o s):fd 4 (.pointer (some ⟨ob,14,none⟩)) W=some (Xu (CD o),W):=bV h.c rfl
abbrev dO(x:cK)(s:Nat):fA:=x.st.getD s BG
def dT.ls{s:Nat}(h:dT W0 W ob sb qb bq x sv o s)(hs:s<x.st.length):fd 5 (.pointer (some ⟨sb,s*5,none⟩)) W=some (me (dO x s),W):=by
 have e:x.st[s]? =some (dO x s):=by rw[bS hs];simp[dO,bS hs]
 exact MV h.gs e
def P6(h:dT W0 W ob sb qb bq x sv o s)(ut:sb<ob/\qb<ob)(h1n:x.now<9223372036854775808)(h2n:x.v.g9<9223372036854775808):jr W0 W ob sb qb bq sv o s 124 x (Z8 (iV x.now x.v.g9)):=by refine jW h ut uB ?_;unfold qh;obtain⟨V,al,aS,n2,g2⟩:=j7 W;have h1:=h.mono aS;obtain⟨p1,p2⟩:=pJ g2 (Z8 (iV x.now x.v.g9));simp only[SX,al,aJ,aN,h1.l2,uN h1 h1n h2n,VO,p1,p2,ai];exact⟨ao,eV h h1 (.of_le aS) (aM _) _⟩
def I5{s:Nat}(h:dT W0 W ob sb qb bq x sv o s)(ut:sb<ob/\qb<ob)(hb:Bd x s):jr W0 W ob sb qb bq sv o s 127 (Og x s (VW (dO x s) o.ow) (qd (dO x s) o.ow)) (rK (qd (dO x s) o.ow)):=by refine jW h ut rl ?_;unfold nc;obtain⟨V,al,aS,n2,g2⟩:=j7 W;have h1:=h.mono aS;obtain⟨V2,c1,c2,c3⟩:=DQ h1 hb (VW (dO x s) o.ow) (qd (dO x s) o.ow);obtain⟨p1,p2⟩:=pJ ((c3.2 _ (by omega) (by have:=h.hi;omega) (by have:=h.hi;omega)).trans g2) (rK (qd (dO x s) o.ow));simp only[SX,al,aJ,aN,h1.l5,h1.SG,wX hb.i,h1.ls hb.i,h1.l8,HS,c1,p1,p2,ai];exact⟨ao,eV h c2 ((Fr.of_le aS).trans c3) (aM _) _⟩
def Lf{s:Nat}(h:dT W0 W ob sb qb bq x sv o s)(ut:sb<ob/\qb<ob)(hb:Bd x s):jr W0 W ob sb qb bq sv o s 130 (Og x s (rfS (dO x s) (CD o)) (Jv (dO x s) (CD o))) (rK (Jv (dO x s) (CD o))):=by refine jW h ut sO ?_;unfold nS;obtain⟨V,al,aS,n2,g2⟩:=j7 W;have h1:=h.mono aS;obtain⟨V2,c1,c2,c3⟩:=DQ h1 hb (rfS (dO x s) (CD o)) (Jv (dO x s) (CD o));obtain⟨p1,p2⟩:=pJ ((c3.2 _ (by omega) (by have:=h.hi;omega) (by have:=h.hi;omega)).trans g2) (rK (Jv (dO x s) (CD o)));simp only[SX,al,aJ,aN,Nat.reduceAdd,h1.l5,h1.SG,wX hb.i,h1.ls hb.i,h1.l14,Mb,c1,p1,p2,ai];exact⟨ao,eV h c2 ((Fr.of_le aS).trans c3) (aM _) _⟩
def J9{s:Nat}(h:dT W0 W ob sb qb bq x sv o s)(ut:sb<ob/\qb<ob)(hb:Bd x s):jr W0 W ob sb qb bq sv o s 131 (Og x s (rvS (dO x s)) (rvE (dO x s))) (rK (rvE (dO x s))):=by refine jW h ut sF ?_;unfold nT;obtain⟨V,al,aS,n2,g2⟩:=j7 W;have h1:=h.mono aS;obtain⟨V2,c1,c2,c3⟩:=DQ h1 hb (rvS (dO x s)) (rvE (dO x s));obtain⟨p1,p2⟩:=pJ ((c3.2 _ (by omega) (by have:=h.hi;omega) (by have:=h.hi;omega)).trans g2) (rK (rvE (dO x s)));simp only[SX,al,aJ,aN,h1.l5,h1.SG,wX hb.i,h1.ls hb.i,L6,c1,p1,p2,ai];exact⟨ao,eV h c2 ((Fr.of_le aS).trans c3) (aM _) _⟩
def VG{s:Nat}(h:dT W0 W ob sb qb bq x sv o s)(ut:sb<ob/\qb<ob)(hb:Bd x s)(hs:s<4294967296):jr W0 W ob sb qb bq sv o s 128 (HB x s (JK (dO x s) o.ow) (Ia (dO x s) o.ow)) (Xh s (JK (dO x s) o.ow) (Ia (dO x s) o.ow)):=by refine jW h ut w9 ?_;unfold rn;obtain⟨V,al,aS,n2,g2⟩:=j7 W;have h1:=h.mono aS;obtain⟨V2,c1,c2,c3⟩:=OT h1 hb hs (JK (dO x s) o.ow) (Ia (dO x s) o.ow);obtain⟨p1,p2⟩:=pJ ((c3.2 _ (by omega) (by have:=h.hi;omega) (by have:=h.hi;omega)).trans g2) (Xh s (JK (dO x s) o.ow) (Ia (dO x s) o.ow));simp only[SX,al,aJ,aN,Nat.reduceAdd,h1.l5,h1.SG,wX hb.i,h1.ls hb.i,h1.l8,W8,c1,p1,p2,ai];exact⟨ao,eV h c2 ((Fr.of_le aS).trans c3) (aM _) _⟩
def FJ{s:Nat}(h:dT W0 W ob sb qb bq x sv o s)(ut:sb<ob/\qb<ob)(hb:Bd x s)(hs:s<4294967296):jr W0 W ob sb qb bq sv o s 129 (HB x s (trS (dO x s) (CD o) o.to) (trE (dO x s) (CD o))) (Xh s (trS (dO x s) (CD o) o.to) (trE (dO x s) (CD o))):=by refine jW h ut qD ?_;unfold mj;obtain⟨V,al,aS,n2,g2⟩:=j7 W;have h1:=h.mono aS;obtain⟨V2,c1,c2,c3⟩:=OT h1 hb hs (trS (dO x s) (CD o) o.to) (trE (dO x s) (CD o));obtain⟨p1,p2⟩:=pJ ((c3.2 _ (by omega) (by have:=h.hi;omega) (by have:=h.hi;omega)).trans g2) (Xh s (trS (dO x s) (CD o) o.to) (trE (dO x s) (CD o)));simp only[SX,al,aJ,aN,Nat.reduceAdd,h1.l5,h1.SG,wX hb.i,h1.ls hb.i,h1.l14,h1.l13,F4,c1,p1,p2,ai];exact⟨ao,eV h c2 ((Fr.of_le aS).trans c3) (aM _) _⟩
def NI{s:Nat}(h:dT W0 W ob sb qb bq x sv o s)(ut:sb<ob/\qb<ob)(hb:Bd x s):jr W0 W ob sb qb bq sv o s 132 x (rK (Jv (dO x s) (CD o))):=by refine jW h ut qo ?_;unfold mi;obtain⟨V,al,aS,n2,g2⟩:=j7 W;have h1:=h.mono aS;obtain⟨p1,p2⟩:=pJ g2 (rK (Jv (dO x s) (CD o)));simp only[SX,al,aJ,aN,Nat.reduceAdd,h1.l5,h1.SG,wX hb.i,h1.ls hb.i,h1.l14,pB,oR,p1,p2,ai];exact⟨ao,eV h h1 (.of_le aS) (aM _) _⟩
def hoR(e d:Int):oE:=if e=0 then Z8 d else rK e
def QF{s:Nat}(h:dT W0 W ob sb qb bq x sv o s)(ut:sb<ob/\qb<ob)(hb:Bd x s):jr W0 W ob sb qb bq sv o s 125 (HB x s (Sr (dO x s) o.ow (iV x.now x.v.dS)) (Pl (dO x s) (iV x.now x.v.dS))) (hoR (Pl (dO x s) (iV x.now x.v.dS)) (iV x.now x.v.dS)):=by
 refine jW h ut vM ?_;unfold pQ;obtain⟨V,al,aS,n2,g2⟩:=j7 W;have h1:=h.mono aS;obtain⟨V2,c1,c2,c3⟩:=A2 h1 hb.i (Sr (dO x s) o.ow (iV x.now x.v.dS)) (Pl (dO x s) (iV x.now x.v.dS));have g3:=(c3.2 _ (by omega) (by have:=h.hi;omega) (by have:=h.hi;omega)).trans g2;have hf:=(Fr.of_le aS).trans c3;by_cases c:Pl (dO x s) (iV x.now x.v.dS)=0
 ·have e1:hoR (Pl (dO x s) (iV x.now x.v.dS)) (iV x.now x.v.dS)=Z8 (iV x.now x.v.dS):=aq c;rw[e1];obtain⟨p1,p2⟩:=pJ g3 (Z8 (iV x.now x.v.dS));have d:=be c;simp only[SX,al,aJ,aN,Nat.reduceAdd,h1.l1,uN h1 hb.now hb.dS,h1.l5,h1.SG,wX hb.i,h1.ls hb.i,h1.l8,wk,c1,d,VO,p1,p2,ai];exact⟨ao,eV h c2 hf (aM _) _⟩
 ·have e1:hoR (Pl (dO x s) (iV x.now x.v.dS)) (iV x.now x.v.dS)=rK (Pl (dO x s) (iV x.now x.v.dS)):=ap c;rw[e1];obtain⟨p1,p2⟩:=pJ g3 (rK (Pl (dO x s) (iV x.now x.v.dS)));have d:=bm c;simp only[SX,al,aJ,aN,Nat.reduceAdd,h1.l1,uN h1 hb.now hb.dS,h1.l5,h1.SG,wX hb.i,h1.ls hb.i,h1.l8,wk,c1,d,oR,p1,p2,ai];exact⟨ao,eV h c2 hf (aM _) _⟩
end
def QX(W:AW)(u:ad)(l:List Int)(B:Nat):Prop:=(l=[]/\(u=.slice none 0 0\/∃a,u=.slice (some a) 0 0))\/(l≠[]/\B<W.next/\u=.slice (some ⟨B,0,none⟩) l.length (dY+1)/\W.get B=some (.cells (l.map (Value.int .u32))))
def S2(W:AW)(qb:Nat)(bq:Nat->Nat)(qs:List (List Int)):Prop:=∃qv,W.get qb=some (.cells qv)/\qv.length=qs.length/\(∀k (h:k<qs.length),∃u,qv[k]? =some u/\QX W u qs[k] (bq k))/\∀k k' (h:k<qs.length) (h':k'<qs.length),k≠k'->qs[k]≠[]->qs[k']≠[]->bq k≠bq k'
def QX.mono{W W':AW}{u:ad}{l:List Int}{B:Nat}(h:QX W u l B)(aS:Le W W'):QX W' u l B:=by
 rcases h with h|⟨h0,h1,h2,h3⟩
 ·exact .inl h
 ·exact .inr ⟨h0,eE h1 aS.next,h2,by rw[aS.get _ h1];exact h3⟩
def S2.mono{W W':AW}{qb:Nat}{bq:Nat->Nat}{qs:List (List Int)}(h:S2 W qb bq qs)(hb:qb<W.next)(aS:Le W W'):S2 W' qb bq qs:=by obtain⟨qv,a,b,c,d⟩:=h;exact⟨qv,by rw[aS.get _ hb];exact a,b,λk hk=>let⟨u,c1,c2⟩:=c k hk;⟨u,c1,c2.mono aS⟩,d⟩
def QX.qa{W:AW}{u:ad}{l:List Int}{B:Nat}(h:QX W u l B):QA W u l B:=by
 rcases h with h|⟨h0,h1,h2,h3⟩
 ·exact .inl h
 ·exact .inr ⟨0,_,h2,h3,by rw[jF,<-yH,cY]⟩
def QX.rd{W:AW}{u:ad}{l:List Int}{B:Nat}(h:QX W u l B):QC W u l:=by
 rcases h with⟨rfl,rfl|⟨a,rfl⟩⟩|⟨h0,h1,rfl,h3⟩
 ·exact⟨_,_,rfl,.inl rfl⟩
 ·exact⟨_,_,rfl,.inl rfl⟩
 ·refine⟨_,_,rfl,.inr ⟨B,0,_,rfl,h1,az h3,?_⟩⟩;rw[jF,jE,<-yH,cY,vB]
def QX.push{W:AW}{u:ad}{l:List Int}{B b:Nat}{a:Int}(h:QX W u l B)(hc:aC W b=some (AS a))(hl:l.length<=1000):
 ∃v' W',dB Tryz.prog W #[88,88] u (.slice (some ⟨b,0,none⟩) 1 1)=some (v',W')/\QX W' v' (l++[a]) W.next/\W'.next=W.next+1/\∀c,c<W.next->(l≠[]->c≠B)->W'.get c=W.get c:=by
 have key:∀{v':ad} {W':AW},iR W' 1 AS v' (l++[a]) (some W.next)->QX W' v' (l++[a]) W.next:=λ{v' W'} k=>by
  rcases k with⟨k,-⟩|⟨k0,B',k1,k2,k3,k4⟩
  ·simp at k
  ·injection k1 with k1;subst k1;exact .inr ⟨k0,k2,k3,by rw[k4,vB]⟩
 rcases h with⟨rfl,rfl|⟨a',rfl⟩⟩|⟨h0,h1,rfl,h3⟩
 ·obtain⟨v',W',k1,k2,k3,k4⟩:=iR.push (P:=Tryz.prog) (W:=W) (l:=([]:List Int)) (bo:=none) Pq zj Ea (.inl ⟨rfl,rfl,rfl⟩) hc (by simp) (by simp);exact⟨v',W',k1,key k2,k3,λc hc _=>k4 c hc (by simp)⟩
 ·refine⟨_,_,Az Pq hc (by rw[jF]) rfl (by omega) rfl (by omega) (by omega),.inr ⟨by simp,by rw[AW.ar];omega,rfl,?_⟩,AW.ar _ _,λc hc _=>AW.aD _ _ (by omega)⟩;rw[AW.aH];first|done|rfl
 ·obtain⟨v',W',k1,k2,k3,k4⟩:=iR.push (P:=Tryz.prog) (W:=W) (l:=l) (bo:=some B) Pq zj Ea (.inr ⟨h0,B,rfl,h1,rfl,by rw[h3,vB]⟩) hc (by omega) (by omega);exact⟨v',W',k1,key k2,k3,λc hc hn=>k4 c hc (λe=>by injection e with e;exact hn h0 e.symm)⟩
def Cm(v:fc)(k:Nat):Int:=((v.aA[k]?).map (·.q)).getD 0
abbrev js(x:cK)(k:Nat):List Int:=x.qs.getD k []
def BN(x:cK)(k:Nat)(ow:Int):Int:=if Cm x.v k<=((js x k).length:Int)then 5 else if((js x k).any λy=>decide (ow=y))=true then 8 else 0
def zM(x:cK)(k:Nat)(ow:Int):cK:=if BN x k ow=0 then{x with qs:=x.qs.set k (js x k++[ow])}else x
def rpP(n:Int):oE:={kI with pl:=n}
def Dn(x:cK)(k:Nat)(ow:Int):oE:=if BN x k ow=0 then rpP (((js x k).length:Int)+1)else rK (BN x k ow)
def RK(x:cK)(k:Nat)(ow:Int):Int:=oi (λy=>decide (ow=y)) (js x k)
def RR(l:List Int)(i:Nat):List Int:=l.take i++l.drop (i+1)
def vI(x:cK)(k:Nat)(ow:Int):cK:=if RK x k ow<0 then x else{x with qs:=x.qs.set k (RR (js x k) (RK x k ow).toNat)}
def I6(x:cK)(k:Nat)(ow:Int):oE:=if RK x k ow<0 then rK 4 else kI
def ac1(e:Int)(W:AW):dX Tryz.prog 50 [(5,.af e)] W=some (lC (rpP e),W):=aL (by kernel_rfl) rfl
def agM(a:Int)(W:AW):dA Tryz.prog 88 1 [(0,.int .u32 a)] W=some (.slice (some ⟨W.next,0,none⟩) 1 1,W.add (.cells (AS a))):=aL (by kernel_rfl) rfl
def YU{α:Type}{p:α->Bool}{l:List α}(h:¬oi p l<0):∃i:Nat,i<l.length/\oi p l=(i:Int):=by
 unfold oi at h|-;cases e:l.findIdx? p with
 |none=>rw[e]at h;exact absurd (by decide) h
 |some i=>exact⟨i,(List.findIdx?_eq_some_iff_findIdx_eq.1 e).1,rfl⟩
section
variable {W0 W V:AW} {ob sb qb:Nat} {bq:Nat->Nat} {x x':cK} {sv:ad} {o:jS} {s:Int}
def dT.l11(h:dT W0 W ob sb qb bq x sv o s):bG (.pointer (some ⟨ob,11,none⟩)) W=some (.af o.sc,W):=h.ld rfl
def dT.l3(h:dT W0 W ob sb qb bq x sv o s):bG (.pointer (some ⟨ob,3,none⟩)) W=some (sv,W):=h.ld rfl
def ixQ{n b k:Nat}(hk:k<n)(W':AW):nR 1 (oh b n) (.af (k:Int)) W'=some (.pointer (some ⟨b,k,none⟩),W'):=by have:=rT (z:=1) (b:=b) (o:=0) (c:=n) (W:=W') (k:=.i64) hk;rwa [aN,jE]at this
def YM(h:dT W0 W ob sb qb bq x sv o s){k:Nat}(hk:k<x.v.aA.length):∃b i,(∀W',nR 3 sv (.af (k:Int)) W'=some (.pointer (some ⟨b,i,none⟩),W'))/\∀W',Le W0 W'->bG (.pointer (some ⟨b,i+2,none⟩)) W'=some (.af (Cm x.v k),W'):=by
 obtain⟨b,i,rv,g1,-,-,-,-,g5⟩:=jD.get h.sec.1 hk;refine⟨b,i,λW'=>g1 W' _,λW' aS=>?_⟩;have e:Cm x.v k=x.v.aA[k].q:=by unfold Cm;rw[bS hk];rfl
 rw[e];exact g5 W' aS
def Zc(h:dT W0 W ob sb qb bq x sv o s)(hx:S2 W qb bq x.qs)(ut:sb<ob/\qb<ob/\∀k,bq k<ob){k:Nat}(hk:k<x.qs.length)(Qq:o.sc=(k:Int))(Y3:k<x.v.aA.length)(hl:(js x k).length<=1000):
 jr W0 W ob sb qb bq sv o s 133 (zM x k o.ow) (Dn x k o.ow):=by
 have e0:x.qs[k]=js x k:=by simp[js,bS hk]
 have yv:∀{x':cK} {r:oE},(Ok (eJ bf (bi ob) W) λq=>q.1=lC r/\dT W0 q.2 ob sb qb bq x' sv o s/\Fr W q.2 sb qb)->jr W0 W ob sb qb bq sv o s 133 x' r:=λht=>jW h ⟨ut.1,ut.2.1⟩ mT ht
 obtain⟨V,al,aS,n2,g2⟩:=j7 W;have h1:=h.mono aS;obtain⟨qv,q1,q2,q3,q4⟩:=hx.mono h.hi.2.2 aS;obtain⟨u,u1,u2⟩:=q3 _ hk;rw[e0]at u2;have lu:bG (.pointer (some ⟨qb,k,none⟩)) V=some (u,V):=aZ (az q1) u1;have ul:∀V:AW,aR Tryz.prog .len #[88] 3 #[false] [u] V=some (.af ((js x k).length:Int),V):=λV=>nu u2.rd xN _ _ _
 obtain⟨sb',si,s1,s2⟩:=YM h1 Y3;by_cases c:Cm x.v k<=((js x k).length:Int)
 ·have e1:BN x k o.ow=5:=aq c;have e2:zM x k o.ow=x:=ap (by rw[e1];omega);have e3:Dn x k o.ow=rK 5:=by unfold Dn;rw[e1,bK]
  rw[e2,e3];refine yv ?_;unfold eJ;obtain⟨p1,p2⟩:=pJ g2 (rK 5);have d:=be c;simp only[SX,al,aJ,aN,Nat.reduceAdd,h1.l6,h1.l11,Qq,ixQ hk,lu,ul,h1.l3,s1,s2 _ h1.le,d,oR,p1,p2,ai];exact⟨ao,eV h h1 (.of_le aS) (aM _) _⟩
 have d:=bm c;by_cases c2:((js x k).any λy=>decide (o.ow=y))=true
 ·have e1:BN x k o.ow=8:=by unfold BN;rw[ap c,aq c2]
  have e2:zM x k o.ow=x:=ap (by rw[e1];omega);have e3:Dn x k o.ow=rK 8:=by unfold Dn;rw[e1,bK]
  rw[e2,e3];refine yv ?_;unfold eJ;obtain⟨p1,p2⟩:=pJ g2 (rK 8);simp only[SX,al,aJ,aN,Nat.reduceAdd,h1.l6,h1.l11,Qq,ixQ hk,lu,ul,h1.l3,s1,s2 _ h1.le,d,h1.l8,BL u2.rd (by omega),c2,oR,p1,p2,ai];exact⟨ao,eV h h1 (.of_le aS) (aM _) _⟩
 have c2':((js x k).any λy=>decide (o.ow=y))=false:=zn.2 c2;have e1:BN x k o.ow=0:=by unfold BN;rw[ap c,ap c2]
 have e2:zM x k o.ow={x with qs:=x.qs.set k (js x k++[o.ow])}:=aq e1;have e3:Dn x k o.ow=rpP (((js x k).length:Int)+1):=aq e1;rw[e2,e3];have akE:Le V (V.add (.cells (AS o.ow))):=(Le.refl V).add _;obtain⟨v',V5,k1,k2,k3,k4⟩:=(u2.mono akE).push (b:=V.next) (a:=o.ow) (bU) hl;have k3':V5.next=V.next+2:=by rw[k3,AW.ar]
 have kk:∀c,c<V.next->(js x k≠[]->c≠bq k)->V5.get c=V.get c:=λc hc hn=>(k4 c (by rw[AW.ar];omega) hn).trans (AW.aD _ _ (by omega))
 have hbq:=h.nq k;have kq:V5.get qb=some (.cells qv):=(kk _ (by have:=h1.hi;omega) (λ_ e=>hbq.2.2.2.2 e.symm)).trans q1;have QL:k<qv.length:=by omega
 have k2':=k2;rcases k2 with⟨hn,-⟩|⟨-,k20,rfl,k21⟩
 ·simp at hn
 have sq:gv 1 (.pointer (some ⟨qb,k,none⟩)) (.slice (some ⟨(V.add (.cells (AS o.ow))).next,0,none⟩) (js x k++[o.ow]).length (dY+1)) V5=some (ak,V5.put qb (.cells (qv.set k (.slice (some ⟨(V.add (.cells (AS o.ow))).next,0,none⟩) (js x k++[o.ow]).length (dY+1))))):=by rw[mD,dJ kq,bL,aq QL]
 have nbE:(V.add (.cells (AS o.ow))).next=V.next+1:=AW.ar _ _;rw[nbE]at sq k1 k2' k20 k21;obtain⟨U,hU⟩:∃U,U=V5.put qb (.cells (qv.set k (.slice (some ⟨V.next+1,0,none⟩) (js x k++[o.ow]).length (dY+1)))):=⟨_,rfl⟩;rw[<-hU]at sq;have uq:U.get qb=some (.cells (qv.set k (.slice (some ⟨V.next+1,0,none⟩) (js x k++[o.ow]).length (dY+1)))):=by rw[hU];exact AW.aW _ _ _
 have uo:∀c,c≠qb->U.get c=V5.get c:=λc hc=>by rw[hU];exact AW.ay _ _ (aV hc)
 have un:U.next=V.next+2:=by rw[hU,AW.bh,k3']
 clear hU;have l6:bG (.pointer (some ⟨qb,k,none⟩)) U=some (.slice (some ⟨V.next+1,0,none⟩) (js x k++[o.ow]).length (dY+1),U):=aZ (az uq) (vd QL);have lx:(((js x k++[o.ow]).length:Nat):Int)=((js x k).length:Int)+1:=by simp
 have Nq:=h.hi;have g5:U.get W.next=some (.cells (oH kI)):=((uo _ (by omega)).trans (kk _ (by omega) (λ_=>by omega))).trans g2;obtain⟨p1,p2⟩:=pJ g5 (rpP (((js x k).length:Int)+1));have ht:eJ bf (bi ob) W=some (lC (rpP (((js x k).length:Int)+1)),U.put W.next (.cells (oH (rpP (((js x k).length:Int)+1))))):=by unfold eJ;simp only[SX,al,aJ,aN,Nat.reduceAdd,h1.l6,h1.l11,Qq,ixQ hk,lu,ul,h1.l3,s1,s2 _ h1.le,d,h1.l8,BL u2.rd (by omega),c2',agM,k1,sq,l6,fZ xN,lx,ac1,p1,p2]
 have hg:=mT ht;have hnp:¬Le W (U.put W.next (.cells (oH (rpP (((js x k).length:Int)+1))))):=λhp=>by
  have e:=hp.get qb Nq.2.2;rw[AW.ay _ _ (by omega),uq,<-aS.get qb Nq.2.2,q1]at e;injection e with e;injection e with e;have e4:=iH (λl:List ad=>l[k]?) e;simp only[vd QL,u1]at e4;injection e4 with e4;rcases u2 with⟨hn,rfl|⟨a,rfl⟩⟩|⟨hn,hb,rfl,hc⟩
  ·cases e4
  ·injection e4 with _ e5 _;simp at e5
  ·injection e4 with e5;injection e5 with e5;injection e5 with e5;omega
 unfold OG gc at hg;rw[ap (λz=>hnp z.2)]at hg;refine⟨_,λj=>if j=k then V.next+1 else bq j,hg,?_,by rw[AW.bh];omega,λb b1 b2=>?_,λj=>?_⟩
 ·have gW:∀b,b<W.next->b≠qb->(js x k≠[]->b≠bq k)->(U.put W.next (.cells (oH (rpP (((js x k).length:Int)+1))))).get b=W.get b:=λb hb h2 h3=>(AW.ay _ _ (by omega)).trans ((uo _ h2).trans ((kk b (by omega) h3).trans (aS.get b hb)))
  refine{le:=⟨by rw[AW.bh];have:=h.le.next;omega,λb hb=>(gW b (eE hb h.le.next) (by have:=h.lo;omega) (λ_=>by omega)).trans (h.le.get b hb)⟩,lo:=h.lo,hi:=by rw[AW.bh];omega,ne:=h.ne,nq:=λj=>?_,sec:=h.sec,go:=?_,gs:=?_,gq:=?_}
  ·by_cases hj:j=k
   ·simp only[hj,ba,AW.bh];have:=h.le.next;omega
   ·simp only[hj,cV,AW.bh];have:=h.nq j;omega
  ·rw[gW _ Nq.1 h.ne.2.1 (λ_=>aV hbq.2.2.1)];simp only[sI];exact h.go
  ·rw[gW _ Nq.2.1 h.ne.2.2 (λ_=>aV hbq.2.2.2.1)];exact h.gs
  ·refine⟨_,(AW.ay _ _ (by omega)).trans uq,by simp[q2],λj hj=>?_⟩;have hj2:j<x.qs.length:=by simpa using hj
   by_cases Sw:k=j
   ·subst Sw;refine⟨_,vd QL,?_⟩;simp only[CP,ba];exact k2'.qa.keep ((AW.ay _ _ (by omega)).trans (uo _ (by omega)))
   ·obtain⟨w,w1,w2⟩:=q3 j hj2;refine⟨w,by rw[xP Sw];exact w1,?_⟩;simp only[Ib Sw,ap (aV Sw)];by_cases hem:x.qs[j]=[]
    ·rw[hem]at w2|-;rcases w2 with w2|⟨w3,-⟩
     ·exact .inl w2
     ·exact absurd rfl w3
    ·refine w2.qa.keep ?_;have hj3:=h.nq j;have e5:=gW (bq j) (by have:=h.nq j;have:=aS.next;omega) hj3.2.2.2.2 (λee=>q4 j k hj2 hk (aV Sw) hem (by rw[e0];exact ee));exact e5.trans (aS.get _ (by omega)).symm
 ·have hbo:=ut.2.2 k;exact(AW.ay _ _ (by omega)).trans ((uo _ (by omega)).trans ((kk b (by omega) (λ_=>by omega)).trans (aS.get b b2)))
 ·show(if j=k then V.next+1 else bq j)=bq j\/W.next<=(if j=k then V.next+1 else bq j);by_cases hj:j=k
  ·rw[aq hj];exact .inr (by omega)
  ·rw[ap hj];exact .inl rfl
end
def arr(n:Nat)(f:Nat->Int):List ad:=(List.range n).map λt=>.af (f t)
def wK(n:Nat)(f:Nat->Int):(arr n f).length=n:=by simp[arr]
def Am{n i:Nat}(f:Nat->Int)(hi:i<n):(arr n f)[i]? =some (.af (f i)):=by unfold arr;rw[jH,List.getElem?_range hi];rfl
def ZD{n i:Nat}(f:Nat->Int)(x:Int):(arr n f).set i (.af x)=arr n λt=>if t=i then x else f t:=by
 apply vw;intro t;rw[n8];by_cases c:i=t
 ·subst c;rw[aq rfl,wK];split
  ·rename_i h;rw[Am _ h,aq rfl]
  ·rw[iE (by rw[wK];omega)]
 ·rw[ap c];by_cases h:t<n
  ·rw[Am _ h,Am _ h,ap (λe=>c e.symm)]
  ·rw[iE (by rw[wK];omega),iE (by rw[wK];omega)]
structure iW (V:AW) (B n:Nat) (f:Nat->Int) (U:AW):Prop where
 nx:U.next=V.next
 ot:∀b,b≠B->U.get b=V.get b
 bl:B<V.next
 ce:U.get B=some (.cells (arr n f))
section
variable {V U W:AW} {B n:Nat} {f g:Nat->Int}
def iW.congr(h:iW V B n f U)(hg:∀t,f t=g t):iW V B n g U:=by rw[<-show f=g from funext hg];exact h
def iW.ld(h:iW V B n f U){i:Nat}(hi:i<n):bG (.pointer (some ⟨B,i,none⟩)) U=some (.af (f i),U):=aZ (az h.ce) (Am f hi)
def iW.st(h:iW V B n f U){i:Nat}(hi:i<n)(x:Int):gv 1 (.pointer (some ⟨B,i,none⟩)) (.af x) U=some (ak,U.put B (.cells (arr n λt=>if t=i then x else f t)))/\iW V B n (λt=>if t=i then x else f t) (U.put B (.cells (arr n λt=>if t=i then x else f t))):=by
 refine⟨?_,⟨by rw[AW.bh];exact h.nx,λb hb=>by rw[AW.ay _ _ (λe=>hb e.symm)];exact h.ot b hb,h.bl,AW.aW _ _ _⟩⟩;have hr:aK U B=some (arr n f):=by unfold aK;rw[h.ce]
 rw[nY rfl rfl,hr,bL,aq (by rw[wK];exact hi),ZD]
def LF{n c i:Nat}(hi:i<n)(k:IntKind)(W:AW):nR 1 (.slice (some ⟨B,0,none⟩) n c) (.int k (i:Int)) W=some (.pointer (some ⟨B,i,none⟩),W):=by have:=rT (W:=W) (z:=1) (b:=B) (o:=0) (l:=n) (c:=c) (i:=i) (k:=k) hi;rwa [aN,jE]at this
def Ul{o t:Option (ad×AW)}(h:Ok t λr=>r.1=.tuple #[]/\iW V B n g r.2)(hW:iW V B n f W)(Mi:∀{r},t=some r->o=some (gc W r)):∃U,o=some (.tuple #[],U)/\iW V B n g U:=by
 obtain⟨⟨r,U⟩,h1,h2,h3⟩:=h;simp only at h2 h3;subst h2;rw[Mi h1];unfold gc;split
 ·rename_i c;refine⟨W,rfl,hW.nx,hW.ot,hW.bl,?_⟩;have:=c.2.get B (by rw[hW.nx];exact hW.bl);exact this.symm.trans h3.ce
 ·exact⟨U,rfl,h3⟩
end
def swp(f:Nat->Int)(i j:Nat)(t:Nat):Int:=if t=j then f i else if t=i then f j else f t
inductive kR (a b:Nat) (f:Nat->Int):(Nat->Int)->Prop
 |refl:kR a b f f
 |step {g:Nat->Int} {i j:Nat}:kR a b f g->a<=i->i<b->a<=j->j<b->kR a b f (swp g i j)
section
variable {a b a' b':Nat} {f g h:Nat->Int}
def kR.mono(p:kR a b f g)(h1:a'<=a)(h2:b<=b'):kR a' b' f g:=by
 induction p with
 |refl=>exact .refl
 |step _ q1 q2 q3 q4 ih=>exact .step ih (by omega) (by omega) (by omega) (by omega)
def kR.trans(p:kR a b f g)(q:kR a b g h):kR a b f h:=by
 induction q with
 |refl=>exact p
 |step _ q1 q2 q3 q4 ih=>exact .step ih q1 q2 q3 q4
def kR.out(p:kR a b f g){t:Nat}(ht:¬(a<=t/\t<b)):g t=f t:=by
 induction p with
 |refl=>rfl
 |step _ q1 q2 q3 q4 ih=>unfold swp;rw[ap (by rintro rfl;omega),ap (by rintro rfl;omega)];exact ih
def kR.sub(p:kR a b f g):∀t,a<=t->t<b->∃s,a<=s/\s<b/\g t=f s:=by
 induction p with
 |refl=>exactλt h1 h2=>⟨t,h1,h2,rfl⟩
 |step _ q1 q2 q3 q4 ih=>
  intro t h1 h2;unfold swp;split
  ·exact ih _ q1 q2
  ·split
   ·exact ih _ q3 q4
   ·exact ih t h1 h2
end
def sR(f:Nat->Int)(a b n:Nat)(t:Nat):Int:=if a<=t/\t<a+n then f (b+(t-a))else if b<=t/\t<b+n then f (a+(t-b))else f t
def Pk(f:Nat->Int)(a b t:Nat):sR f a b 0 t=f t:=by unfold sR;rw[bK,bK]
def Pn(f:Nat->Int){a b i:Nat}(h:a+(i+1)<=b)(t:Nat):swp (sR f a b i) (a+i) (b+i) t=sR f a b (i+1) t:=by
 unfold swp sR;repeat' split
 all_goals first|omega|rfl|(congr 1;omega)
def Is(f:Nat->Int){a b lo hi:Nat}(h1:lo<=a):∀n,a+n<=b->b+n<=hi->kR lo hi f (sR f a b n)
 |0,_,_=>by rw[show sR f a b 0=f from funext (Pk f a b)];exact .refl
 |n+1,h2,h3=>by rw[<-show swp (sR f a b n) (a+n) (b+n)=sR f a b (n+1)from funext (Pn f h2)];exact .step (Is f h1 n (by omega) (by omega)) (by omega) (by omega) (by omega) (by omega)
def jp(f:Nat->Int)(a m b:Nat)(t:Nat):Int:=if a<=t/\t<a+(b-m)then f (t+(m-a))else if a+(b-m)<=t/\t<b then f (t-(b-m))else f t
def PJ(g:Nat->Int){m i j:Nat}(hi:i<=m)(hj:0<j)(h:j<i)(t:Nat):jp (sR g (m-i) m j) (m-(i-j)) m (m+j) t=jp g (m-i) m (m+j) t:=by
 unfold jp sR;repeat' split
 all_goals first|omega|rfl|(congr 1;omega)
def GV(g:Nat->Int){m i j:Nat}(hi:i<=m)(h0:0<i)(h:i<j)(t:Nat):jp (sR g (m-i) (m+j-i) i) (m-i) m (m+(j-i)) t=jp g (m-i) m (m+j) t:=by
 unfold jp sR;repeat' split
 all_goals first|omega|rfl|(congr 1;omega)
def UQ(g:Nat->Int){m i:Nat}(hi:i<=m)(t:Nat):sR g (m-i) m i t=jp g (m-i) m (m+i) t:=by
 unfold jp sR;repeat' split
 all_goals first|omega|rfl|(congr 1;omega)
def uh{a b:Nat}(h:a+b<1000000000000)(t:ae)(c d:Bool)(W:AW):bs Tryz.prog .add t c d (.af (a:Int)) (.af (b:Int)) W=some (.af ((a+b:Nat):Int),W):=by rw[oU (by omega) (by omega)];congr 3
def wS{a b:Nat}(h:b<=a)(ha:a<1000000000000)(t:ae)(c d:Bool)(W:AW):bs Tryz.prog .sub t c d (.af (a:Int)) (.af (b:Int)) W=some (.af ((a-b:Nat):Int),W):=by rw[vl (by omega) (by omega)];congr 3;omega
section
variable {V U W:AW} {B n c:Nat} {f g:Nat->Int} {fv:ad}
def E0(hn:n<=10000)(hW:iW V B n f W){a b k:Nat}(h1:a+k<=b)(h2:b+k<=n):∃U,bf (.func (.func 226) #[] #[]) [.slice (some ⟨B,0,none⟩) n c,.af (a:Int),.af (b:Int),.af (k:Int),fv] W=some (.tuple #[],U)/\iW V B n (sR f a b k) U:=by
 refine Ul ?_ hW ni;unfold jk;refine bz k (by omega) (λi R U=>R 0=.slice (some ⟨B,0,none⟩) n c/\R 1=.af (a:Int)/\R 2=.af (b:Int)/\R 3=.af (k:Int)/\R 10=.af (i:Int)/\iW V B n (sR f a b i) U)
  (λr=>r.1=.exit 0/\iW V B n (sR f a b k) r.2.2) ⟨rfl,rfl,rfl,rfl,rfl,hW.congr λt=>(Pk f a b t).symm⟩ ?_ ?_ ?_
 ·rintro i R U hi ⟨r0,r1,r2,r3,sr,u⟩;unfold eB;have t1:((i:Int)<(k:Int)):=by omega
  have t2:=λt c d W'=>uh (a:=i) (b:=1) (by omega) t c d W'
  have ta:=λt c d W'=>uh (a:=a) (b:=i) (by omega) t c d W'
  have tb:=λt c d W'=>uh (a:=b) (b:=i) (by omega) t c d W'
  obtain⟨s1,u1⟩:=u.st (i:=a+i) (by omega) (sR f a b i (b+i));obtain⟨s2,u2⟩:=u1.st (i:=b+i) (by omega) (sR f a b i (a+i));have ha:∀q W',nR 1 (.slice (some ⟨B,0,none⟩) n c) (.int q ((a+i:Nat):Int)) W'=some (.pointer (some ⟨B,a+i,none⟩),W'):=λq W'=>LF (by omega) q W'
  have hb:∀q W',nR 1 (.slice (some ⟨B,0,none⟩) n c) (.int q ((b+i:Nat):Int)) W'=some (.pointer (some ⟨B,b+i,none⟩),W'):=λq W'=>LF (by omega) q W'
  simp only[SX,r0,r1,r2,r3,sr,t1,ta,tb,ha,hb,u.ld (i:=b+i) (by omega),u.ld (i:=a+i) (by omega),s1,s2,show((1:Int))=((1:Nat):Int)from rfl,t2,ai];refine .inl ⟨ao,r0,r1,r2,r3,rfl,u2.congr λt=>?_⟩;rw[<-Pn f (by omega) t];unfold swp;by_cases e1:t=b+i
  ·rw[aq e1]
  ·rw[ap e1]
 ·rintro R U ⟨r0,r1,r2,r3,sr,u⟩;unfold eB;have t1:¬((k:Int)<(k:Int)):=by omega
  simp only[SX,r3,sr,t1,ai];exact⟨by simp,ao,u⟩
 ·rintro⟨q,R,U⟩ ⟨rfl,u⟩;simp only[SX,ai];exact⟨ao,u⟩
def Qs(hn:n<=10000)(hW:iW V B n f W){a m b:Nat}(h1:a<m)(h2:m<b)(h3:b<=n):∃U,bf (.func (.func 221) #[] #[]) [.slice (some ⟨B,0,none⟩) n c,.af (a:Int),.af (m:Int),.af (b:Int),fv] W=some (.tuple #[],U)/\iW V B n (jp f a m b) U:=by
 refine Ul ?_ hW oT;unfold kL;have s1:=λt c d W'=>wS (a:=m) (b:=a) (by omega) (by omega) t c d W'
 have s2:=λt c d W'=>wS (a:=b) (b:=m) (by omega) (by omega) t c d W'
 simp only[SX,s1,s2];refine bz (b-a) (by omega) (λk R U=>R 0=.slice (some ⟨B,0,none⟩) n c/\R 2=.af (m:Int)/\R 4=fv/\∃i j:Nat,R 10=.af (i:Int)/\R 11=.af (j:Int)/\0<i/\0<j/\i<=m/\m+j<=n/\i+j+k<=b-a/\∃g,iW V B n g U/\∀t,jp g (m-i) m (m+j) t=jp f a m b t)
  (λr=>r.1=.exit 0/\r.2.1 0=.slice (some ⟨B,0,none⟩) n c/\r.2.1 2=.af (m:Int)/\r.2.1 4=fv/\∃i:Nat,r.2.1 10=.af (i:Int)/\0<i/\i<=m/\m+i<=n/\∃g,iW V B n g r.2.2/\∀t,jp g (m-i) m (m+i) t=jp f a m b t)
  ⟨rfl,rfl,rfl,m-a,b-m,rfl,rfl,by omega,by omega,by omega,by omega,by omega,f,hW,λt=>by rw[show m-(m-a)=a by omega,show m+(b-m)=b by omega]⟩ ?_ ?_ ?_
 ·rintro k R U hk ⟨r0,r2,r4,i,j,sr,qR,i0,j0,im,jn,hm,g,u,hg⟩;unfold iY;by_cases e:i=j
  ·subst e;have t1:(!decide ((i:Int)=(i:Int)))=false:=by simp
   simp only[SX,sr,qR,ai];exact .inr ⟨by simp,ao,r0,r2,r4,i,sr,i0,im,jn,g,u,hg⟩
  ·have t1:(!decide ((i:Int)=(j:Int)))=true:=by rw[cN];rfl
   by_cases lt:j<i
   ·have t2:decide ((j:Int)<(i:Int))=true:=dj;have s3:=λt c d W'=>wS (a:=m) (b:=i) (by omega) (by omega) t c d W'
    have s4:=λt c d W'=>wS (a:=i) (b:=j) (by omega) (by omega) t c d W'
    obtain⟨U1,e1,e2⟩:=E0 (c:=c) (fv:=fv) hn u (a:=m-i) (b:=m) (k:=j) (by omega) (by omega);simp only[SX,r0,r2,r4,sr,qR,t1,t2,s3,e1,s4,ai];refine .inl ⟨ao,r0,r2,r4,i-j,j,rfl,qR,by omega,j0,by omega,jn,by omega,_,e2,λt=>?_⟩;rw[PJ g im j0 lt t];exact hg t
   ·have t2:decide ((j:Int)<(i:Int))=false:=cN;have s3:=λt c d W'=>wS (a:=m) (b:=i) (by omega) (by omega) t c d W'
    have s4:=λt c d W'=>wS (a:=j) (b:=i) (by omega) (by omega) t c d W'
    have s5:=λt c d W'=>uh (a:=m) (b:=j) (by omega) t c d W'
    have s6:=λt c d W'=>wS (a:=m+j) (b:=i) (by omega) (by omega) t c d W'
    obtain⟨U1,e1,e2⟩:=E0 (c:=c) (fv:=fv) hn u (a:=m-i) (b:=m+j-i) (k:=i) (by omega) (by omega);simp only[SX,r0,r2,r4,sr,qR,t1,t2,s3,s5,s6,e1,s4,ai];refine .inl ⟨ao,r0,r2,r4,i,j-i,sr,rfl,i0,by omega,im,by omega,by omega,_,e2,λt=>?_⟩;rw[GV g im i0 (by omega) t];exact hg t
 ·rintro R U ⟨r0,r2,r4,i,j,sr,qR,i0,j0,im,jn,hm,g,u,hg⟩;omega
 ·rintro⟨q,R,U⟩ ⟨rfl,r0,r2,r4,i,sr,i0,im,jn,g,u,hg⟩;simp only at r0 r2 r4 sr u;have s3:=λt c d W'=>wS (a:=m) (b:=i) (by omega) (by omega) t c d W'
  obtain⟨U1,e1,e2⟩:=E0 (c:=c) (fv:=fv) hn u (a:=m-i) (b:=m) (k:=i) (by omega) (by omega);simp only[SX,r0,r2,r4,sr,s3,e1,ai];exact⟨ao,e2.congr λt=>(UQ g im t).trans (hg t)⟩
def I9(f:Nat->Int):∀(k:Nat) {m i j lo hi:Nat} (g:Nat->Int),i+j<=k->0<i->0<j->lo<=m-i->i<=m->m+j<=hi->kR lo hi f g->kR lo hi f (jp g (m-i) m (m+j))
 |0,m,i,j,lo,hi,g,h,i0,_,_,_,_,_=>by omega
 |k+1,m,i,j,lo,hi,g,h,i0,j0,h1,h2,h3,p=>by
  by_cases e:i=j
  ·subst e;rw[<-show sR g (m-i) m i=jp g (m-i) m (m+i)from funext (UQ g h2)];exact p.trans (Is g h1 i (by omega) (by omega))
  ·by_cases lt:j<i
   ·rw[<-show jp (sR g (m-i) m j) (m-(i-j)) m (m+j)=_ from funext (PJ g h2 j0 lt)];exact I9 f k _ (by omega) (by omega) j0 (by omega) (by omega) h3 (p.trans (Is g h1 j (by omega) (by omega)))
   ·rw[<-show jp (sR g (m-i) (m+j-i) i) (m-i) m (m+(j-i))=_ from funext (GV g h2 i0 (by omega))];exact I9 f k _ (by omega) i0 (by omega) h1 h2 (by omega) (p.trans (Is g h1 i (by omega) (by omega)))
def JC(f:Nat->Int){a m b:Nat}(h1:a<m)(h2:m<b):kR a b f (jp f a m b):=by have:=I9 f (b-a) (m:=m) (i:=m-a) (j:=b-m) (lo:=a) (hi:=b) f (by omega) (by omega) (by omega) (by omega) (by omega) (by omega) .refl;rwa [show m-(m-a)=a by omega,show m+(b-m)=b by omega]at this
end
def wf1:qk ak false=false:=aL rfl rfl
def wf2:qk ak true=false:=aL rfl rfl
def GF(k:Int->Int)(x y:Int):Prop:=k x<k y\/k x=k y/\x<y
def GF.trans{k:Int->Int}{x y z:Int}(h1:GF k x y)(h2:GF k y z):GF k x z:=by unfold GF at *;omega
def oF(k:Int->Int)(f:Nat->Int)(a b:Nat):Prop:=∀i j,a<=i->i<j->j<b->GF k (f i) (f j)
def Cz(V:AW)(B n:Nat)(fv:ad)(k:Int->Int)(D:Int->Prop):Prop:=∀U f,iW V B n f U->∀x y,D x->D y->∃c:Int,bf fv [.af x,.af y] U=some (.af c,U)/\(c<0<->k x<k y)
section
variable {V U W:AW} {B n c:Nat} {f g:Nat->Int} {fv:ad} {k:Int->Int} {D:Int->Prop}
def kR.m8{a b:Nat}(p:kR a b f g)(hb:b<=n)(hD:∀t,t<n->D (f t)):∀t,t<n->D (g t):=λt ht=>by
 by_cases h:a<=t/\t<b
 ·obtain⟨s,s1,s2,e⟩:=p.sub t h.1 h.2;rw[e];exact hD s (by omega)
 ·rw[p.out h];exact hD t ht
def D3{o t:Option (ad×AW)}{Q:(Nat->Int)->Prop}(h:Ok t λr=>r.1=.tuple #[]/\∃g,iW V B n g r.2/\Q g)(hW:iW V B n f W)(Mi:∀{r},t=some r->o=some (gc W r)):∃U g,o=some (.tuple #[],U)/\iW V B n g U/\Q g:=by obtain⟨r,h1,h2,g,h3,h4⟩:=h;obtain⟨U,e1,e2⟩:=Ul ⟨r,h1,h2,h3⟩ hW Mi;exact⟨U,g,e1,e2,h4⟩
def QQ(k:Int->Int)(f g:Nat->Int)(a i j:Nat):Prop:=kR a (i+1) f g/\g j=f i/\(∀s t,a<=s->s<t->t<=i->t≠j->GF k (g s) (g t))/\∀s,a<=s->s<=i->s≠j->g s<f i
def QQ.step{a i j:Nat}(h:QQ k f g a i j)(h1:a<j)(h2:j<=i)(hk:k (g j)<k (g (j-1))):QQ k f (swp g j (j-1)) a i (j-1):=by
 obtain⟨p,e,s,l⟩:=h;refine⟨.step p (by omega) (by omega) (by omega) (by omega),?_,λx y x1 x2 x3 x4=>?_,λx x1 x2 x3=>?_⟩
 ·unfold swp;rw[aq rfl];exact e
 ·unfold swp;rw[ap x4];by_cases c:y=j
  ·subst c;rw[aq rfl];by_cases c2:x=y-1
   ·rw[aq c2];exact .inl hk
   ·rw[ap c2,bK];exact s x (y-1) x1 (by omega) (by omega) (by omega)
  ·rw[ap c];by_cases c2:x=j-1
   ·rw[aq c2];exact s j y (by omega) (by omega) x3 c
   ·rw[ap c2];by_cases c3:x=j
    ·rw[aq c3];exact s (j-1) y (by omega) (by omega) x3 c
    ·rw[ap c3];exact s x y x1 x2 x3 c
 ·unfold swp;rw[ap x3];split
  ·exact l (j-1) (by omega) (by omega) (by omega)
  ·rename_i c;exact l x x1 x2 c
def QQ.done{a i j:Nat}(h:QQ k f g a i j)(h1:a<=j)(h2:j<=i)(hk:j=a\/¬k (g j)<k (g (j-1))):oF k g a (i+1):=by
 obtain⟨p,e,s,l⟩:=h;intro x y x1 x2 x3;by_cases c:y=j
 ·subst c;rcases hk with hk|hk
  ·omega
  ·have h3:GF k (g (y-1)) (g y):=by have:=l (y-1) (by omega) (by omega) (by omega);rw[<-e]at this;unfold GF;omega
   by_cases c2:x=y-1
   ·rw[c2];exact h3
   ·exact(s x (y-1) x1 (by omega) (by omega) (by omega)).trans h3
 ·exact s x y x1 x2 (by omega) c
def T1{R:ah.Fr}{K:LT->Option LT}{G:LT->Prop}(hn:n<=10000)(hc:Cz V B n fv k D)(hD:∀t,t<n->D (f t)){a i:Nat}(hi:a<i)(nM:i<n)(hW:iW V B n f U)(hs:oF k f a i)(hl:∀s,a<=s->s<i->f s<f i)
 (r0:R 0=.slice (some ⟨B,0,none⟩) n c)(r1:R 1=.af (a:Int))(r3:R 3=fv)(r9:R 9=.af (i:Int))
 (hk:∀(R':ah.Fr) (U':AW) g,R' 0=R 0->R' 1=R 1->R' 2=R 2->R' 3=R 3->R' 8=R 8->iW V B n g U'->kR a (i+1) f g->oF k g a (i+1)->Ok (K (X.exit 2,R',U')) G):
 Ok (dN (ge (cp bf) R U) K) G:=by
 refine bz (i-a) (by omega) (λq Q U=>Q 0=R 0/\Q 1=R 1/\Q 2=R 2/\Q 3=R 3/\Q 8=R 8/\∃j:Nat,j+q=i/\a<=j/\Q 9=.af (j:Int)/\∃g,iW V B n g U/\QQ k f g a i j)
  (λr=>r.1=.exit 2/\r.2.1 0=R 0/\r.2.1 1=R 1/\r.2.1 2=R 2/\r.2.1 3=R 3/\r.2.1 8=R 8/\∃g,iW V B n g r.2.2/\kR a (i+1) f g/\oF k g a (i+1))
  ⟨rfl,rfl,rfl,rfl,rfl,i,by omega,by omega,r9,f,hW,.refl,rfl,λs t h1 h2 h3 h4=>hs s t h1 h2 (by omega),λs h1 h2 h3=>hl s h1 (by omega)⟩ ?_ ?_ ?_
 ·rintro q Q U hq ⟨q0,q1,q2,q3,q8,j,j1,j2,q9,g,u,I⟩;have ja:a<j:=by omega
  have z1:((a:Int)<(j:Int)):=by omega
  have s1:=λt c d W'=>wS (a:=j) (b:=1) (by omega) (by omega) t c d W'
  have hDg:=I.1.m8 (n:=n) (by omega) hD;obtain⟨cv,c1,c2⟩:=hc U g u (g j) (g (j-1)) (hDg j (by omega)) (hDg (j-1) (by omega));have x1:∀k W',nR 1 (.slice (some ⟨B,0,none⟩) n c) (.int k (j:Int)) W'=some (.pointer (some ⟨B,j,none⟩),W'):=λk W'=>LF (by omega) k W'
  have x2:∀k W',nR 1 (.slice (some ⟨B,0,none⟩) n c) (.int k ((j-1:Nat):Int)) W'=some (.pointer (some ⟨B,j-1,none⟩),W'):=λk W'=>LF (by omega) k W'
  unfold cp;by_cases lt:cv<0
  ·have d1:=be lt;obtain⟨v1,u1⟩:=u.st (i:=j) (by omega) (g (j-1));obtain⟨v2,u2⟩:=u1.st (i:=j-1) (by omega) (g j);simp only[SX,q0,q1,q3,r0,r1,r3,q9,z1,show((1:Int))=((1:Nat):Int)from rfl,s1,x1,x2,u.ld (i:=j) (by omega),u.ld (i:=j-1) (by omega),c1,d1,v1,v2,ai];refine .inl ⟨ao,q0.trans r0,q1.trans r1,q2,q3.trans r3,q8,j-1,by omega,by omega,rfl,_,u2,?_⟩;have:=I.step ja (by omega) (c2.1 lt);unfold swp at this;exact this
  ·have d1:=bm lt;simp only[SX,q0,q1,q3,r0,r1,r3,q9,z1,show((1:Int))=((1:Nat):Int)from rfl,s1,x1,x2,u.ld (i:=j) (by omega),u.ld (i:=j-1) (by omega),c1,d1,ai];exact .inr ⟨by simp,ao,q0.trans r0,q1.trans r1,q2,q3.trans r3,q8,g,u,I.1,I.done j2 (by omega) (.inr λh=>lt (c2.2 h))⟩
 ·rintro Q U ⟨q0,q1,q2,q3,q8,j,j1,j2,q9,g,u,I⟩;have ja:j=a:=by omega
  have z1:¬((a:Int)<(j:Int)):=by omega
  unfold cp;simp only[SX,q1,r1,q9,z1,ai];exact⟨by simp,ao,q0,q1.trans r1,q2,q3,q8,g,u,I.1,I.done j2 (by omega) (.inl ja)⟩
 ·rintro⟨q,Q,U⟩ ⟨rfl,q0,q1,q2,q3,q8,g,u,p,s⟩;exact hk Q U g q0 q1 q2 q3 q8 u p s
def yr(hn:n<=10000)(hc:Cz V B n fv k D)(hD:∀t,t<n->D (f t))(hW:iW V B n f W){a b:Nat}(ha:a<=100000)(hb:b<=n)(hl:∀s t,a<=s->s<t->t<b->f s<f t):∃U g,bf (.func (.func 213) #[] #[]) [.slice (some ⟨B,0,none⟩) n c,.af (a:Int),.af (b:Int),fv] W=some (.tuple #[],U)/\iW V B n g U/\kR a b f g/\oF k g a b:=by
 by_cases Uk:b<=a
 ·refine D3 (Q:=λg=>kR a b f g/\oF k g a b) ?_ hW dE;unfold cS;have t2:=λt c d W'=>uh (a:=a) (b:=1) (by omega) t c d W'
  simp only[SX,show((1:Int))=((1:Nat):Int)from rfl,t2];refine bz 0 (by omega) (λq Q U=>U=W/\Q 2=.af (b:Int)/\Q 8=.af ((a+1:Nat):Int)) (λr=>r.1=.exit 0/\r.2.2=W) ⟨rfl,rfl,rfl⟩ (λq Q U h=>by omega) ?_ ?_
  ·rintro Q U ⟨rfl,q2,q8⟩;unfold bY;have z1:¬(((a+1:Nat):Int)<(b:Int)):=by omega
   simp only[SX,q2,q8,z1,ai];exact⟨by simp,ao,ao⟩
  ·rintro⟨q,Q,U⟩ ⟨rfl,rfl⟩;simp only[SX,ai];exact⟨ao,f,hW,.refl,λi j h1 h2 h3=>by omega⟩
 ·refine D3 (Q:=λg=>kR a b f g/\oF k g a b) ?_ hW dE;unfold cS;have t2:=λt c d W'=>uh (a:=a) (b:=1) (by omega) t c d W'
  simp only[SX,show((1:Int))=((1:Nat):Int)from rfl,t2];refine bz (b-(a+1)) (by omega) (λq Q U=>Q 0=.slice (some ⟨B,0,none⟩) n c/\Q 1=.af (a:Int)/\Q 2=.af (b:Int)/\Q 3=fv/\Q 8=.af ((a+1+q:Nat):Int)/\∃g,iW V B n g U/\kR a (a+1+q) f g/\oF k g a (a+1+q))
   (λr=>r.1=.exit 0/\∃g,iW V B n g r.2.2/\kR a b f g/\oF k g a b) ⟨rfl,rfl,rfl,rfl,rfl,f,hW,.refl,λi j h1 h2 h3=>by omega⟩ ?_ ?_ ?_
  ·rintro q Q U hq ⟨q0,q1,q2,q3,q8,g,u,p,s⟩;unfold bY;have z1:(((a+1+q:Nat):Int)<(b:Int)):=by omega
   have t3:=λt c d W'=>uh (a:=a+1+q) (b:=1) (by omega) t c d W'
   simp only[SX,q2,q8,z1];refine T1 (f:=g) (i:=a+1+q) (a:=a) (c:=c) hn hc (p.m8 (by omega) hD) (by omega) (by omega) u s (λx x1 x2=>?_) q0 q1 q3 rfl λR' U' g' r0 r1 r2 r3 r8 u' p' s'=>?_
   ·obtain⟨y,y1,y2,e⟩:=p.sub x x1 x2;rw[e,p.out (by omega)];exact hl y _ y1 y2 (by omega)
   ·have r8':R' 8=.af ((a+1+q:Nat):Int):=r8.trans q8;simp only[SX,r8',show((1:Int))=((1:Nat):Int)from rfl,t3,ai];exact .inl ⟨ao,r0.trans q0,r1.trans q1,r2.trans q2,r3.trans q3,rfl,g',u',(p.mono (aM _) (by omega)).trans p',s'⟩
  ·rintro Q U ⟨q0,q1,q2,q3,q8,g,u,p,s⟩;unfold bY;rw[show a+1+(b-(a+1))=b by omega]at q8 p s;have z1:¬((b:Int)<(b:Int)):=by omega
   simp only[SX,q2,q8,z1,ai];exact⟨by simp,ao,g,u,p,s⟩
  ·rintro⟨q,Q,U⟩ ⟨rfl,g,u,p,s⟩;simp only[SX,ai];exact⟨ao,g,u,p,s⟩
end
end Go.Proofs.YtmaoneengdafhaaGreatDoor
