/- A part: contracts and laws. -/
import Derived.Test.YtmaoneengdafhaaGreatDoorPartB
import Derived.Test.YtmaoneengdafhaaGreatDoorChecked
set_option linter.unusedVariables false
set_option linter.unusedSimpArgs false
set_option linter.unusedSectionVars false
set_option linter.defProp false
noncomputable section
open Go renaming TypeId->af,Value->ad,undef->aj
set_option maxRecDepth 100000
namespace Go.Proofs.YtmaoneengdafhaaGreatDoor
open Go Go.Eng
noncomputable instance opens:ai:=alB (λid ops=>T.get (path (Pr id ops)) tab) [0,1,3,4]
noncomputable def Fz(i:Nat):Code:=Ph Tryz.prog i
def uX(c:UInt8):Bool:=decide (97<=c.toNat)&&decide (c.toNat<=122)||decide (48<=c.toNat)&&decide (c.toNat<=57)||c.toNat==45
def ux(l:List UInt8):Bool:=match l with
 |[]=>false
 |c::_=>decide (97<=c.toNat)&&decide (c.toNat<=122)&&decide (l.length<=16)&&l.all uX
def Gm:List ad->Option ad
 |[]=>some (.bool true)
 |_=>none
def UJ:List Nat:=[2,7,51,164,217,254]
noncomputable def specs:Eng.Callee:=P3 [(7,Ek 7 lX Gm),(51,chk 51),(164,SR 164)]
noncomputable def ba:Eng.Callee:=om Tryz.prog UJ specs
abbrev GW(W:AW):Prop:=KV lX W
def GW.cells{W:AW}(h:GW W):aH W 0=some yp:=Jl (h (0,yp) (by simp[lX])).1
def GW.pos{W:AW}(h:GW W):0<W.next:=(h (0,yp) (by simp[lX])).2
def Jc{W:AW}(h:GW W):ba (.func (.func 7) #[] #[]) [] W=some (.bool true,W):=by have h0:Ek 7 lX Gm (.func (.func 7) #[] #[]) [] W=some (.bool true,W):=aea h rfl rfl rfl;have h1:specs (.func (.func 7) #[] #[]) [] W=some (.bool true,W):=h0;have h2:=NV (P:=Tryz.prog) (bad:=UJ) (spec:=specs) (i:=7) (by decide) h1;rw[Ii (.refl _)]at h2;exact h2
def Xz{W:AW}{r:ad×AW}{args:List ad}(h:xE W args r):ba (.func (.func 164) #[] #[]) args W=some r:=by
 have h1:specs (.func (.func 164) #[] #[]) args W=some r:=by show SR 164 (.func (.func 164) #[] #[]) args W=_;exact afH h
 have h2:=NV (P:=Tryz.prog) (bad:=UJ) (spec:=specs) (i:=164) (by decide) h1;obtain⟨b,zs,i,hi,rfl,hg,rfl⟩:=h;rw[kB rfl]at h2;exact h2
def zH(k ow un se sc n to t1 t2 t3 t4 nw:Int):Int:=if k<1\/12<k then 2 else Qv ow un se sc n to t1 t2 t3 t4 nw (Ut.getD k.toNat 0)
def DJ(k ow un se sc n to t1 t2 t3 t4 nw:Int){W:AW}(h:GW W):ba (.func (.func 51) #[] #[]) [.agg (jg k ow un se sc n to t1 t2 t3 t4 nw)] W=some (.ae (zH k ow un se sc n to t1 t2 t3 t4 nw),W):=by
 have h1:specs (.func (.func 51) #[] #[]) [.agg (jg k ow un se sc n to t1 t2 t3 t4 nw)] W=some (.ae (zH k ow un se sc n to t1 t2 t3 t4 nw),W):=by
  show chk 51 (.func (.func 51) #[] #[]) [.agg (jg k ow un se sc n to t1 t2 t3 t4 nw)] W=_;unfold chk jg;simp only[uC,Array.isEmpty_empty,fN,NY];unfold zH;by_cases hk:k<1\/12<k
  ·have hd:(decide (k<1)||decide (12<k))=true:=by simpa using hk
   rw[an hk];simp only[hd]
  ·have hd:(decide (k<1)||decide (12<k))=false:=by simp;omega
   rw[ap hk];simp only[hd,(h (0,yp) (by simp[lX])).1];have Xq:k.toNat<13:=by omega
   have:yp[k.toNat]? =some (.ae (Ut.getD k.toNat 0)):=by unfold yp;rw[jJ];have h13:Ut.length=13:=rfl;rw[bN (by omega),jt,bN (by omega)];rfl
   simp only[this]
 have h2:=NV (P:=Tryz.prog) (bad:=UJ) (spec:=specs) (i:=51) (by decide) h1;rw[akI (.refl _)]at h2;exact h2
def bm(W:AW)(a b:Int)(h1: -9223372036854775808<=a+b:=by omega)(h2:a+b<9223372036854775808:=by omega):bO Tryz.prog .add 3 false true (.ae a) (.ae b) W=some (.ae (a+b),W):=kU h1 h2
def fd(W:AW)(a b:Int)(h1: -9223372036854775808<=a+b:=by omega)(h2:a+b<9223372036854775808:=by omega):bO Tryz.prog .add 3 false false (.ae a) (.ae b) W=some (.ae (a+b),W):=kU h1 h2
def Ao(W:AW)(a b:Int)(h1: -9223372036854775808<=a-b:=by omega)(h2:a-b<9223372036854775808:=by omega):bO Tryz.prog .sub 3 false true (.ae a) (.ae b) W=some (.ae (a-b),W):=tJ h1 h2
def Ji(W:AW)(a b:Int)(h1: -9223372036854775808<=a-b:=by omega)(h2:a-b<9223372036854775808:=by omega):bO Tryz.prog .sub 3 false false (.ae a) (.ae b) W=some (.ae (a-b),W):=tJ h1 h2
section
abbrev OG(i:Nat)(cs:Array ad)(a:List ad)(W:AW)(r:ad×AW):Prop:=ba (.func (.func i) #[] cs) a W=some (gc W r)
def pr3{α β γ:Type}{a a':α}{b b':β}{c c':γ}(h:(a,b,c)=(a',b',c')):a=a'/\b=b'/\c=c':=by injection h with h1 h2;injection h2 with h2 h3;exact⟨h1,h2,h3⟩
def oM(nt:Nat){i:Nat}{cs:Array ad}{a:List ad}{t:Option (ad×AW)}{W:AW}{r:ad×AW}(h:t=some r)
 (hk:(PG i UJ,akh Tryz.prog i nt (a.length+cs.toList.length),abX Tryz.prog ba nt (Ph Tryz.prog i) (ad7 Tryz.prog i) (a++cs.toList) W)=(false,true,t)):OG i cs a W r:=by
 obtain⟨h1,h2,h3⟩:=pr3 hk;exact aoQ (fs:=#[]) (n:=a.length+cs.toList.length) h1 h2 (aJ _) (h3.trans h)
abbrev cU:=Eng.Callee->ai.Fr->AW->Option LT
abbrev asG:=Eng.Callee->ai.Fr->ad->ad->AW->Option LT
abbrev au6:=Eng.Callee->ai.Fr->ad->ad->ad->AW->Option LT
abbrev asU:=Eng.Callee->AW->Option (ad×AW)
abbrev fI:=Eng.Callee->ad->AW->Option (ad×AW)
abbrev dE:=Eng.Callee->ad->ad->AW->Option (ad×AW)
abbrev pD:=Eng.Callee->ad->ad->ad->AW->Option (ad×AW)
abbrev EZ:=Eng.Callee->ad->ad->ad->ad->AW->Option (ad×AW)
abbrev Mn:=Eng.Callee->ad->ad->ad->ad->ad->AW->Option (ad×AW)
abbrev alO:=Eng.Callee->ad->ad->ad->ad->ad->ad->AW->Option (ad×AW)
abbrev atk:=Eng.Callee->ad->ad->ad->ad->ad->ad->ad->AW->Option (ad×AW)
abbrev aoC:=Eng.Callee->ad->ad->ad->ad->ad->ad->ad->ad->AW->Option (ad×AW)
variable {α ρ:Type}
def gB(m:AW->Option (α×AW))(k:α->AW->Option ρ)(W:AW):Option ρ:=fb (m W) λr=>k r.1 r.2
def gT(g:ad)(m:AW->Option (ad×AW))(k:ad->AW->Option ρ)(W:AW):Option ρ:=fb (qJ (tn g true) (m W) (some (aj,W))) λr=>k r.1 r.2
def gF(g:ad)(m:AW->Option (ad×AW))(k:ad->AW->Option ρ)(W:AW):Option ρ:=fb (qJ (tn g false) (m W) (some (aj,W))) λr=>k r.1 r.2
def gL(f:ai.Fr->AW->Option LT)(R:ai.Fr)(k:X->ai.Fr->AW->Option ρ)(W:AW):Option ρ:=fb (fZ f R W) λr=>k r.1 r.2.1 r.2.2
def gI(v:ad)(t e:AW->Option ρ)(W:AW):Option ρ:=PE v (t W) (e W)
def gX(i:Nat)(x:X)(t e:AW->Option ρ)(W:AW):Option ρ:=BY i x (t W) (e W)
def gM(x:X)(t e:AW->Option ρ)(W:AW):Option ρ:=yn x (t W) (e W)
def gR(x:X)(t:AW->Option ρ)(W:AW):Option ρ:=I9 x (t W)
def gN(x:X)(t:AW->Option ρ)(W:AW):Option ρ:=akZ x (t W)
def gA(g:AW->Bool)(t:AW->Option ρ)(W:AW):Option ρ:=qJ (g W) (t W) none
def yZ(W:AW):Option ρ:=none
def yN(F:ai.Fr)(W:AW):Option LT:=some (X.normal,F,W)
def yR(F:ai.Fr)(W:AW):Option LT:=some (X.ret,F,W)
def yE(i:Nat)(F:ai.Fr)(W:AW):Option LT:=some (X.exit i,F,W)
def yV(x:X)(F:ai.Fr)(W:AW):Option LT:=some (x,F,W)
def yO(l:List (ad×Option af))(W:AW):Option (ad×AW):=iX Tryz.prog l W
def az(i:Nat)(x:ad)(k:ad->AW->Option ρ)(W:AW):Option ρ:=fb (jp i x W) λr=>k r.1 r.2
def aB(x:ad)(k:ad->AW->Option ρ)(W:AW):Option ρ:=fb (bz x W) λr=>k r.1 r.2
def aN(n:Nat)(x:ad)(k:ad->AW->Option ρ)(W:AW):Option ρ:=fb (dJ n x W) λr=>k r.1 r.2
def bH(n:Nat)(x i:ad)(k:ad->AW->Option ρ)(W:AW):Option ρ:=fb (pc n x i W) λr=>k r.1 r.2
def bV(c:Eng.Callee)(i:Nat)(l:List ad)(k:ad->AW->Option ρ)(W:AW):Option ρ:=fb (c (vX i) l W) λr=>k r.1 r.2
def zc(c:Eng.Callee)(i:Nat)(l:List ad)(W:AW):Option (ad×AW):=c (vX i) l W
def I(n:Int):ad:=.ae n
def q(R:ai.Fr)(n:Nat)(l:List ad):ai.Fr:=List.rec (motive:=λ_=>Nat->ai.Fr->ai.Fr) (λ_ R=>R) (λv _ ih n R=>ih (n+1) (iU R (some n) v)) l n R
@[congr] theorem aw7 {α:Type} {m m':Option α} (k:α->Option ρ) (h:m=m'):fb m k=fb m' k:=by rw[h]
@[congr] theorem ax0 {v v':ad} (a b:Option ρ) (h:v=v'):PE v a b=PE v' a b:=by rw[h]
@[congr] theorem axa {v v':Bool} (a b:ρ) (h:v=v'):qJ v a b=qJ v' a b:=by rw[h]
@[congr] theorem aBg {v v':X} (i:Nat) (a b:Option ρ) (h:v=v'):BY i v a b=BY i v' a b:=by rw[h]
@[congr] theorem azY {v v':X} (a b:Option ρ) (h:v=v'):yn v a b=yn v' a b:=by rw[h]
@[congr] theorem azl {v v':X} (a:Option ρ) (h:v=v'):I9 v a=I9 v' a:=by rw[h]
@[congr] theorem aA3 {v v':X} (a:Option ρ) (h:v=v'):akZ v a=akZ v' a:=by rw[h]
def WA(t:af)(W:AW):Option (ad×AW):=dm Tryz.prog t W
def Ec(t:af)(v:List (Nat×ad))(W:AW):Option (ad×AW):=dU Tryz.prog t v W
def Dg(t:af)(n:Nat)(v:List (Nat×ad))(W:AW):Option (ad×AW):=cJ Tryz.prog t n v W
def Ny(p:UnOp)(x:ad)(W:AW):Option (ad×AW):=oUn Tryz.prog p x W
def acf(s d:af)(x:ad)(W:AW):Option (ad×AW):=tY Tryz.prog s d x W
def kL(t:af)(x i:ad)(W:AW):Option (ad×AW):=rS Tryz.prog t x i W
def oZ(t:af)(x:ad)(a b d:Option ad)(W:AW):Option (ad×AW):=ft Tryz.prog t x a b d W
def sD(t:af)(x y:ad)(W:AW):Option (ad×AW):=gh Tryz.prog t x y W
def zb(t:af)(m k:ad)(o:Bool)(W:AW):Option (ad×AW):=uN Tryz.prog t m k o W
def uB(t:af)(m k v:ad)(W:AW):Option (ad×AW):=jI Tryz.prog t m k v W
def Il(t:af)(r:Option ad)(W:AW):Option (ad×AW):=vi Tryz.prog t r W
def Fh(t:af)(x:ad)(W:AW):Option (ad×AW):=RG Tryz.prog t x W
def SI(ts:Array af)(x y:ad)(W:AW):Option (ad×AW):=dn Tryz.prog W ts x y
def zN(W:AW):Option (ad×AW):=none
def Nc(x y:ad)(W:AW):Option (ad×AW):=bO Tryz.prog .lss 3 false false x y W
def zb1(x y:ad)(W:AW):Option (ad×AW):=bO Tryz.prog .lss 3 false true x y W
def zb2(x y:ad)(W:AW):Option (ad×AW):=bO Tryz.prog .gtr 3 false true x y W
def zb3(x y:ad)(W:AW):Option (ad×AW):=bO Tryz.prog .add 3 false true x y W
def zb4(x y:ad)(W:AW):Option (ad×AW):=bO Tryz.prog .gtr 3 false false x y W
def zb5(x y:ad)(W:AW):Option (ad×AW):=bO Tryz.prog .leq 3 false true x y W
def zb6(x y:ad)(W:AW):Option (ad×AW):=bO Tryz.prog .neq 35 false true x y W
def zb7(x y:ad)(W:AW):Option (ad×AW):=bO Tryz.prog .eql 3 false true x y W
def zb8(x y:ad)(W:AW):Option (ad×AW):=bO Tryz.prog .eql 35 false true x y W
def Ln(x y:ad)(W:AW):Option (ad×AW):=bO Tryz.prog .neq 3 false false x y W
def akB(x y:ad)(W:AW):Option (ad×AW):=bO Tryz.prog .neq 48 false false x y W
def ak6(x y:ad)(W:AW):Option (ad×AW):=bO Tryz.prog .sub 3 false true x y W
def akj(x y:ad)(W:AW):Option (ad×AW):=bO Tryz.prog .neq 50 false false x y W
def O9(x y:ad)(W:AW):Option (ad×AW):=bO Tryz.prog .geq 3 false true x y W
def are(x y:ad)(W:AW):Option (ad×AW):=bO Tryz.prog .neq 9 false false x y W
def aeo(x y:ad)(W:AW):Option (ad×AW):=bO Tryz.prog .neq 2 false false x y W
def amJ(x y:ad)(W:AW):Option (ad×AW):=bO Tryz.prog .add 3 false false x y W
def ap6(x y:ad)(W:AW):Option (ad×AW):=bO Tryz.prog .geq 2 false false x y W
def Zr(x y:ad)(W:AW):Option (ad×AW):=bO Tryz.prog .leq 2 false false x y W
def akP(x y:ad)(W:AW):Option (ad×AW):=bO Tryz.prog .eql 9 false false x y W
def Zb(x y:ad)(W:AW):Option (ad×AW):=bO Tryz.prog .lss 2 false false x y W
def ahq(x y:ad)(W:AW):Option (ad×AW):=bO Tryz.prog .gtr 2 false false x y W
def ahc(x y:ad)(W:AW):Option (ad×AW):=bO Tryz.prog .and 3 false true x y W
def Vf(x y:ad)(W:AW):Option (ad×AW):=bO Tryz.prog .neq 3 false true x y W
def afO(x y:ad)(W:AW):Option (ad×AW):=bO Tryz.prog .eql 3 false false x y W
def Jn(x y:ad)(W:AW):Option (ad×AW):=bO Tryz.prog .geq 3 false false x y W
def apn(x y:ad)(W:AW):Option (ad×AW):=bO Tryz.prog .neq 5 false true x y W
def abk(x y:ad)(W:AW):Option (ad×AW):=bO Tryz.prog .eql 9 false true x y W
def aki(x y:ad)(W:AW):Option (ad×AW):=bO Tryz.prog .lss 5 false true x y W
def aoN(x y:ad)(W:AW):Option (ad×AW):=bO Tryz.prog .gtr 5 false true x y W
def agn(x y:ad)(W:AW):Option (ad×AW):=bO Tryz.prog .geq 5 false true x y W
def ajV(x y:ad)(W:AW):Option (ad×AW):=bO Tryz.prog .leq 5 false true x y W
def aoX(x y:ad)(W:AW):Option (ad×AW):=bO Tryz.prog .sub 3 false false x y W
def au7(x y:ad)(W:AW):Option (ad×AW):=bO Tryz.prog .eql 35 false false x y W
def aoL(x y:ad)(W:AW):Option (ad×AW):=bO Tryz.prog .rem 3 false false x y W
def apq(x y:ad)(W:AW):Option (ad×AW):=bO Tryz.prog .rem 3 false true x y W
def arq(x y:ad)(W:AW):Option (ad×AW):=bO Tryz.prog .add 3 true false x y W
def aq8(x y:ad)(W:AW):Option (ad×AW):=bO Tryz.prog .neq 87 false false x y W
def Ub(x y:ad)(W:AW):Option (ad×AW):=bO Tryz.prog .neq 43 false false x y W
def aod(x y:ad)(W:AW):Option (ad×AW):=bO Tryz.prog .eql 31 false true x y W
def Ms(x y:ad)(W:AW):Option (ad×AW):=bO Tryz.prog .lss 2 false true x y W
def ags(x y:ad)(W:AW):Option (ad×AW):=bO Tryz.prog .neq 43 false true x y W
def amI(x y:ad)(W:AW):Option (ad×AW):=bO Tryz.prog .eql 43 false false x y W
def ao1(x y:ad)(W:AW):Option (ad×AW):=bO Tryz.prog .sub 2 true false x y W
def aqC(x y:ad)(W:AW):Option (ad×AW):=bO Tryz.prog .add 2 false false x y W
def TQ(x y:ad)(W:AW):Option (ad×AW):=bO Tryz.prog .add 44 false true x y W
def Up(x y:ad)(W:AW):Option (ad×AW):=bO Tryz.prog .eql 44 false true x y W
def ajJ(x y:ad)(W:AW):Option (ad×AW):=bO Tryz.prog .neq 44 false false x y W
def apw(x y:ad)(W:AW):Option (ad×AW):=bO Tryz.prog .eql 88 false true x y W
def aak(x y:ad)(W:AW):Option (ad×AW):=bO Tryz.prog .leq 3 false false x y W
def apY(x y:ad)(W:AW):Option (ad×AW):=bO Tryz.prog .neq 46 false false x y W
def aqD(x y:ad)(W:AW):Option (ad×AW):=bO Tryz.prog .add 44 false false x y W
def apK(x y:ad)(W:AW):Option (ad×AW):=bO Tryz.prog .shr 44 false true x y W
def anY(x y:ad)(W:AW):Option (ad×AW):=bO Tryz.prog .eql 43 false true x y W
def amF(x y:ad)(W:AW):Option (ad×AW):=bO Tryz.prog .eql 2 false true x y W
def an5(x y:ad)(W:AW):Option (ad×AW):=bO Tryz.prog .geq 2 false true x y W
def akl(x y:ad)(W:AW):Option (ad×AW):=bO Tryz.prog .neq 2 false true x y W
def aqK(x y:ad)(W:AW):Option (ad×AW):=bO Tryz.prog .neq 35 false false x y W
def ajP(x y:ad)(W:AW):Option (ad×AW):=bO Tryz.prog .mul 3 true false x y W
def alu(x y:ad)(W:AW):Option (ad×AW):=bO Tryz.prog .mul 3 false true x y W
def Yq(x y:ad)(W:AW):Option (ad×AW):=bO Tryz.prog .shr 228 false true x y W
def Lp(x:ad)(W:AW):Option (ad×AW):=aV Tryz.prog .len #[22] 3 #[false] [x] W
def ZV(x:ad)(W:AW):Option (ad×AW):=aV Tryz.prog .len #[9] 3 #[false] [x] W
def zt2(x:ad)(W:AW):Option (ad×AW):=aV Tryz.prog .len #[28] 3 #[false] [x] W
def zt3(x:ad)(W:AW):Option (ad×AW):=aV Tryz.prog .len #[25] 3 #[false] [x] W
def zt4(x y:ad)(W:AW):Option (ad×AW):=aV Tryz.prog .delete #[112,3] 0 #[false,false] [x,y] W
def zt5(x:ad)(W:AW):Option (ad×AW):=aV Tryz.prog .len #[112] 3 #[false] [x] W
def zt6(x:ad)(W:AW):Option (ad×AW):=aV Tryz.prog .len #[78] 3 #[false] [x] W
def zt7(x:ad)(W:AW):Option (ad×AW):=aV Tryz.prog .len #[123] 3 #[false] [x] W
def zt8(x y:ad)(W:AW):Option (ad×AW):=aV Tryz.prog .max #[3,3] 3 #[false,false] [x,y] W
def zt9(x y:ad)(W:AW):Option (ad×AW):=aV Tryz.prog .min #[3,3] 3 #[false,false] [x,y] W
def auj(x:ad)(W:AW):Option (ad×AW):=aV Tryz.prog .len #[40] 3 #[false] [x] W
def ajY(x:ad)(W:AW):Option (ad×AW):=aV Tryz.prog .len #[54] 3 #[false] [x] W
def apr(x y:ad)(W:AW):Option (ad×AW):=aV Tryz.prog .min #[3,3] 3 #[false,true] [x,y] W
def EH(x:ad)(W:AW):Option (ad×AW):=aV Tryz.prog .len #[31] 3 #[false] [x] W
def anQ(x:ad)(W:AW):Option (ad×AW):=aV Tryz.prog .len #[88] 3 #[false] [x] W
def H8(x:ad)(W:AW):Option (ad×AW):=aV Tryz.prog .len #[32] 3 #[false] [x] W
def ajv(x:ad)(W:AW):Option (ad×AW):=aV Tryz.prog .len #[135] 3 #[false] [x] W
def adB(x:ad)(W:AW):Option (ad×AW):=aV Tryz.prog .len #[219] 3 #[false] [x] W
def aoa(x y:ad)(W:AW):Option (ad×AW):=aV Tryz.prog .max #[3,3] 3 #[false,true] [x,y] W
def apv(x:ad)(W:AW):Option (ad×AW):=aV Tryz.prog .len #[251] 3 #[false] [x] W
def ag7(x:ad)(W:AW):Option (ad×AW):=aV Tryz.prog .len #[150] 3 #[false] [x] W
def ajK(x y:ad)(W:AW):Option (ad×AW):=aV Tryz.prog .min #[2,2] 2 #[false,false] [x,y] W
abbrev KZ(ρ:Type):=(ad->AW->Option ρ)->AW->Option ρ
def bK(x y:ad):KZ ρ:=gB (zb3 x y)
def aT(a b d:ad):KZ ρ:=gB (kH a b d)
def qI(x y:ad):KZ ρ:=gB (zb2 x y)
def bQ(x y:ad):KZ ρ:=gB (Nc x y)
def aX(x:ad):KZ ρ:=gB (pP x)
def aA(n:Nat)(x v:ad):KZ ρ:=gB (eZ n x v)
def aY(t:af)(v:List (Nat×ad)):KZ ρ:=gB (Ec t v)
def cd(ts:Array af)(x y:ad):KZ ρ:=gB (SI ts x y)
def bu(t:af)(n:Nat)(v:List (Nat×ad)):KZ ρ:=gB (Dg t n v)
def aG(t:af):KZ ρ:=gB (WA t)
def aD(x:ad):KZ ρ:=gB (sQ x)
def cy(x y:ad):KZ ρ:=gB (zb6 x y)
def aq(x:ad)(i:Nat):KZ ρ:=gB (tG x i)
def lZ(x y:ad):KZ ρ:=gB (zb8 x y)
def kw(x y:ad):KZ ρ:=gB (ak6 x y)
def eJ(p:UnOp)(x:ad):KZ ρ:=gB (Ny p x)
def nL(x y:ad):KZ ρ:=gB (zb1 x y)
def bY(x y:ad):KZ ρ:=gB (zb7 x y)
def gQ(x:ad):KZ ρ:=gB (zt2 x)
def dP(x y:ad):KZ ρ:=gB (amJ x y)
def fe(s d:af)(x:ad):KZ ρ:=gB (acf s d x)
def iP(x y:ad):KZ ρ:=gB (aoX x y)
def mo(x:ad):KZ ρ:=gB (anQ x)
def PX:=aC @gB.eq_1 (aC @gT.eq_1 (aC @gF.eq_1 (aC @gL.eq_1 (aC @gI.eq_1 (aC @gX.eq_1 (aC @gM.eq_1 (aC @gR.eq_1 (aC @gN.eq_1 (aC @gA.eq_1 (aC @yZ.eq_1 (aC @yN.eq_1 (aC @yR.eq_1 (aC @yE.eq_1 (aC @yV.eq_1 (aC @yO.eq_1 (aC @az.eq_1 (aC @aB.eq_1 (aC @aN.eq_1 (aC @bH.eq_1 (@bV.eq_1))))))))))))))))))))
def SX:=aC Go.Eng.SX (aC PX (aC @zc.eq_1 (aC @I.eq_1 (aC @WA.eq_1 (aC @Ec.eq_1 (aC @Dg.eq_1 (aC @Ny.eq_1 (aC @acf.eq_1 (aC @kL.eq_1 (aC @oZ.eq_1 (aC @sD.eq_1 (aC @zb.eq_1 (aC @uB.eq_1 (aC @Il.eq_1 (aC @Fh.eq_1 (aC @SI.eq_1 (aC @zN.eq_1 (aC @Nc.eq_1 (aC @zb1.eq_1 (aC @zb2.eq_1 (aC @zb3.eq_1 (aC @zb4.eq_1 (aC @zb5.eq_1 (aC @zb6.eq_1 (aC @zb7.eq_1 (aC @zb8.eq_1 (aC @Ln.eq_1 (aC @akB.eq_1 (aC @ak6.eq_1 (aC @akj.eq_1 (aC @O9.eq_1 (aC @are.eq_1 (aC @aeo.eq_1 (aC @amJ.eq_1 (aC @ap6.eq_1 (aC @Zr.eq_1 (aC @akP.eq_1 (aC @Zb.eq_1 (aC @ahq.eq_1 (aC @ahc.eq_1 (aC @Vf.eq_1 (aC @afO.eq_1 (aC @Jn.eq_1 (aC @apn.eq_1 (aC @abk.eq_1 (aC @aki.eq_1 (aC @aoN.eq_1 (aC @agn.eq_1 (aC @ajV.eq_1 (aC @aoX.eq_1 (aC @au7.eq_1 (aC @aoL.eq_1 (aC @apq.eq_1 (aC @arq.eq_1 (aC @aq8.eq_1 (aC @Ub.eq_1 (aC @aod.eq_1 (aC @Ms.eq_1 (aC @ags.eq_1 (aC @amI.eq_1 (aC @ao1.eq_1 (aC @aqC.eq_1 (aC @TQ.eq_1 (aC @Up.eq_1 (aC @ajJ.eq_1 (aC @apw.eq_1 (aC @aak.eq_1 (aC @apY.eq_1 (aC @aqD.eq_1 (aC @apK.eq_1 (aC @anY.eq_1 (aC @amF.eq_1 (aC @an5.eq_1 (aC @akl.eq_1 (aC @aqK.eq_1 (aC @ajP.eq_1 (aC @alu.eq_1 (aC @Yq.eq_1 (aC @Lp.eq_1 (aC @ZV.eq_1 (aC @zt2.eq_1 (aC @zt3.eq_1 (aC @zt4.eq_1 (aC @zt5.eq_1 (aC @zt6.eq_1 (aC @zt7.eq_1 (aC @zt8.eq_1 (aC @zt9.eq_1 (aC @auj.eq_1 (aC @ajY.eq_1 (aC @apr.eq_1 (aC @EH.eq_1 (aC @anQ.eq_1 (aC @H8.eq_1 (aC @ajv.eq_1 (aC @adB.eq_1 (aC @aoa.eq_1 (aC @apv.eq_1 (aC @ag7.eq_1 (aC @ajK.eq_1 (aC @bK.eq_1 (aC @aT.eq_1 (aC @qI.eq_1 (aC @bQ.eq_1 (aC @aX.eq_1 (aC @aA.eq_1 (aC @aY.eq_1 (aC @cd.eq_1 (aC @bu.eq_1 (aC @aG.eq_1 (aC @aD.eq_1 (aC @cy.eq_1 (aC @aq.eq_1 (aC @lZ.eq_1 (aC @kw.eq_1 (aC @eJ.eq_1 (aC @nL.eq_1 (aC @bY.eq_1 (aC @gQ.eq_1 (aC @dP.eq_1 (aC @fe.eq_1 (aC @iP.eq_1 (@mo.eq_1)))))))))))))))))))))))))))))))))))))))))))))))))))))))))))))))))))))))))))))))))))))))))))))))))))))))))))))))))))))))))))
end
def xw:cU:=λc S=>az 0 (S 2) λa=>az 3 a λb=>aB b λd=>gB (Lp d) λe=>bQ (S 5) e λf=>gT f (dS (S 5)) λg=>gT f (zb1 g (I 20)) λh=>aT f h (.bool false) λi=>let T:=q S 6 [S 5,a,b,d,e,f,f,g,h,i];gI i (az 0 (S 2) λj=>az 3 j λk=>aB k λl=>bH 3 l (S 5) λm=>az 0 m λn=>aB n λo=>gB (ZV o) λp=>qI p (I 100) λr=>gF r (jp 0 (S 2)) λs=>gF r (jp 3 s) λt=>gF r (bz t) λu=>gF r (dS (S 5)) λv=>gF r (pc 3 u v) λw=>gF r (jp 1 w) λx=>gF r (bz x) λy=>gF r (zt2 y) λz=>gF r (zb2 z (I 20)) λA=>aT r (.bool true) A λB=>let U:=q T 18 [j,k,l,S 5,m,n,o,p,r,r,s,t,u,v,w,x,y,z,A,B];gI B (yR (q U 4 [.bool true])) (bK (S 5) (I 1) λC=>yN (q (q U 16 [S 5,C]) 5 [C]))) (yE 0 T)
def Fl:dE:=λc a b=>aX a λd=>gL (xw c) (q (q (cG 0 [a,b] ai.blank) 2 [d]) 4 [.bool false,I 0]) λe S=>gX 0 e (az 0 (S 2) λf=>az 3 f λg=>aB g λh=>gB (Lp h) λi=>qI i (I 10) λj=>gF j (jp 4 (S 2)) λk=>gF j (bz k) λl=>gF j (zt3 l) λm=>gF j (dS (S 1)) λn=>gF j (zb4 m n) λo=>gF j (dS o) λp=>gT p (jp 4 (S 2)) λr=>gT p (bz r) λs=>gT p (zt3 s) λt=>gT p (zb5 t (I 400)) λu=>gF j (kH p u (.bool false)) λv=>aT j (.bool true) v λw=>gF w (jp 4 (S 2)) λx=>gF w (bz x) λy=>gF w (zt3 y) λz=>gF w (zb2 z (I 410)) λA=>aT w (.bool true) A λB=>yO [(B,none)]) (gR e (yO [(S 4,none)]))
def Px{x0 x1 W r}(h:Fl ba x0 x1 W=some r):OG 6 #[] [x0,x1] W r:=oM 62 h (by kernel_rfl)
def BN:fI:=λc a=>aX a λb=>aN 5 b λd=>bV c 22 [d] λe=>aq e 0 λf=>aq e 1 λg=>aq e 2 λh=>cy h (I 0) λi=>gF i (dS f) λj=>gF i (sQ j) λk=>gF i (jp 6 k) λl=>gF i (bz l) λm=>gF i (zt2 m) λn=>gF i (zb7 n (I 0)) λo=>aT i (.bool true) o λp=>gI p (yO [(I 0,none),(h,none)]) (aD f λr=>az 6 r λs=>aB s λt=>bV c 40 [t] λu=>yO [(u,none),(I 0,none)])
def F7{x0 W r}(h:BN ba x0 W=some r):OG 14 #[] [x0] W r:=oM 29 h (by kernel_rfl)
def mW:cU:=λc S=>bQ (S 34) (S 33) λa=>let T:=q S 35 [a];gI a (bH 24 (S 32) (S 34) λb=>aN 24 b λd=>aG 52 λe=>aA 24 e d λf=>az 1 e λg=>aB g λh=>nL h (I 1) λi=>gF i (jp 1 e) λj=>gF i (bz j) λk=>gF i (zb2 k (I 64)) λl=>aT i (.bool true) l λm=>let U:=q (q (q (q T 36 [S 34,b,d]) 10 [e]) 9 [S 34]) 39 [g,h,i,i,j,k,l,m];gI m (yR (q (q U 47 [S 34]) 2 [.pointer none,S 34,I 7])) (az 1 e λn=>aB n λo=>gB (zb 112 (S 8) o true) λp=>aq p 0 λr=>aq p 1 λs=>az 2 e λt=>aB t λu=>let V:=q (q (q (q (q (q U 49 [S 8,n,o,p]) 48 [p]) 53 [r,s]) 11 [r,s]) 78 [t,u]) 77 [u];gI u (eJ .not s λv=>gF v (dS r) λw=>gF v (jp 0 e) λx=>gF v (bz x) λy=>gF v (Ln w y) λz=>aT v (.bool true) z λA=>gF A (jp 3 e) λB=>gF A (dJ 12 B) λC=>gF A (Ec 48 []) λD=>gF A (akB C D) λE=>aT A (.bool true) E λF=>let Y:=q V 80 [s,v,v,w,x,y,z,A,A,B,C,D,E,F];gI F (yR (q (q Y 94 [S 34]) 2 [.pointer none,S 34,I 6])) (az 1 e λG=>aB G λH=>gB (zt4 (S 8) H) λJ=>aD (S 7) λK=>az 5 K λL=>aB L λM=>kw r (I 1) λN=>bH 25 M N λO=>az 15 e λP=>aN 9 P λQ=>aD O λa0=>az 3 a0 λb0=>aA 1 b0 (S 34) λd0=>gA (λW=>kA true (dJ 9 P W) Q&&true) (aD O λe0=>az 16 e0 λf0=>aA 9 f0 Q λg0=>aD (S 7) λh0=>az 6 h0 λi0=>aB i0 λj0=>gB (zt5 (S 8)) λk0=>bu 28 1 [(0,k0)] λl0=>cd #[28,28] j0 l0 λm0=>aD (S 7) λn0=>az 6 n0 λa1=>aA 1 a1 m0 λb1=>bK (S 34) (I 1) λd1=>yN (q (q (q (q (q Y 95 [S 8,G,H,S 7,K,L,M,r,N,O]) 13 [O]) 105 [O,O,S 34,P,Q,a0,b0,e0,f0]) 140 [S 7,S 7,h0,i0,j0,S 8,k0,l0,m0,n0,a1,d1]) 34 [d1])))) (gF s (jp 0 e) λv=>gF s (bz v) λw=>gF s (dS (S 7)) λx=>gF s (sQ x) λy=>gF s (jp 5 y) λz=>gF s (bz z) λA=>gF s (zt6 A) λB=>gF s (zb3 B (I 1)) λC=>gF s (Ln w C) λD=>aT s (.bool true) D λE=>gF E (jp 15 e) λF=>gF E (dJ 9 F) λG=>gF E (Ec 50 []) λH=>gF E (akj G H) λJ=>aT E (.bool true) J λK=>gF K (jp 3 e) λL=>gF K (dJ 12 L) λM=>gF K (zc c 51 [M]) λN=>gF K (zb6 N (I 0)) λO=>aT K (.bool true) O λP=>let Y:=q (q V 115 [s,s,v,w,x,y,z,A,B,C,D,E,E,F,G,H,J,K,K,L,M,N,O,P]) 114 [P];gI P (yR (q (q Y 139 [S 34]) 2 [.pointer none,S 34,I 6])) (az 1 e λQ=>aB Q λa0=>az 0 e λb0=>aB b0 λd0=>gB (uB 112 (S 8) a0 d0) λe0=>aD (S 7) λf0=>az 5 f0 λg0=>aB g0 λh0=>az 0 e λi0=>aB i0 λj0=>az 1 e λk0=>aB k0 λl0=>az 3 e λm0=>aN 12 m0 λn0=>aY 77 [(0,j0),(1,l0),(2,S 34),(3,I (-1)),(4,n0)] λa1=>bu 78 1 [(0,a1)] λb1=>cd #[78,78] h0 b1 λd1=>aD (S 7) λe1=>az 5 e1 λf1=>aA 1 f1 d1 λg1=>aD (S 7) λh1=>az 6 h1 λi1=>aB i1 λj1=>gB (zt5 (S 8)) λk1=>bu 28 1 [(0,k1)] λl1=>cd #[28,28] j1 l1 λm1=>aD (S 7) λn1=>az 6 n1 λa2=>aA 1 a2 m1 λb2=>bK (S 34) (I 1) λd2=>yN (q (q (q Y 55 [S 8,Q,a0,b0,d0,S 7,S 7,f0,g0,h0,i0,j0,k0,l0,S 34,m0,n0,a1,b1,d1,e1,f1]) 140 [S 7,S 7,h1,i1,j1,S 8,k1,l1,m1,n1,a2,d2]) 34 [d2]))))) (yE 0 T)
def xh:fI:=λc a=>aX a λb=>az 0 b λd=>aN 4 d λe=>bV c 50 [e] λf=>aq f 0 λg=>aq f 1 λh=>cy h (I 0) λi=>gI i (yO [(.pointer none,none),(I (-1),none),(h,none)]) (az 4 b λj=>aB j λk=>gB (zt3 k) λl=>qI l (I 400) λm=>gI m (yO [(.pointer none,none),(I (-1),none),(I 3,none)]) (aN 5 b λn=>aY 80 [(0,n)] λo=>aX o λp=>gB (Il 112 none) λr=>az 4 b λs=>aB s λt=>gB (zt3 t) λu=>gL (mW c) (q (q (q (q (q (q (q (q (q (q (q (cG 0 [a] ai.blank) 1 [b,.pointer none,I 0,I 0]) 15 [d,e,f]) 14 [f]) 18 [g,h]) 5 [g,h]) 20 [h,i]) 23 [j,k,l,m,n,o,p]) 7 [p]) 30 [r]) 8 [r]) 31 [s,t,u,I 0]) λv S=>gX 0 v (yO [(S 7,none),(I 0,none),(I 0,none)]) (gR v (yO [(S 2,none),(S 3,none),(S 4,none)]))))
def Hw{x0 W r}(h:xh ba x0 W=some r):OG 22 #[] [x0] W r:=oM 153 h (by kernel_rfl)
def DT:fI:=λc a=>aX a λb=>az 3 b λd=>aB d λe=>gB (O9 e (I 0)) λf=>yO [(f,none)]
def HB{x0 W r}(h:DT ba x0 W=some r):OG 26 #[] [x0] W r:=oM 6 h (by kernel_rfl)
def vJ:cU:=λc S=>az 3 (S 2) λa=>aB a λb=>gB (Lp b) λd=>bQ (S 5) d λe=>let T:=q S 36 [S 5,a,b,d,e];gI e (az 3 (S 2) λf=>aB f λg=>bH 3 g (S 5) λh=>aN 3 h λi=>az 3 (S 3) λj=>aB j λk=>bH 3 k (S 5) λl=>aN 3 l λm=>aG 63 λn=>aG 63 λo=>aA 3 n i λp=>gA (λW=>kA true (dJ 3 l W) m&&(kA true (bz j W) k&&true)) (aA 3 o m λr=>az 0 n λs=>aB s λt=>az 0 o λu=>aB u λv=>gB (are t v) λw=>gF w (jp 2 n) λx=>gF w (bz x) λy=>gF w (jp 2 o) λz=>gF w (bz z) λA=>gF w (Ln y A) λB=>aT w (.bool true) B λC=>gF C (jp 1 n) λD=>gF C (bz D) λE=>gF C (jp 1 o) λF=>gF C (bz F) λG=>gF C (zc c 61 [E,G]) λH=>gF C (Ny .not H) λJ=>aT C (.bool true) J λK=>let U:=q (q (q T 43 [f,g,S 5,h,i,j,k,S 5,l,m]) 6 [n,o]) 53 [s,t,u,v,w,w,x,y,z,A,B,C,C,D,E,F,G,H,J,K];gI K (yR (q U 4 [.bool false])) (bK (S 5) (I 1) λL=>yN (q (q U 41 [S 5,L]) 5 [L])))) (yE 0 T)
def Jf:dE:=λc a b=>aX a λd=>aX b λe=>az 0 d λf=>aB f λg=>az 0 e λh=>aB h λi=>gB (Ln g i) λj=>gF j (jp 1 d) λk=>gF j (bz k) λl=>gF j (jp 1 e) λm=>gF j (bz m) λn=>gF j (aeo l n) λo=>aT j (.bool true) o λp=>gF p (jp 2 d) λr=>gF p (bz r) λs=>gF p (jp 2 e) λt=>gF p (bz t) λu=>gF p (aeo s u) λv=>aT p (.bool true) v λw=>gF w (jp 3 d) λx=>gF w (bz x) λy=>gF w (Lp y) λz=>gF w (jp 3 e) λA=>gF w (bz A) λB=>gF w (Lp B) λC=>gF w (Ln z C) λD=>aT w (.bool true) D λE=>gI E (yO [(.bool false,none)]) (gL (vJ c) (q (q (q (cG 0 [a,b] ai.blank) 2 [d,e,.bool false]) 8 [f,g,h,i,j,j,k,l,m,n,o,p,p,r,s,t,u,v,w,w,x,y,z,A,B,C,D,E]) 5 [I 0]) λF S=>gX 0 F (yO [(.bool true,none)]) (gR F (yO [(S 4,none)])))
def L5{x0 x1 W r}(h:Jf ba x0 x1 W=some r):OG 29 #[] [x0,x1] W r:=oM 73 h (by kernel_rfl)
def Hr:fI:=λc a=>aX a λb=>aN 4 b λd=>bV c 48 [d] λe=>aq e 0 λf=>aq e 1 λg=>cy g (I 0) λh=>gI h (yO [(I 0,none),(g,none)]) (aN 4 b λi=>bV c 62 [i] λj=>gB (zt7 j) λk=>yO [(k,none),(I 0,none)])
def JD{x0 W r}(h:Hr ba x0 W=some r):OG 30 #[] [x0] W r:=oM 17 h (by kernel_rfl)
def dW:dE:=λc a b=>aN 12 b λd=>aN 12 a λe=>gB (akB d e) λf=>gI f (yO [(I 2,none)]) (yO [(I 0,none)])
def oN:EZ:=λc a b d e=>gI e (az 1 a λf=>aB f λg=>az 2 a λh=>aB h λi=>az 4 a λj=>aB j λk=>az 1 b λl=>aA 1 l g λm=>gA (λW=>kA true (bz j W) k&&(kA true (bz h W) i&&true)) (az 2 b λn=>aA 1 n i λo=>gA (λW=>kA true (bz j W) k&&true) (az 4 b λp=>aA 1 p k λr=>dW c a b))) (bY d (I 12) λf=>gI f (az 11 a λg=>aB g λh=>az 11 b λi=>aA 1 i h λj=>dW c a b) (yO [(I 2,none)]))
def ju:EZ:=λc a b d e=>gI e (az 1 a λf=>aB f λg=>az 2 a λh=>aB h λi=>az 3 a λj=>aB j λk=>az 1 b λl=>aA 1 l g λm=>gA (λW=>kA true (bz j W) k&&(kA true (bz h W) i&&true)) (az 2 b λn=>aA 1 n i λo=>gA (λW=>kA true (bz j W) k&&true) (az 3 b λp=>aA 1 p k λr=>dW c a b))) (bY d (I 3) λf=>gI f (az 1 a λg=>aB g λh=>az 2 a λi=>aB i λj=>az 4 a λk=>aB k λl=>az 5 a λm=>aB m λn=>az 1 b λo=>aA 1 o h λp=>gA (λW=>kA true (bz m W) n&&(kA true (bz k W) l&&(kA true (bz i W) j&&true))) (az 2 b λr=>aA 1 r j λs=>gA (λW=>kA true (bz m W) n&&(kA true (bz k W) l&&true)) (az 4 b λt=>aA 1 t l λu=>gA (λW=>kA true (bz m W) n&&true) (az 5 b λv=>aA 1 v n λw=>dW c a b)))) (bY d (I 6) λg=>gI g (az 1 a λh=>aB h λi=>az 2 a λj=>aB j λk=>az 6 a λl=>aB l λm=>az 7 a λn=>aN 4 n λo=>az 1 b λp=>aA 1 p i λr=>gA (λW=>kA true (dJ 4 n W) o&&(kA true (bz l W) m&&(kA true (bz j W) k&&true))) (az 2 b λs=>aA 1 s k λt=>gA (λW=>kA true (dJ 4 n W) o&&(kA true (bz l W) m&&true)) (az 6 b λu=>aA 1 u m λv=>gA (λW=>kA true (dJ 4 n W) o&&true) (az 7 b λw=>aA 4 w o λx=>dW c a b)))) (bY d (I 7) λh=>gI h (az 1 a λi=>aB i λj=>az 2 a λk=>aB k λl=>az 7 a λm=>aN 4 m λn=>az 1 b λo=>aA 1 o j λp=>gA (λW=>kA true (dJ 4 m W) n&&(kA true (bz k W) l&&true)) (az 2 b λr=>aA 1 r l λs=>gA (λW=>kA true (dJ 4 m W) n&&true) (az 7 b λt=>aA 4 t n λu=>dW c a b))) (bY d (I 9) λi=>gI i (az 7 a λj=>aN 4 j λk=>az 7 b λl=>aA 4 l k λm=>dW c a b) (bY d (I 10) λj=>gI j (oN c a b d j) (bY d (I 11) λk=>oN c a b d k))))))
def uR:fI:=λc a=>aX a λb=>az 0 b λd=>aB d λe=>aY 48 [(0,e)] λf=>aG 48 λg=>aA 12 g f λh=>az 0 b λi=>aB i λj=>bY j (I 1) λk=>gI k (az 1 b λl=>aB l λm=>az 1 g λn=>aA 1 n m λo=>dW c b g) (bY j (I 2) λl=>gI l (ju c b g j l) (bY j (I 5) λm=>gI m (ju c b g j m) (bY j (I 4) λn=>gI n (ju c b g j n) (bY j (I 8) λo=>ju c b g j o))))
def La{x0 W r}(h:uR ba x0 W=some r):OG 32 #[] [x0] W r:=oM 92 h (by kernel_rfl)
def BK:cU:=λc S=>gQ (S 0) λa=>bQ (S 4) a λb=>let T:=q S 12 [S 4,S 0,a,b];gI b (bH 1 (S 0) (S 4) λd=>aB d λe=>gB (zt8 (S 3) e) λf=>bK (S 4) (I 1) λg=>yN (q (q (q (q T 18 [S 3,S 0,S 4,d,e,f]) 3 [f]) 16 [S 4,g]) 4 [g])) (yE 0 T)
def mr:cU:=λc S=>gQ (S 0) λa=>bQ (S 4) a λb=>let T:=q S 12 [S 4,S 0,a,b];gI b (bH 1 (S 0) (S 4) λd=>aB d λe=>gB (zt8 (S 3) e) λf=>bK (S 4) (I 1) λg=>yN (q (q (q (q T 18 [S 3,S 0,S 4,d,e,f]) 3 [f]) 16 [S 4,g]) 4 [g])) (yE 0 T)
def wy:fI:=λc a=>gQ a λb=>nL b (I 1) λd=>let S:=q (q (cG 0 [a] ai.blank) 2 [I 0]) 5 [a,b,d];gI d (gB (Fh 9 (Gk [115,108,105,99,101,115,46,77,97,120,58,32,101,109,112,116,121,32,108,105,115,116])) λe=>gB (zN) λf=>bH 1 a (I 0) λg=>aB g λh=>gL (BK c) (q (q S 8 [e,a,g,h]) 3 [h,I 1]) λi T=>gX 0 i (yO [(T 3,none)]) yZ) (bH 1 a (I 0) λe=>aB e λf=>gL (mr c) (q (q S 9 [a,e,f]) 3 [f,I 1]) λg T=>gX 0 g (yO [(T 3,none)]) yZ)
def BA{x0 W r}(h:wy ba x0 W=some r):OG 40 #[] [x0] W r:=oM 25 h (by kernel_rfl)
def Ad:dE:=λc a b=>aX a λd=>aX b λe=>az 3 d λf=>aB f λg=>gB (O9 g (I 0)) λh=>gT h (jp 3 d) λi=>gT h (bz i) λj=>gT h (jp 2 e) λk=>gT h (bz k) λl=>gT h (Nc j l) λm=>aT h m (.bool false) λn=>yO [(n,none)]
def Ei{x0 x1 W r}(h:Ad ba x0 x1 W=some r):OG 42 #[] [x0,x1] W r:=oM 15 h (by kernel_rfl)
def tW:cU:=λc S=>az 3 (S 1) λa=>aB a λb=>gB (Lp b) λd=>bQ (S 4) d λe=>let T:=q S 30 [S 4,a,b,d,e];gI e (aN 4 (S 1) λf=>bV c 88 [f,S 4] λg=>cy g (I 0) λh=>let U:=q (q (q T 37 [f,S 4,g]) 5 [g]) 40 [g,h];gI h (yR (q (q U 42 [S 4,g]) 2 [S 4,g])) (bK (S 4) (I 1) λi=>yN (q (q U 35 [S 4,i]) 4 [i]))) (yE 0 T)
def Gs:fI:=λc a=>aX a λb=>az 0 b λd=>aB d λe=>bV c 87 [e,I 1,I 16] λf=>eJ .not f λg=>gF g (jp 1 b) λh=>gF g (bz h) λi=>gF g (zc c 87 [i,I 1,I 1000000000]) λj=>gF g (Ny .not j) λk=>aT g (.bool true) k λl=>gF l (jp 2 b) λm=>gF l (bz m) λn=>gF l (zc c 87 [n,I 1,I 1000000000]) λo=>gF l (Ny .not o) λp=>aT l (.bool true) p λr=>gI r (yO [(I (-1),none),(I 7,none)]) (az 3 b λs=>aB s λt=>gB (Lp t) λu=>bY u (I 0) λv=>gI v (yO [(I (-1),none),(I 6,none)]) (az 3 b λw=>aB w λx=>gB (Lp x) λy=>qI y (I 8) λz=>gI z (yO [(I (-1),none),(I 3,none)]) (gL (tW c) (q (q (q (cG 0 [a] ai.blank) 1 [b,I 0,I 0]) 6 [d,e,f,g,g,h,i,j,k,l,l,m,n,o,p,r,s,t,u,v,w,x,y,z]) 4 [I 0]) λA S=>gX 0 A (aN 4 (S 1) λB=>bV c 62 [B] λC=>gB (zt7 C) λD=>qI D (I 4096) λE=>gI E (yO [(I (-1),none),(I 3,none)]) (yO [(I 0,none),(I 0,none)])) (gR A (yO [(S 2,none),(S 3,none)])))))
def JH{x0 W r}(h:Gs ba x0 W=some r):OG 48 #[] [x0] W r:=oM 48 h (by kernel_rfl)
def oK:cU:=λc S=>bQ (S 55) (S 54) λa=>gI a (bH 1 (S 53) (S 55) λb=>aB b λd=>dP (S 4) d λe=>bK (S 55) (I 1) λf=>yN (q (q (q (q (q (q S 56 [a,b,d]) 9 [d]) 59 [S 4,d,e]) 4 [e]) 62 [f]) 55 [f])) (yE 3 (q S 56 [a]))
def tz:cU:=λc S=>bQ (S 37) (S 36) λa=>gI a (bH 3 (S 35) (S 37) λb=>aN 3 b λd=>aG 63 λe=>aA 3 e d λf=>aN 3 e λg=>az 3 (S 1) λh=>aB h λi=>gB (oZ 22 i none (some (S 37)) none) λj=>bV c 91 [g,j] λk=>cy k (I 0) λl=>let T:=q (q (q (q (q (q S 38 [a,S 37,b,d]) 6 [e]) 5 [S 37]) 42 [g,h,i,S 37,j,k]) 7 [k]) 48 [k,l];gI l (yR (q (q T 50 [S 37,k]) 2 [S 37,k])) (az 1 e λm=>aB m λn=>gQ n λo=>gL (oK c) (q T 52 [m,n,o,I 0]) λp U=>gX 3 p (bK (U 37) (I 1) λr=>yN (q (q U 63 [r]) 37 [r])) yZ)) (yE 1 (q S 38 [a]))
def Gv:fI:=λc a=>aX a λb=>az 0 b λd=>aB d λe=>bV c 89 [e,I 1,I 16] λf=>gF f (jp 1 b) λg=>gF f (bz g) λh=>gF f (zc c 90 [h,I 1,I 1000000000]) λi=>aT f (.bool true) i λj=>gF j (jp 2 b) λk=>gF j (bz k) λl=>gF j (zc c 90 [l,I 1,I 1000000000]) λm=>aT j (.bool true) m λn=>gI n (yO [(I (-1),none),(I 7,none)]) (az 3 b λo=>aB o λp=>gB (Lp p) λr=>bY r (I 0) λs=>gI s (yO [(I (-1),none),(I 6,none)]) (az 3 b λt=>aB t λu=>gB (Lp u) λv=>qI v (I 8) λw=>gI w (yO [(I (-1),none),(I 3,none)]) (az 3 b λx=>aB x λy=>gB (Lp y) λz=>gL (tz c) (q (q (q (q (q (q (q (q (q (cG 0 [a] ai.blank) 1 [b,I 0,I 0]) 11 [d,e,f,f,g,h,i,j,j,k,l,m,n]) 10 [n]) 25 [o,p,r,s]) 24 [s]) 30 [t,u,v,w]) 29 [w]) 4 [I 0]) 34 [x,y,z,I 0]) λA S=>gX 1 A (qI (S 4) (I 4096) λB=>gI B (yO [(I (-1),none),(I 3,none)]) (yO [(I 0,none),(I 0,none)])) (gR A (yO [(S 2,none),(S 3,none)])))))
def Kk{x0 W r}(h:Gv ba x0 W=some r):OG 50 #[] [x0] W r:=oM 66 h (by kernel_rfl)
def ky:dE:=λc a b=>aX a λd=>aX b λe=>gB (uj (.func 92) #[] #[d,e]) λf=>yO [(f,none)]
def vS{x0 x1 W r}(h:ky ba x0 x1 W=some r):OG 52 #[] [x0,x1] W r:=oM 6 h (by kernel_rfl)
def mi:dE:=λc a b=>bV c 93 [a,b] λd=>gB (O9 d (I 0)) λe=>yO [(e,none)]
def rQ{x0 x1 W r}(h:mi ba x0 x1 W=some r):OG 54 #[] [x0,x1] W r:=oM 9 h (by kernel_rfl)
def ya:cU:=λc S=>aG 163 λa=>aA 4 a (S 17) λb=>yN (q S 6 [a])
def Cx(call:Eng.Callee)(R:Nat->ad)(W:AW):ga Tryz.prog call false 23 (BF [1,1,0,1,0,0] (Fz 55)) LT R W nG=ya call R W:=by kernel_rfl
def yh:cU:=λc S=>aB (S 2) λa=>az 3 (S 6) λb=>aB b λd=>dP a d λe=>aA 1 (S 2) e λf=>yN (q S 18 [a,b,d,e])
def Cm(call:Eng.Callee)(R:Nat->ad)(W:AW):ga Tryz.prog call false 23 (BF [1,1,0,1,0,1] (Fz 55)) LT R W nG=yh call R W:=by kernel_rfl
def G0:fI:=λc a=>aX a λb=>aG 3 λd=>aN 4 b λe=>bV c 50 [e] λf=>aq f 0 λg=>aq f 1 λh=>cy h (I 0) λi=>gI i (aA 1 d (I 0) λj=>yO [(d,some 3),(h,none)]) (aN 4 b λj=>bV c 94 [j] λk=>gB (ll c k (.loop .ready none (q (q (q (q (q (q (q (cG 0 [a] ai.blank) 1 [b,d,I 0]) 8 [e,f]) 7 [f]) 10 [g,h]) 4 [g,h]) 12 [h,i]) 15 [j,k]) 23 #[17] (BF [1,1,0,1,0,0] (Fz 55)) (BF [1,1,0,1,0,1] (Fz 55)))) λl=>gM l (aB d λm=>aA 1 d m λn=>yO [(d,some 3),(I 0,none)]) yZ)
def KY{x0 W r}(h:G0 ba x0 W=some r):OG 55 #[] [x0] W r:=oM 23 h (by kernel_rfl)
def vq:cU:=λc S=>gQ (S 0) λa=>bQ (S 5) a λb=>let T:=q S 11 [S 5,S 0,a,b];gI b (bH 1 (S 0) (S 5) λd=>aB d λe=>bH 1 (S 1) (S 5) λf=>aB f λg=>gB (Ln e g) λh=>let U:=q T 17 [S 0,S 5,d,e,S 1,S 5,f,g,h];gI h (yR (q U 4 [.bool false])) (bK (S 5) (I 1) λi=>yN (q (q U 15 [S 5,i]) 5 [i]))) (yE 0 T)
def Jk:dE:=λc a b=>gQ a λd=>gQ b λe=>gB (Ln d e) λf=>gI f (yO [(.bool false,none)]) (gL (vq c) (q (q (q (cG 0 [a,b] ai.blank) 4 [.bool false]) 6 [a,d,b,e,f]) 5 [I 0]) λg S=>gX 0 g (yO [(.bool true,none)]) (gR g (yO [(S 4,none)])))
def Me{x0 x1 W r}(h:Jk ba x0 x1 W=some r):OG 61 #[] [x0,x1] W r:=oM 26 h (by kernel_rfl)
def kz:cU:=λc S=>az 3 (S 1) λa=>aB a λb=>bH 3 b (S 4) λd=>az 1 d λe=>aB e λf=>bH 1 f (S 5) λg=>aB g λh=>bQ (S 6) h λi=>let T:=q S 25 [S 6,a,b,S 4,d,e,f,S 5,g,h,i];gI i (aY 177 [(0,S 4),(1,S 5),(2,S 6)] λj=>bu 123 1 [(0,j)] λk=>cd #[123,123] (S 3) k λl=>bK (S 6) (I 1) λm=>yN (q (q (q (q T 38 [S 3,S 4,S 5,S 6,j,k,l]) 3 [l]) 36 [S 6,m]) 6 [m])) (yE 4 T)
def nF:cU:=λc S=>az 3 (S 1) λa=>aB a λb=>bH 3 b (S 4) λd=>az 1 d λe=>aB e λf=>gQ f λg=>bQ (S 5) g λh=>let T:=q S 14 [S 5,a,b,S 4,d,e,f,g,h];gI h (gL (kz c) (q T 6 [I 0]) λi U=>gX 4 i (bK (U 5) (I 1) λj=>yN (q (q U 23 [U 5,j]) 5 [j])) yZ) (yE 2 T)
def rL:cU:=λc S=>az 3 (S 1) λa=>aB a λb=>gB (Lp b) λd=>bQ (S 4) d λe=>let T:=q S 7 [S 4,a,b,d,e];gI e (gL (nF c) (q T 5 [I 0]) λf U=>gX 2 f (bK (U 4) (I 1) λg=>yN (q (q U 12 [U 4,g]) 4 [g])) yZ) (yE 0 T)
def EQ:fI:=λc a=>aX a λb=>gL (rL c) (q (cG 0 [a] ai.blank) 1 [b,.slice none 0 0,.slice none 0 0,I 0]) λd S=>gX 0 d (yO [(S 3,none)]) yZ
def HO{x0 W r}(h:EQ ba x0 W=some r):OG 62 #[] [x0] W r:=oM 46 h (by kernel_rfl)
def nc:dE:=λc a b=>gI b (az 4 a λd=>aB d λe=>yO [(I (-1),none),(e,none),(I 0,none)]) (yO [(I (-1),none),(I (-1),none),(I 0,none)])
def mU:pD:=λc a b d=>gI d (az 7 a λe=>az 0 e λf=>aB f λg=>fe 43 3 g λh=>yO [(h,none),(I (-1),none),(I 0,none)]) (bY b (I 3) λe=>gI e (nc c a e) (bY b (I 10) λf=>gI f (nc c a f) (bY b (I 11) λg=>nc c a g)))
def jW:pD:=λc a b d=>gI d (az 3 a λe=>aB e λf=>yO [(f,none),(I (-1),none),(I 0,none)]) (bY b (I 6) λe=>gI e (mU c a b e) (bY b (I 7) λf=>gI f (mU c a b f) (bY b (I 9) λg=>mU c a b g)))
def Ez:fI:=λc a=>aX a λb=>aN 12 b λd=>bV c 32 [d] λe=>cy e (I 0) λf=>gI f (yO [(I 0,none),(I 0,none),(e,none)]) (az 0 b λg=>aB g λh=>bY h (I 2) λi=>gI i (jW c b h i) (bY h (I 5) λj=>gI j (jW c b h j) (bY h (I 4) λk=>gI k (jW c b h k) (bY h (I 8) λl=>jW c b h l))))
def H7{x0 W r}(h:Ez ba x0 W=some r):OG 66 #[] [x0] W r:=oM 34 h (by kernel_rfl)
def xr:pD:=λc a b d=>gB (ap6 a b) λe=>gT e (dS a) λf=>gT e (dS d) λg=>gT e (Zr f g) λh=>aT e h (.bool false) λi=>yO [(i,none)]
def HE{x0 x1 x2 W r}(h:xr ba x0 x1 x2 W=some r):OG 87 #[] [x0,x1,x2] W r:=oM 15 h (by kernel_rfl)
def qh:cU:=λc S=>bQ (S 6) (S 1) λa=>let T:=q S 17 [S 6,S 1,a];gI a (az 3 (S 2) λb=>aB b λd=>bH 3 d (S 6) λe=>az 0 e λf=>aB f λg=>az 0 (S 5) λh=>aB h λi=>gB (akP g i) λj=>let U:=q T 22 [b,d,S 6,e,f,g,h,i,j];gI j (yR (q U 4 [I 8])) (bK (S 6) (I 1) λk=>yN (q (q U 20 [S 6,k]) 6 [k]))) (yE 0 T)
def p7:cU:=λc S=>az 1 (S 5) λa=>aB a λb=>gQ b λd=>bQ (S 7) d λe=>let T:=q S 39 [S 7,a,b,d,e];gI e (az 1 (S 5) λf=>aB f λg=>bH 1 g (S 7) λh=>aB h λi=>bV c 87 [i,I 1,I 64] λj=>eJ .not j λk=>let U:=q T 46 [f,g,S 7,h,i,j,k];gI k (yR (q U 4 [I 7])) (bK (S 7) (I 1) λl=>yN (q (q U 44 [S 7,l]) 7 [l]))) (yE 2 T)
def BO:dE:=λc a b=>aX a λd=>az 3 d λe=>aB e λf=>bH 3 f b λg=>aN 3 g λh=>aG 63 λi=>aA 3 i h λj=>az 0 i λk=>aB k λl=>bV c 115 [l] λm=>eJ .not m λn=>gI n (yO [(I 6,none)]) (gL (qh c) (q (q (q (q (q (q (cG 0 [a,b] ai.blank) 2 [d]) 4 [I 0]) 8 [e,f,b,g,h]) 5 [i]) 13 [k,l,m,n]) 6 [I 0]) λo S=>gX 0 o (az 1 (S 5) λp=>aB p λr=>gQ r λs=>bY s (I 0) λt=>gI t (yO [(I 6,none)]) (az 1 (S 5) λu=>aB u λv=>gQ v λw=>qI w (I 16) λx=>gI x (yO [(I 3,none)]) (gL (p7 c) (q (q S 31 [p,r,s,t,u,v,w,x]) 7 [I 0]) λy T=>gX 2 y (az 2 (T 5) λz=>aB z λA=>bV c 87 [A,I 0,I 64] λB=>eJ .not B λC=>gI C (yO [(I 7,none)]) (yO [(I 0,none)])) (gR y (yO [(T 4,none)]))))) (gR o (yO [(S 4,none)])))
def Gj{x0 x1 W r}(h:BO ba x0 x1 W=some r):OG 88 #[] [x0,x1] W r:=oM 57 h (by kernel_rfl)
def pS:pD:=λc a b d=>bQ a b λe=>gF e (dS a) λf=>gF e (dS d) λg=>gF e (zb4 f g) λh=>aT e (.bool true) h λi=>yO [(i,none)]
def BH{x0 x1 x2 W r}(h:pS ba x0 x1 x2 W=some r):OG 89 #[] [x0,x1,x2] W r:=oM 15 h (by kernel_rfl)
def nz:pD:=λc a b d=>gB (Zb a b) λe=>gF e (dS a) λf=>gF e (dS d) λg=>gF e (ahq f g) λh=>aT e (.bool true) h λi=>yO [(i,none)]
def yJ{x0 x1 x2 W r}(h:nz ba x0 x1 x2 W=some r):OG 90 #[] [x0,x1,x2] W r:=oM 15 h (by kernel_rfl)
def Gy:dE:=λc a b=>aX a λd=>az 0 d λe=>aB e λf=>bV c 116 [f] λg=>eJ .not g λh=>gI h (yO [(I 6,none)]) (gB (uj (.func 118) #[] #[d]) λi=>bV c 117 [b,i] λj=>gI j (yO [(I 8,none)]) (az 1 d λk=>aB k λl=>gQ l λm=>bY m (I 0) λn=>gI n (yO [(I 6,none)]) (az 1 d λo=>aB o λp=>gQ p λr=>qI r (I 16) λs=>gI s (yO [(I 3,none)]) (az 1 d λt=>aB t λu=>bV c 54 [u,vX 119] λv=>gI v (yO [(I 7,none)]) (az 2 d λw=>aB w λx=>bV c 89 [x,I 0,I 64] λy=>gI y (yO [(I 7,none)]) (yO [(I 0,none)]))))))
def JW{x0 x1 W r}(h:Gy ba x0 x1 W=some r):OG 91 #[] [x0,x1] W r:=oM 32 h (by kernel_rfl)
def gS:cU:=λc S=>bQ (S 11) (S 10) λa=>gI a (bH 25 (S 9) (S 11) λb=>aN 25 b λd=>aG 77 λe=>aA 25 e d λf=>aB (S 2) λg=>aN 25 e λh=>gB (c g [h]) λi=>gT i (dS (S 0)) λj=>gT i (dJ 25 e) λk=>gT i (c j [k]) λl=>gT i (Ny .not l) λm=>aT i m (.bool false) λn=>let T:=q (q (q S 12 [a,b,d]) 5 [e]) 15 [g,h,i,i,j,k,l,m,n];gI n (yR T) (bK (S 11) (I 1) λo=>yN (q (q T 24 [o]) 11 [o]))) (yE 0 (q S 12 [a]))
def jo:pD:=λc a b d=>aB b λe=>aD e λf=>az 5 f λg=>aB g λh=>gB (zt6 h) λi=>gL (gS c) (q (cG 0 [a,b,d] ai.blank) 6 [e,f,g,h,i,I 0]) λj S=>gX 0 j (yO []) (gR j (yO []))
def sX{x0 x1 x2 W r}(h:jo ba x0 x1 x2 W=some r):OG 92 #[x1,x2] [x0] W r:=oM 25 h (by kernel_rfl)
def io:cU:=λc S=>bQ (S 8) (S 7) λa=>gI a (bH 1 (S 0) (S 8) λb=>aB b λd=>gB (c (S 1) [d]) λe=>let T:=q (q (q S 9 [a,S 8]) 5 [S 8]) 11 [S 1,S 0,S 8,b,d,e];gI e (yR (q (q T 17 [S 8]) 4 [S 8])) (bK (S 8) (I 1) λf=>yN (q (q T 18 [f]) 8 [f]))) (yE 0 (q S 9 [a]))
def pn:dE:=λc a b=>gQ a λd=>gL (io c) (q (q (cG 0 [a,b] ai.blank) 4 [I 0]) 6 [a,d,I 0]) λe S=>gX 0 e (yO [(I (-1),none)]) (gR e (yO [(S 4,none)]))
def t6{x0 x1 W r}(h:pn ba x0 x1 W=some r):OG 93 #[] [x0,x1] W r:=oM 19 h (by kernel_rfl)
def Cf:fI:=λc a=>aX a λb=>gB (uj (.func 120) #[] #[b]) λd=>yO [(d,none)]
def Ma{x0 W r}(h:Cf ba x0 W=some r):OG 94 #[] [x0] W r:=oM 4 h (by kernel_rfl)
def Dy:fI:=λc a=>aX a λb=>aN 12 b λd=>bV c 51 [d] λe=>cy e (I 0) λf=>gI f (yO [(I 0,none),(I 0,none),(e,none)]) (az 0 b λg=>aB g λh=>gB (ixA 13 1 (aqM 0) h) λi=>aB i λj=>gB (ahc j (I 4)) λk=>gB (Vf k (I 0)) λl=>gI l (az 3 b λm=>aB m λn=>yO [(n,none),(I (-1),none),(I 0,none)]) (gB (ahc j (I 64)) λm=>gB (Vf m (I 0)) λn=>gI n (az 7 b λo=>az 0 o λp=>aB p λr=>fe 43 3 r λs=>yO [(s,none),(I (-1),none),(I 0,none)]) (gB (ahc j (I 8)) λo=>gB (Vf o (I 0)) λp=>gI p (az 4 b λr=>aB r λs=>yO [(I (-1),none),(s,none),(I 0,none)]) (yO [(I (-1),none),(I (-1),none),(I 0,none)]))))
def HS{x0 W r}(h:Dy ba x0 W=some r):OG 98 #[] [x0] W r:=oM 38 h (by kernel_rfl)
def G8:dE:=λc a b=>aX a λd=>aG 177 λe=>aN 4 d λf=>bV c 30 [f] λg=>aq g 0 λh=>aq g 1 λi=>lZ i (I 0) λj=>gT j (dS b) λk=>gT j (zb1 k (I 0)) λl=>gT j (dS l) λm=>gF m (dS b) λn=>gF m (dS h) λo=>gF m (Jn n o) λp=>gT j (kH m (.bool true) p) λr=>aT j r (.bool false) λs=>gI s (cy (I 4) (I 0) λt=>gI t (aY 177 [] λu=>aA 3 e u λv=>yO [(e,some 177),(I 4,none)]) (aN 4 d λu=>bV c 62 [u] λv=>bH 3 v b λw=>aN 3 w λx=>aA 3 e x λy=>yO [(e,some 177),(I 0,none)])) (cy i (I 0) λt=>gI t (aY 177 [] λu=>aA 3 e u λv=>yO [(e,some 177),(i,none)]) (aN 4 d λu=>bV c 62 [u] λv=>bH 3 v b λw=>aN 3 w λx=>aA 3 e x λy=>yO [(e,some 177),(I 0,none)]))
def I7{x0 x1 W r}(h:G8 ba x0 x1 W=some r):OG 107 #[] [x0,x1] W r:=oM 33 h (by kernel_rfl)
def vz:cU:=λc S=>gB (ZV (S 0)) λa=>bQ (S 3) a λb=>let T:=q S 18 [S 3,S 0,a,b];gI b (gB (kL 9 (S 0) (S 3)) λd=>bV c 146 [d] λe=>eJ .not e λf=>gT f (dS (S 0)) λg=>gT f (dS (S 3)) λh=>gT f (kL 9 g h) λi=>gT f (zc c 147 [i]) λj=>gT f (Ny .not j) λk=>aT f k (.bool false) λl=>gT l (dS (S 0)) λm=>gT l (dS (S 3)) λn=>gT l (kL 9 m n) λo=>gT l (apn o (.int .u8 45)) λp=>aT l p (.bool false) λr=>let U:=q T 24 [S 0,S 3,d,e,f,f,g,h,i,j,k,l,l,m,n,o,p,r];gI r (yR (q U 2 [.bool false])) (bK (S 3) (I 1) λs=>yN (q (q U 22 [S 3,s]) 3 [s]))) (yE 0 T)
def JN:fI:=λc a=>gB (ZV a) λb=>nL b (I 1) λd=>gF d (dS a) λe=>gF d (ZV e) λf=>gF d (zb2 f (I 16)) λg=>aT d (.bool true) g λh=>gF h (dS a) λi=>gF h (kL 9 i (I 0)) λj=>gF h (zc c 146 [j]) λk=>gF h (Ny .not k) λl=>aT h (.bool true) l λm=>gI m (yO [(.bool false,none)]) (gL (vz c) (q (q (q (cG 0 [a] ai.blank) 2 [.bool false]) 4 [a,b,d,d,e,f,g,h,h,i,j,k,l,m]) 3 [I 0]) λn S=>gX 0 n (yO [(.bool true,none)]) (gR n (yO [(S 2,none)])))
def L8{x0 W r}(h:JN ba x0 W=some r):OG 115 #[] [x0] W r:=oM 42 h (by kernel_rfl)
def K0:fI:=λc a=>gB (abk a (Gk [])) λb=>gF b (dS a) λd=>gF b (ZV d) λe=>gF b (zb2 e (I 16)) λf=>aT b (.bool true) f λg=>gF g (dS a) λh=>gF g (kL 9 h (I 0)) λi=>gF g (aki i (.int .u8 97)) λj=>aT g (.bool true) j λk=>gF k (dS a) λl=>gF k (kL 9 l (I 0)) λm=>gF k (aoN m (.int .u8 122)) λn=>aT k (.bool true) n λo=>gI o (yO [(.bool false,none)]) (bV c 148 [a,Gk [97,98,99,100,101,102,103,104,105,106,107,108,109,110,111,112,113,114,115,116,117,118,119,120,121,122,48,49,50,51,52,53,54,55,56,57,45]] λp=>gB (abk p (Gk [])) λr=>yO [(r,none)])
def Mo{x0 W r}(h:K0 ba x0 W=some r):OG 116 #[] [x0] W r:=oM 23 h (by kernel_rfl)
def eC:dE:=λc a b=>bV c 149 [a,b] λd=>gB (O9 d (I 0)) λe=>yO [(e,none)]
def ir{x0 x1 W r}(h:eC ba x0 x1 W=some r):OG 117 #[] [x0,x1] W r:=oM 9 h (by kernel_rfl)
def BX:dE:=λc a b=>aX a λd=>az 0 d λe=>aB e λf=>az 0 b λg=>aB g λh=>gB (akP f h) λi=>yO [(i,none)]
def Fi{x0 x1 W r}(h:BX ba x0 x1 W=some r):OG 118 #[x1] [x0] W r:=oM 9 h (by kernel_rfl)
def BZ:fI:=λc a=>bV c 89 [a,I 1,I 64] λb=>yO [(b,none)]
def Gl{x0 W r}(h:BZ ba x0 W=some r):OG 119 #[] [x0] W r:=oM 5 h (by kernel_rfl)
def nA:cU:=λc S=>bQ (S 19) (S 18) λa=>gI a (bH 1 (S 17) (S 19) λb=>aB b λd=>aY 163 [(0,S 4),(1,S 19),(2,S 3),(3,d)] λe=>gB (c (S 0) [e]) λf=>eJ .not f λg=>let T:=q (q (q S 20 [a,S 19,b,d]) 6 [S 19,d]) 24 [S 0,S 4,S 19,S 3,d,e,f,g];gI g (yR T) (dP (S 3) d λh=>bK (S 19) (I 1) λi=>yN (q (q (q (q T 32 [S 3,d,h]) 3 [h]) 35 [i]) 19 [i]))) (yE 2 (q S 20 [a]))
def rE:cU:=λc S=>bQ (S 11) (S 10) λa=>gI a (bH 3 (S 9) (S 11) λb=>aN 3 b λd=>aG 63 λe=>aA 3 e d λf=>az 1 e λg=>aB g λh=>gQ h λi=>gL (nA c) (q (q (q (q S 12 [a,S 11,b,d]) 5 [e]) 4 [S 11]) 16 [g,h,i,I 0]) λj T=>gX 2 j (bK (T 11) (I 1) λk=>yN (q (q T 36 [k]) 11 [k])) (gR j (yR T))) (yE 0 (q S 12 [a]))
def xZ:dE:=λc a b=>az 3 b λd=>aB d λe=>gB (Lp e) λf=>gL (rE c) (q (q (cG 0 [a,b] ai.blank) 3 [I 0]) 8 [d,e,f,I 0]) λg S=>gX 0 g (yO []) (gR g (yO []))
def H6{x0 x1 W r}(h:xZ ba x0 x1 W=some r):OG 120 #[x1] [x0] W r:=oM 37 h (by kernel_rfl)
def GL:fI:=λc a=>gB (agn a (.int .u8 97)) λb=>gT b (dS a) λd=>gT b (ajV d (.int .u8 122)) λe=>aT b e (.bool false) λf=>yO [(f,none)]
def Lg{x0 W r}(h:GL ba x0 W=some r):OG 146 #[] [x0] W r:=oM 9 h (by kernel_rfl)
def GD:fI:=λc a=>gB (agn a (.int .u8 48)) λb=>gT b (dS a) λd=>gT b (ajV d (.int .u8 57)) λe=>aT b e (.bool false) λf=>yO [(f,none)]
def IZ{x0 W r}(h:GD ba x0 W=some r):OG 147 #[] [x0] W r:=oM 9 h (by kernel_rfl)
def DQ:dE:=λc a b=>gB (abk a (Gk [])) λd=>gF d (dS b) λe=>gF d (abk e (Gk [])) λf=>aT d (.bool true) f λg=>gI g (yO [(a,none)]) (gB (ZV b) λh=>bY h (I 1) λi=>gT i (dS b) λj=>gT i (kL 9 j (I 0)) λk=>gT i (aki k (.int .u8 128)) λl=>aT i l (.bool false) λm=>gI m (gB (kL 9 b (I 0)) λn=>gB (kL 9 b (I 0)) λo=>bV c 179 [a,n] λp=>bV c 178 [p,o] λr=>yO [(r,none)]) (bV c 180 [b] λn=>aq n 0 λo=>aq n 1 λp=>aG 232 λr=>aA 256 r o λs=>gI p (bV c 182 [a,r] λt=>bV c 181 [t,r] λu=>yO [(u,none)]) (bV c 184 [a,b] λt=>bV c 183 [t,b] λu=>yO [(u,none)])))
def Hz{x0 x1 W r}(h:DQ ba x0 x1 W=some r):OG 148 #[] [x0,x1] W r:=oM 43 h (by kernel_rfl)
def cW:cU:=λc S=>bQ (S 8) (S 7) λa=>gI a (bH 3 (S 0) (S 8) λb=>aN 3 b λd=>gB (c (S 1) [d]) λe=>let T:=q (q (q S 9 [a,S 8]) 5 [S 8]) 11 [S 1,S 0,S 8,b,d,e];gI e (yR (q (q T 17 [S 8]) 4 [S 8])) (bK (S 8) (I 1) λf=>yN (q (q T 18 [f]) 8 [f]))) (yE 0 (q S 9 [a]))
def fj:dE:=λc a b=>gB (Lp a) λd=>gL (cW c) (q (q (cG 0 [a,b] ai.blank) 4 [I 0]) 6 [a,d,I 0]) λe S=>gX 0 e (yO [(I (-1),none)]) (gR e (yO [(S 4,none)]))
def iY{x0 x1 W r}(h:fj ba x0 x1 W=some r):OG 149 #[] [x0,x1] W r:=oM 19 h (by kernel_rfl)
def jr:cU:=λc S=>gB (ZV (S 0)) λa=>bQ (S 4) a λb=>let T:=q S 6 [S 4,S 0,a,b];gI b (gB (kL 9 (S 0) (S 4)) λd=>gB (agn d (.int .u8 128)) λe=>let U:=q (q (q T 12 [S 0,S 4,d]) 5 [d]) 15 [d,e];gI e (aN 256 (S 2) λf=>aA 256 (S 2) f λg=>yR (q (q U 17 [f]) 3 [.bool false])) (gB (ixA 256 1 (S 2) d) λf=>aA 1 f (.bool true) λg=>bK (S 4) (I 1) λh=>yN (q (q (q U 18 [d,f]) 10 [S 4,h]) 4 [h]))) (yE 0 T)
def qM:fI:=λc a=>aG 232 λb=>gL (jr c) (q (cG 0 [a] ai.blank) 2 [b,.bool false,I 0]) λd S=>gX 0 d (aN 256 (S 2) λe=>aA 256 (S 2) e λf=>yO [(S 2,some 232),(.bool true,none)]) (gR d (yO [(S 2,some 232),(S 3,none)]))
def wz{x0 W r}(h:qM ba x0 W=some r):OG 180 #[] [x0] W r:=oM 21 h (by kernel_rfl)
def iN:cU:=λc S=>gB (ZV (S 0)) λa=>qI a (I 0) λb=>let T:=q S 5 [S 0,a,b];gI b (gB (kL 9 (S 0) (I 0)) λd=>bV c 204 [S 1,d] λe=>eJ .not e λf=>let U:=q T 8 [S 1,S 0,d,e,f];gI f (yE 0 U) (gB (oZ 9 (S 0) (some (I 1)) none none) λg=>yN (q (q U 13 [S 0,g]) 0 [g]))) (yE 0 T)
def pI:dE:=λc a b=>gL (iN c) (q (cG 0 [a,b] ai.blank) 4 [Gk []]) λd S=>gX 0 d (yO [(S 0,none)]) yZ
def vN{x0 x1 W r}(h:pI ba x0 x1 W=some r):OG 181 #[] [x0,x1] W r:=oM 16 h (by kernel_rfl)
def ij:cU:=λc S=>gB (ZV (S 0)) λa=>qI a (I 0) λb=>let T:=q S 5 [S 0,a,b];gI b (gB (ZV (S 0)) λd=>kw d (I 1) λe=>gB (kL 9 (S 0) e) λf=>bV c 204 [S 1,f] λg=>eJ .not g λh=>let U:=q T 8 [S 1,S 0,S 0,d,e,f,g,h];gI h (yE 0 U) (gB (ZV (S 0)) λi=>kw i (I 1) λj=>gB (oZ 9 (S 0) none (some j) none) λk=>yN (q (q U 16 [S 0,S 0,i,j,k]) 0 [k]))) (yE 0 T)
def pf:dE:=λc a b=>gL (ij c) (q (cG 0 [a,b] ai.blank) 4 [Gk []]) λd S=>gX 0 d (yO [(S 0,none)]) yZ
def uh{x0 x1 W r}(h:pf ba x0 x1 W=some r):OG 182 #[] [x0,x1] W r:=oM 22 h (by kernel_rfl)
def GF:dE:=λc a b=>aX a λd=>aG 177 λe=>aN 4 d λf=>bV c 215 [f,b] λg=>aq g 0 λh=>aq g 1 λi=>aG 163 λj=>aA 4 j h λk=>cy i (I 0) λl=>gI l (aY 177 [] λm=>aA 3 e m λn=>yO [(e,some 177),(i,none)]) (az 0 j λm=>aB m λn=>az 1 j λo=>aB o λp=>az 2 j λr=>aB r λs=>iP b s λt=>aY 177 [(0,n),(1,p),(2,t)] λu=>aA 3 e u λv=>yO [(e,some 177),(I 0,none)])
def Ku{x0 x1 W r}(h:GF ba x0 x1 W=some r):OG 200 #[] [x0,x1] W r:=oM 27 h (by kernel_rfl)
def mj:dE:=λc a b=>aD a λd=>gB (ixA 256 1 d b) λe=>aB e λf=>yO [(f,none)]
def rM{x0 x1 W r}(h:mj ba x0 x1 W=some r):OG 204 #[] [x0,x1] W r:=oM 10 h (by kernel_rfl)
def Eb:cU:=λc S=>aG 163 λa=>aA 4 a (S 20) λb=>yN (q S 9 [a])
def HD(call:Eng.Callee)(R:Nat->ad)(W:AW):ga Tryz.prog call false 37 (BF [1,1,0,1,0,0] (Fz 211)) LT R W nG=Eb call R W:=by kernel_rfl
def Du:cU:=λc S=>az 0 (S 9) λa=>aB a λb=>aB (S 3) λd=>gB (Ln b d) λe=>let T:=q S 21 [a,b,d,e];gI e (yN T) (aB (S 5) λf=>bY f (I 0) λg=>gI g (az 2 (S 9) λh=>aB h λi=>aA 1 (S 4) i λj=>aB (S 5) λk=>az 3 (S 9) λl=>aB l λm=>dP k m λn=>aA 1 (S 5) n λo=>yN (q T 25 [f,g,h,i,k,l,m,n])) (aB (S 5) λh=>az 3 (S 9) λi=>aB i λj=>dP h j λk=>aA 1 (S 5) k λl=>yN (q (q T 25 [f,g]) 29 [h,i,j,k])))
def H1(call:Eng.Callee)(R:Nat->ad)(W:AW):ga Tryz.prog call false 37 (BF [1,1,0,1,0,1] (Fz 211)) LT R W nG=Du call R W:=by kernel_rfl
def QF:dE:=λc a b=>aX a λd=>aX b λe=>aG 3 λf=>aG 3 λg=>aN 4 d λh=>bV c 50 [h] λi=>aq i 0 λj=>aq i 1 λk=>cy k (I 0) λl=>gI l (aA 1 f (I 0) λm=>aA 1 g (I 0) λn=>yO [(f,some 3),(g,some 3),(k,none)]) (aN 4 d λm=>bV c 94 [m] λn=>gB (ll c n (.loop .ready none (q (q (q (q (q (q (q (cG 0 [a,b] ai.blank) 2 [d,e,f,g,I 0]) 11 [h,i]) 10 [i]) 13 [j,k]) 7 [j,k]) 15 [k,l]) 18 [m,n]) 37 #[20] (BF [1,1,0,1,0,0] (Fz 211)) (BF [1,1,0,1,0,1] (Fz 211)))) λo=>gM o (aB g λp=>bY p (I 0) λr=>gI r (aA 1 f (I 0) λs=>aA 1 g (I 0) λt=>yO [(f,some 3),(g,some 3),(I 4,none)]) (aB f λs=>aB g λt=>aA 1 f s λu=>gA (λW=>kA true (bz g W) t&&true) (aA 1 g t λv=>yO [(f,some 3),(g,some 3),(I 0,none)]))) yZ)
def Ri{x0 x1 W r}(h:QF ba x0 x1 W=some r):OG 211 #[] [x0,x1] W r:=oM 37 h (by kernel_rfl)
def zQ:cU:=λc S=>aG 163 λa=>aA 4 a (S 20) λb=>yN (q S 8 [a])
def Eo(call:Eng.Callee)(R:Nat->ad)(W:AW):ga Tryz.prog call false 36 (BF [1,1,0,1,0,0] (Fz 215)) LT R W nG=zQ call R W:=by kernel_rfl
def zj:cU:=λc S=>aB (S 3) λa=>az 2 (S 8) λb=>aB b λd=>gB (Jn a d) λe=>gT e (bz (S 3)) λf=>gT e (jp 2 (S 8)) λg=>gT e (bz g) λh=>gT e (jp 3 (S 8)) λi=>gT e (bz i) λj=>gT e (amJ h j) λk=>gT e (Nc f k) λl=>aT e l (.bool false) λm=>let T:=q S 21 [a,b,d,e,e,f,g,h,i,j,k,l,m];gI m (aN 4 (S 8) λn=>aA 4 (S 4) n λo=>aA 1 (S 5) (I 0) λp=>yR (q T 34 [n])) (yN T)
def C9(call:Eng.Callee)(R:Nat->ad)(W:AW):ga Tryz.prog call false 36 (BF [1,1,0,1,0,1] (Fz 215)) LT R W nG=zj call R W:=by kernel_rfl
def KB:dE:=λc a b=>aX a λd=>aX b λe=>aG 163 λf=>aG 35 λg=>aN 4 d λh=>bV c 50 [h] λi=>aq i 0 λj=>aq i 1 λk=>cy k (I 0) λl=>gI l (aY 163 [] λm=>aA 4 f m λn=>aA 1 g k λo=>yO [(f,some 163),(g,some 35)]) (aN 4 d λm=>bV c 94 [m] λn=>gB (ll c n (.loop .ready none (q (q (q (q (q (q (q (cG 0 [a,b] ai.blank) 2 [d,e,f,g]) 10 [h,i]) 9 [i]) 12 [j,k]) 6 [j,k]) 14 [k,l]) 18 [m,n]) 36 #[20] (BF [1,1,0,1,0,0] (Fz 215)) (BF [1,1,0,1,0,1] (Fz 215)))) λo=>gM o (aY 163 [] λp=>aA 4 f p λr=>aA 1 g (I 4) λs=>yO [(f,some 163),(g,some 35)]) (gR o (yO [(f,some 163),(g,some 35)])))
def Mk{x0 x1 W r}(h:KB ba x0 x1 W=some r):OG 215 #[] [x0,x1] W r:=oM 36 h (by kernel_rfl)
def vC:cU:=λc S=>gB (zt7 (S 13)) λa=>bQ (S 14) a λb=>let T:=q S 25 [S 14,S 13,a,b];gI b (bH 3 (S 13) (S 14) λd=>az 0 d λe=>aB e λf=>gB (afO f (S 1)) λg=>gT g (dS (S 2)) λh=>gT g (zb7 h (I (-1))) λi=>gT g (dS i) λj=>gF j (dS (S 13)) λk=>gF j (dS (S 14)) λl=>gF j (pc 3 k l) λm=>gF j (jp 1 m) λn=>gF j (bz n) λo=>gF j (dS (S 2)) λp=>gF j (afO o p) λr=>gT g (kH j (.bool true) r) λs=>aT g s (.bool false) λt=>let U:=q T 31 [S 13,S 14,d,e,f,S 1,g,g,h,i,j,k,l,m,n,o,p,r,s,t];gI t (bY (S 12) (I 0) λu=>gI u (bK (S 12) (I 1) λv=>bK (S 14) (I 1) λw=>yN (q (q (q (q (q (q U 51 [S 12,u,S 14]) 11 [S 14]) 54 [S 12,v]) 12 [v]) 29 [S 14,w]) 14 [w])) (bK (S 12) (I 1) λv=>bK (S 14) (I 1) λw=>yN (q (q (q (q (q U 51 [S 12,u]) 54 [S 12,v]) 12 [v]) 29 [S 14,w]) 14 [w]))) (bK (S 14) (I 1) λu=>yN (q (q U 29 [S 14,u]) 14 [u]))) (yE 0 T)
def IS:pD:=λc a b d=>aX a λe=>aN 4 e λf=>bV c 48 [f] λg=>aq g 0 λh=>aq g 1 λi=>cy i (I 0) λj=>gI j (yO [(I 0,none),(I 0,none),(i,none)]) (aN 4 e λk=>bV c 62 [k] λl=>gL (vC c) (q (q (q (q (q (q (q (q (q (q (cG 0 [a,b,d] ai.blank) 3 [e]) 6 [I 0,I 0,I 0]) 16 [f,g]) 15 [g]) 18 [h,i]) 9 [h,i]) 20 [i,j]) 11 [I 0,I 0]) 23 [k,l]) 13 [l,I 0]) λm S=>gX 0 m (bY (S 12) (I 0) λn=>gI n (yO [(I 0,none),(I 0,none),(I 4,none)]) (yO [(S 11,none),(S 12,none),(I 0,none)])) yZ)
def Mt{x0 x1 x2 W r}(h:IS ba x0 x1 x2 W=some r):OG 216 #[] [x0,x1,x2] W r:=oM 60 h (by kernel_rfl)
def vM:((#[28]:Array af)[0]?).bind Tryz.prog.underlying=some (.slice 3):=by kernel_rfl
def ug:((#[22]:Array af)[0]?).bind Tryz.prog.underlying=some (.slice 63):=by kernel_rfl
def mA(n lo hi:Int):Bool:=decide (n<lo)||decide (hi<n)
def qz(n lo hi:Int)(W:AW):ba (.func (.func 89) #[] #[]) [.ae n,.ae lo,.ae hi] W=some (.bool (mA n lo hi),W):=by
 have h:pS ba (.ae n) (.ae lo) (.ae hi) W=some (.bool (mA n lo hi),W):=by unfold pS mA;by_cases h:n<lo<;>simp only[SX,h,AM,Bool.false_or]
 rw[BH h,Ii (.refl _)]
def ye(n lo hi:Int)(W:AW):ba (.func (.func 90) #[] #[]) [.ae n,.ae lo,.ae hi] W=some (.bool (mA n lo hi),W):=by
 have h:nz ba (.ae n) (.ae lo) (.ae hi) W=some (.bool (mA n lo hi),W):=by unfold nz mA;by_cases h:n<lo<;>simp only[SX,h,AM,Bool.false_or]
 rw[yJ h,Ii (.refl _)]
def inB(n lo hi:Int):Bool:=decide (lo<=n)&&decide (n<=hi)
def DV(n lo hi:Int):inB n lo hi= !mA n lo hi:=by unfold inB mA;rw[uJ];simp
def vV(n lo hi:Int)(W:AW):ba (.func (.func 87) #[] #[]) [.ae n,.ae lo,.ae hi] W=some (.bool (inB n lo hi),W):=by
 have h:xr ba (.ae n) (.ae lo) (.ae hi) W=some (.bool (inB n lo hi),W):=by unfold xr inB;by_cases h:lo<=n<;>simp only[SX,h,il,p8]
 rw[HE h,Ii (.refl _)]
def agy{a b:ad}{la lb:List Int}{W:AW}(ha:gG W a la)(hb:gG W b lb)(hl:la.length<900000):ba (.func (.func 61) #[] #[]) [a,b] W=some (.bool (decide (la=lb)),W):=by
 refine aP rfl ?_ Me;unfold Jk;simp only[SX,ha.len vM,hb.len vM];by_cases dv:la.length=lb.length
 ·have e:((la.length:Int)=(lb.length:Int)):=by omega
  simp only[SX,e];refine bh la.length (by omega) (λk R W'=>W'=W/\R 0=a/\R 1=b/\R 5=.ae (k:Int)/\la.take k=lb.take k)
   (λr=>r.2.2=W/\((r.1=.exit 0/\la=lb)\/(r.1=.ret/\r.2.1 4=.bool false/\la≠lb))) ⟨rfl,rfl,rfl,rfl,rfl⟩ ?_ ?_ ?_
  ·rintro k R W' hk ⟨rfl,h0,h1,h5,ht⟩;unfold vq;obtain⟨p,p1,p2⟩:=ha.get hk;obtain⟨q,q1,q2⟩:=hb.get (i:=k) (by omega);have e1:((k:Int)<(la.length:Int)):=by omega
   simp only[SX,h0,h1,h5,ha.len vM,e1,p1,p2 _ (.refl _),q1,q2 _ (.refl _)];by_cases hx:la[k]=lb[k]'(by omega)
   ·have e2:(k:Int)+1=((k+1:Nat):Int):=by omega
    simp only[SX,hx,kU (show -9223372036854775808<=(k:Int)+1 by omega) (show(k:Int)+1<9223372036854775808 by omega),ah];refine .inl ⟨ak,ak,h0,h1,by rw[<-e2];rfl,?_⟩;rw[jv hk,jv (by omega),ht,hx]
   ·simp only[SX,hx,ah];refine .inr ⟨by simp,ak,.inr ⟨ak,rfl,λe=>hx (by simp only[e])⟩⟩
  ·rintro R W' ⟨rfl,h0,h1,h5,ht⟩;unfold vq;have e1:¬((la.length:Int)<(la.length:Int)):=by omega
   simp only[SX,h0,h1,h5,ha.len vM,e1,ah];refine⟨by simp,ak,.inl ⟨ak,?_⟩⟩;rw[cM]at ht;rw[ht,dv,cM]
  ·rintro⟨x,R,W'⟩ ⟨hW,h⟩;simp only at hW h;subst hW;rcases h with⟨rfl,h⟩|⟨rfl,h4,h⟩
   ·simp only[SX,ah,h];exact⟨ak,.refl _⟩
   ·simp only[SX,ah,h4,h];exact⟨ak,.refl _⟩
 ·have e:¬((la.length:Int)=(lb.length:Int)):=by omega
  have e2:la≠lb:=λh=>dv (by rw[h])
  simp only[SX,e,e2,ah];exact⟨ak,.refl _⟩
def un9:Tryz.prog.underlying 9=some .string:=by kernel_rfl
def wE:((#[9]:Array af)[0]?).bind Tryz.prog.underlying=some .string:=by kernel_rfl
def nv(l:List UInt8):List ad:=(List.range 256).map λi=>.bool (l.any λc=>c.toNat==i)
def mR(l:List UInt8):(nv l).length=256:=by simp[nv]
def Li(l:List UInt8){i:Nat}(h:i<256):(nv l)[i]? =some (.bool (l.any λc=>c.toNat==i)):=by simp[nv,h]
def P8(l:List UInt8):(nv l).all Eng.one=true:=by unfold nv;rw[List.all_map,db];intro x _;rfl
def Ug(l:List UInt8):(bL (.tuple #[.agg (nv l).toArray,.bool true])&& !Za (.tuple #[.agg (nv l).toArray,.bool true]))=true:=by
 have h:eH (.agg (nv l).toArray)=true:=by show(nv l).toArray.toList.all cC=true;unfold nv;rw[H9,List.all_map,db];intro x _;rfl
 have h2:bL (.tuple #[.agg (nv l).toArray,.bool true])=true:=by show(eH (.agg (nv l).toArray)&&(eH (.bool true)&&true))=true;rw[h];rfl
 rw[h2];rfl
def adD(l:List UInt8)(c:UInt8):(nv l).set c.toNat (.bool true)=nv (l++[c]):=by
 apply oJ;intro i;by_cases hi:i<256
 ·rw[uM,Li _ hi,Li _ hi,mR];by_cases hc:c.toNat=i
  ·rw[an hc,kJ];simp[hc]
  ·rw[ap hc];have:(c.toNat==i)=false:=by simpa using hc
   simp[this]
 ·rw[kF (by rw[pO,mR];omega),kF (by rw[mR];omega)]
def aiS(W:AW):dm Tryz.prog 232 W=some (.pointer (some ⟨W.next,0,none⟩),W.add (.cells (nv []))):=aS (by kernel_rfl) rfl
def aq3(x:ad)(W:AW):jx Tryz.prog 232 x W=dJ 256 x W:=by kernel_rfl
def MZ{b:Nat}{l:List UInt8}{W:AW}(hb:aH W b=some (nv l))(c:UInt8):ba (.func (.func 204) #[] #[]) [.pointer (some ⟨b,0,none⟩),.int .u8 (c.toNat:Int)] W=some (.bool (l.any λx=>x==c),W):=by refine aP rfl ?_ rM;unfold mj;have hc:c.toNat<256:=c.toNat_lt;simp only[SX,aR,acH hc,Tf,hb,bJ,gK,aJ,Li l hc,dA,ah];refine⟨?_,.refl _⟩;congr 2;funext x;rw[uJ];simp[UInt8.toNat_inj]
def adr{l:List UInt8}(hl:l.length<1000)(ha:∀c∈l,c.toNat<128)(W:AW):ba (.func (.func 180) #[] #[]) [.string (bf l)] W=some (.tuple #[.agg (nv l).toArray,.bool true],W):=by
 refine aP (Ug l) ?_ wz;unfold qM;simp only[SX,aiS];refine bh l.length (by omega) (λk R W'=>R 0=.string (bf l)/\R 2=.pointer (some ⟨W.next,0,none⟩)/\R 4=.ae (k:Int)/\aU W' W.next=some (nv (l.take k))/\Le W W')
  (λr=>r.1=.exit 0/\r.2.1 2=.pointer (some ⟨W.next,0,none⟩)/\aU r.2.2 W.next=some (nv l)/\Le W r.2.2) ⟨rfl,rfl,rfl,df,(Le.refl _).add _⟩ ?_ ?_ ?_
 ·rintro k R W' hk ⟨h0,h2,h4,hb,aM⟩;unfold jr;have hc:l[k].toNat<128:=ha _ (cD hk);have e1:((k:Int)<(l.length:Int)):=by omega
  have e2:¬(128:Int)<=(l[k].toNat:Int):=by omega
  simp only[SX,h0,h2,h4,fX wE,e1,lQ un9 hk,e2,acH (show l[k].toNat<256 by omega),Ap,hb,bJ,gK,aJ,mR,show l[k].toNat<256 by omega,bi,adD,
   kU (show -9223372036854775808<=(k:Int)+1 by omega) (show(k:Int)+1<9223372036854775808 by omega),ah];have e2:(k:Int)+1=((k+1:Nat):Int):=by omega
  refine .inl ⟨ak,h0,h2,by rw[<-e2];rfl,?_,aM.put (aQ _) _⟩;rw[b8,<-AI hk]
 ·rintro R W' ⟨h0,h2,h4,hb,aM⟩;unfold jr;have e1:¬((l.length:Int)<(l.length:Int)):=by omega
  simp only[SX,h0,h2,h4,fX wE,e1,ah];rw[cM]at hb;exact⟨by simp,ak,h2,hb,aM⟩
 ·rintro⟨x,R,W'⟩ ⟨rfl,h2,hb,aM⟩;simp only at h2 hb aM;have h1:=ahn hb (P8 l);rw[mR]at h1;have h3:=xH (jX hb) (mR l);have h4:=xH (W:=W'.put W.next (.cells (nv l))) (uY _) (mR l);simp only[SX,h2,h3,h1,bC,aq3,h4,bJ,ah];exact⟨ak,aM.put (aQ _) _⟩
def Aq(p:UInt8->Bool)(l:List UInt8):List UInt8:=(l.reverse.dropWhile p).reverse
def Ed{p:UInt8->Bool}:∀{l:List UInt8} {k:Nat},(∀c∈l.take k,p c=true)->(l.drop k).dropWhile p=l.dropWhile p
 |l,0,_=>by simp
 |[],k+1,_=>by simp
 |c::l,k+1,h=>by have hc:p c=true:=h c (by simp);rw[List.drop_succ_cons,Is,an hc];exact Ed λd hd=>h d (by simp[hd])
abbrev Tw(S:List UInt8)(c:UInt8):Bool:=S.any λx=>x==c
def adM{b:Nat}{S l:List UInt8}{W:AW}(hb:aH W b=some (nv S))(hl:l.length<1000):ba (.func (.func 181) #[] #[]) [.string (bf l),.pointer (some ⟨b,0,none⟩)] W=some (.string (bf (l.dropWhile (Tw S))),W):=by
 refine aP rfl ?_ vN;unfold pI;simp only[SX];refine bh l.length (by omega) (λk R W'=>W'=W/\R 0=.string (bf (l.drop k))/\R 1=.pointer (some ⟨b,0,none⟩)/\∀c∈l.take k,Tw S c=true)
  (λr=>r.2.2=W/\r.1=.exit 0/\r.2.1 0=.string (bf (l.dropWhile (Tw S)))) ⟨rfl,rfl,rfl,by simp⟩ ?_ ?_ ?_
 ·rintro k R W' hk ⟨rfl,h0,h1,ha⟩;unfold iN;have hd:l.drop k=l[k]::l.drop (k+1):=rC hk;have e1:(0:Int)<((l.drop k).length:Int):=by rw[px];omega
  have e0:rS Tryz.prog 9 (.string (bf (l.drop k))) (.ae 0) W'=some (.int .u8 (l[k].toNat:Int),W'):=by have:=lQ (P:=Tryz.prog) (W:=W') (k:=.i64) un9 (l:=l.drop k) (i:=0) (by rw[px];omega);simpa using this
  have e3:ft Tryz.prog 9 (.string (bf (l.drop k))) (some (.ae 1)) none none W'=some (.string (bf (l.drop (k+1))),W'):=by have:=aba (P:=Tryz.prog) (W:=W') (k:=.i64) un9 (l:=l.drop k) (a:=1) (by rw[px];omega);rw[xu]at this;exact this
  simp only[SX,h0,h1,fX wE,e1,e0,MZ hb,e3];cases hp:Tw S l[k]
  ·simp only[SX,show(S.any λx=>x==l[k])=false from hp,ah];refine .inr ⟨by simp,ak,ak,?_⟩;show R 0=_;rw[h0,<-Ed ha,hd,Is,hp];rfl
  ·simp only[SX,show(S.any λx=>x==l[k])=true from hp,ah];refine .inl ⟨ak,ak,rfl,h1,?_⟩;rw[<-AI hk];intro c hc;rcases lH.1 hc with h|h
   ·exact ha c h
   ·rw[ko.1 h];exact hp
 ·rintro R W' ⟨rfl,h0,h1,ha⟩;unfold iN;rw[List.drop_length]at h0;have e1:¬(0:Int)<(([]:List UInt8).length:Int):=by simp
  simp only[SX,h0,h1,fX wE,e1,ah];refine⟨by simp,ak,ak,?_⟩;show R 0=_;rw[h0,<-Ed ha,List.drop_length];rfl
 ·rintro⟨x,R,W'⟩ ⟨hW,hx,h0⟩;simp only at hW hx h0;subst hW hx;simp only[SX,ah,h0];exact⟨ak,.refl _⟩
def Kw{p:UInt8->Bool}{l:List UInt8}{n:Nat}(h:∀c∈l.drop n,p c=true):Aq p (l.take n)=Aq p l:=by
 unfold Aq;have h2:l.reverse=(l.drop n).reverse++(l.take n).reverse:=by rw[<-List.reverse_append,vu]
 have h3:=Ed (p:=p) (l:=l.reverse) (k:=(l.drop n).reverse.length) (by rw[h2,xN];intro c hc;exact h c (List.mem_reverse.1 hc));rw[<-h3,h2,xx]
def adu{b:Nat}{S l:List UInt8}{W:AW}(hb:aH W b=some (nv S))(hl:l.length<1000):ba (.func (.func 182) #[] #[]) [.string (bf l),.pointer (some ⟨b,0,none⟩)] W=some (.string (bf (Aq (Tw S) l)),W):=by
 refine aP rfl ?_ uh;unfold pf;simp only[SX];refine bh l.length (by omega) (λk R W'=>W'=W/\R 0=.string (bf (l.take (l.length-k)))/\R 1=.pointer (some ⟨b,0,none⟩)/\∀c∈l.drop (l.length-k),Tw S c=true)
  (λr=>r.2.2=W/\r.1=.exit 0/\r.2.1 0=.string (bf (Aq (Tw S) l))) ⟨rfl,by simp;rfl,rfl,by simp⟩ ?_ ?_ ?_
 ·rintro k R W' hk ⟨rfl,h0,h1,ha⟩;unfold ij;obtain⟨m,hm⟩:∃m,l.length-k=m+1:=⟨l.length-k-1,by omega⟩;have hm2:l.length-(k+1)=m:=by omega
  have hml:m<l.length:=by omega
  rw[hm]at h0 ha;have dv:(l.take (m+1)).length=m+1:=by rw[cX];omega
  have e1:(0:Int)<(((m+1:Nat):Int)):=by omega
  have e2:((m+1:Nat):Int)-1=(m:Int):=by omega
  have e0:rS Tryz.prog 9 (.string (bf (l.take (m+1)))) (.ae (m:Int)) W'=some (.int .u8 (l[m].toNat:Int),W'):=by have:=lQ (P:=Tryz.prog) (W:=W') (k:=.i64) un9 (l:=l.take (m+1)) (i:=m) (by rw[cX];omega);simpa using this
  have e3:ft Tryz.prog 9 (.string (bf (l.take (m+1)))) none (some (.ae (m:Int))) none W'=some (.string (bf (l.take m)),W'):=by have:=akk (P:=Tryz.prog) (W:=W') (k:=.i64) un9 (l:=l.take (m+1)) (a:=m) (by rw[cX];omega);rw[List.take_take,pg (by omega)]at this;exact this
  have es:=Ao W' ((m+1:Nat):Int) 1;rw[e2]at es;simp only[SX,h0,h1,fX wE,dv,e1,es,e0,MZ hb,e3];cases hp:Tw S l[m]
  ·simp only[SX,show(S.any λx=>x==l[m])=false from hp,ah];refine .inr ⟨by simp,ak,ak,?_⟩;show R 0=_;rw[h0,<-Kw ha,<-AI hml];unfold Aq;rw[List.reverse_append,List.reverse_singleton,List.singleton_append,Is,hp];simp
  ·simp only[SX,show(S.any λx=>x==l[m])=true from hp,ah];refine .inl ⟨ak,ak,by rw[hm2];rfl,h1,?_⟩;rw[hm2,rC hml];intro c hc;rcases eI.1 hc with h|h
   ·rw[h];exact hp
   ·exact ha c h
 ·rintro R W' ⟨rfl,h0,h1,ha⟩;unfold ij;rw[sk,pd]at h0;rw[sk,jj]at ha;have e1:¬(0:Int)<(([]:List UInt8).length:Int):=by simp
  simp only[SX,h0,h1,fX wE,e1,ah];refine⟨by simp,ak,ak,?_⟩;show R 0=_;rw[h0,<-Kw (n:=0) (by simpa using ha)];rfl
 ·rintro⟨x,R,W'⟩ ⟨hW,hx,h0⟩;simp only at hW hx h0;subst hW hx;simp only[SX,ah,h0];exact⟨ak,.refl _⟩
def FF{p:UInt8->Bool}:∀{l:List UInt8},l.dropWhile p=[]<->∀c∈l,p c=true
 |[]=>by simp
 |c::l=>by
  rw[Is];cases hp:p c
  ·simp[hp]
  ·simp[hp,FF]
def ac0{p:UInt8->Bool}{l:List UInt8}:(((Aq p l).dropWhile p)==[])=l.all p:=by
 rw[uJ,uW,FF,db];unfold Aq;constructor
 ·intro h;have h2:l.reverse.dropWhile p=[]:=by
   cases hd:l.reverse.dropWhile p with
   |nil=>rfl
   |cons x xs=>have:=List.head_dropWhile_not (p:=p) (l:=l.reverse) (by rw[hd];simp);rw[hd]at h;have h3:=h x (by simp);simp only[hd,List.head_cons]at this;rw[h3]at this;cases this
  rw[FF]at h2;exactλc hc=>h2 c (List.mem_reverse.2 hc)
 ·intro h c hc;exact h c (by have:=List.mem_reverse.1 hc;have:=(List.dropWhile_sublist p).subset this;exact List.mem_reverse.1 this)
def Gc:List Nat:=[97,98,99,100,101,102,103,104,105,106,107,108,109,110,111,112,113,114,115,116,117,118,119,120,121,122,48,49,50,51,52,53,54,55,56,57,45]
def oT:List UInt8:=Gc.map UInt8.ofNat
def Zp:∀n,n<256->Tw oT (UInt8.ofNat n)=uX (UInt8.ofNat n):=by decide+kernel
def Sf(c:UInt8):Tw oT c=uX c:=by have:=Zp c.toNat c.toNat_lt;rwa [UInt8.ofNat_toNat]at this
def agQ{l:List UInt8}(hl:l.length<1000)(h0:l≠[])(W:AW):ba (.func (.func 148) #[] #[]) [.string (bf l),Gk Gc] W=some (.string (bf ((Aq (Tw oT) l).dropWhile (Tw oT))),W):=by
 refine aP rfl ?_ Hz;unfold DQ;have hs:=adr (l:=oT) (by decide) (by decide+kernel) W;have e1:(l==[])=false:=by simpa using h0
 have e2:(oT==[])=false:=by decide+kernel
 have e3:¬((oT.length:Int)=1):=by decide+kernel
 have hz:(nv []).length=256:=mR [];have t7:eZ 256 (.pointer (some ⟨W.next,0,none⟩)) (.agg (nv oT).toArray) (W.add (.cells (nv [])))=some (aj,(W.add (.cells (nv []))).put W.next (.cells (nv oT))):=by rw[Do,df];simp only[bJ,xR,mR,aJ,aQ,P8,mY,bi,iG,pd,jF];rw[xB (by simp[mR]),fu]
 have hc:aH ((W.add (.cells (nv []))).put W.next (.cells (nv oT))) W.next=some (nv oT):=uY _;have hr:=adu (l:=l) hc hl;have lA:(Aq (Tw oT) l).length<1000:=by have:=(List.dropWhile_sublist (Tw oT) (l:=l.reverse)).length_le;unfold Aq;rw[List.length_reverse];rw[List.length_reverse]at this;omega
 have hL:=adM hc lA;show Ok _ _;rw[CM];change ba (.func (.func 180) #[] #[]) [.string (bf (Gc.map UInt8.ofNat))] W=_ at hs;simp only[SX,CM,mS,uk,e1,fX wE];simp only[SX,show(Gc.map UInt8.ofNat==[])=false from e2,show¬(((Gc.map UInt8.ofNat).length:Int)=1)from e3,hs,aiS,t7,hr,hL,ah];exact⟨ak,((Le.refl _).add _).put (aQ _) _⟩
def xF(l:List UInt8)(W:AW):ba (.func (.func 116) #[] #[]) [.string (bf l)] W=some (.bool (ux l),W):=by
 refine aP rfl ?_ Mo;unfold K0;cases l with
 |nil=>simp only[SX,CM,mS,uk,BEq.rfl,ah];exact⟨rfl,.refl _⟩
 |cons c l=>
  have e1:(c::l==[])=false:=rfl;have e0:rS Tryz.prog 9 (.string (bf (c::l))) (.ae 0) W=some (.int .u8 (c.toNat:Int),W):=by have:=lQ (P:=Tryz.prog) (W:=W) (k:=.i64) un9 (l:=c::l) (i:=0) (by simp);simpa using this
  by_cases h1:(16:Int)<(((c::l).length:Nat):Int)
  ·simp only[SX,CM,mS,uk,e1,fX wE,h1,ah];refine⟨?_,.refl _⟩;have:decide ((c::l).length<=16)=false:=by simpa using(by omega:¬((c::l).length<=16))
   simp only[ux,this,Di,p8]
  ·have h16:decide ((c::l).length<=16)=true:=by simpa using(by omega:((c::l).length<=16))
   by_cases h2:(c.toNat:Int)<97
   ·simp only[SX,CM,mS,uk,e1,fX wE,h1,e0,h2,ah];refine⟨?_,.refl _⟩;have:decide (97<=c.toNat)=false:=by simpa using(by omega:¬(97<=c.toNat))
    simp only[ux,this,p8]
   ·by_cases h3:(122:Int)<(c.toNat:Int)
    ·simp only[SX,CM,mS,uk,e1,fX wE,h1,e0,h2,h3,ah];refine⟨?_,.refl _⟩;have:decide (c.toNat<=122)=false:=by simpa using(by omega:¬(c.toNat<=122))
     simp only[ux,this,Di,p8]
    ·have ht:=agQ (l:=c::l) (by omega) (by simp) W;have hv:(Gk [97,98,99,100,101,102,103,104,105,106,107,108,109,110,111,112,113,114,115,116,117,118,119,120,121,122,48,49,50,51,52,53,54,55,56,57,45])=Gk Gc:=rfl;rw[hv];simp only[SX,CM [],mS,uk,e1,fX wE,h1,e0,h2,h3,ht,ac0,ah];refine⟨?_,.refl _⟩;have i1:decide (97<=c.toNat)=true:=by simpa using(by omega:(97<=c.toNat))
     have i2:decide (c.toNat<=122)=true:=by simpa using(by omega:(c.toNat<=122))
     have i3:Tw oT=uX:=funext Sf;simp only[ux,i1,i2,i3,h16,il]
def Y6(c:UInt8):Bool:=decide (97<=c.toNat)&&decide (c.toNat<=122)
def ads(c:UInt8):Bool:=decide (48<=c.toNat)&&decide (c.toNat<=57)
def wB(c:UInt8)(W:AW):ba (.func (.func 146) #[] #[]) [.int .u8 (c.toNat:Int)] W=some (.bool (Y6 c),W):=by
 refine aP rfl ?_ Lg;unfold GL Y6;by_cases h:97<=c.toNat
 ·have h1:(97:Int)<=(c.toNat:Int):=by omega
  simp only[SX,h,h1,il,ah];exact⟨by congr 2;exact propext ⟨λ_=>by omega,λ_=>by omega⟩,.refl _⟩
 ·have h1:¬(97:Int)<=(c.toNat:Int):=by omega
  simp only[SX,h,h1,p8,ah];exact⟨ak,.refl _⟩
def Kb(c:UInt8)(W:AW):ba (.func (.func 147) #[] #[]) [.int .u8 (c.toNat:Int)] W=some (.bool (ads c),W):=by
 refine aP rfl ?_ IZ;unfold GD ads;by_cases h:48<=c.toNat
 ·have h1:(48:Int)<=(c.toNat:Int):=by omega
  simp only[SX,h,h1,il,ah];exact⟨by congr 2;exact propext ⟨λ_=>by omega,λ_=>by omega⟩,.refl _⟩
 ·have h1:¬(48:Int)<=(c.toNat:Int):=by omega
  simp only[SX,h,h1,p8,ah];exact⟨ak,.refl _⟩
def acL(c:UInt8):uX c=(Y6 c||ads c||decide ((c.toNat:Int)=45)):=by unfold uX Y6 ads;congr 1;rw[uJ,uW,decide_eq_true_iff];exact⟨λ_=>by omega,λ_=>by omega⟩
def TC(l:List UInt8)(W:AW):ba (.func (.func 115) #[] #[]) [.string (bf l)] W=some (.bool (ux l),W):=by
 refine aP rfl ?_ L8;unfold JN;cases l with
 |nil=>simp only[SX,fX wE,qB,show((0:Nat):Int)<1 by omega,ah];exact⟨rfl,.refl _⟩
 |cons c l=>
  have e1:¬(((c::l).length:Int)<1):=by rw[cQ];omega
  have e0:rS Tryz.prog 9 (.string (bf (c::l))) (.ae 0) W=some (.int .u8 (c.toNat:Int),W):=by have:=lQ (P:=Tryz.prog) (W:=W) (k:=.i64) un9 (l:=c::l) (i:=0) (by simp);simpa using this
  by_cases h1:(16:Int)<(((c::l).length:Nat):Int)
  ·simp only[SX,fX wE,e1,h1,ah];refine⟨?_,.refl _⟩;have:decide ((c::l).length<=16)=false:=by simpa using(by omega:¬((c::l).length<=16))
   simp only[ux,this,Di,p8]
  ·have h16:decide ((c::l).length<=16)=true:=by simpa using(by omega:((c::l).length<=16))
   cases afp:Y6 c
   ·simp only[SX,fX wE,e1,h1,e0,wB,afp,ah];refine⟨?_,.refl _⟩;have:(decide (97<=c.toNat)&&decide (c.toNat<=122))=false:=afp;simp only[ux,this,p8]
   ·simp only[SX,fX wE,e1,h1,e0,wB,afp];have hn:ux (c::l)=(c::l).all uX:=by have:(decide (97<=c.toNat)&&decide (c.toNat<=122))=true:=afp;simp only[ux,this,h16,il]
    rw[hn];generalize hL:c::l=L;rw[hL]at h1;refine bh L.length (by omega) (λk R W'=>W'=W/\R 0=.string (bf L)/\R 3=.ae (k:Int)/\(L.take k).all uX=true)
     (λr=>r.2.2=W/\((r.1=.exit 0/\L.all uX=true)\/(r.1=.ret/\r.2.1 2=.bool false/\L.all uX=false))) ⟨rfl,rfl,rfl,rfl⟩ ?_ ?_ ?_
    ·rintro k R W' hk ⟨rfl,h0,h3,ha⟩;unfold vz;have e1:((k:Int)<(L.length:Int)):=by omega
     have hx:=acL L[k];have yes:uX L[k]=true->(L.take (k+1)).all uX=true:=λh=>by rw[<-AI hk,List.all_append,ha];simpa using h
     have no:uX L[k]=false->L.all uX=false:=λh=>by rw[List.all_eq_false];exact⟨L[k],cD hk,by simp[h]⟩
     have e2:(k:Int)+1=((k+1:Nat):Int):=by omega
     have ea:=bm W' k 1;cases i1:Y6 L[k]
     ·cases i2:ads L[k]
      ·by_cases i3:(L[k].toNat:Int)=45
       ·simp only[SX,h0,h3,fX wE,e1,lQ un9 hk,wB,Kb,i1,i2,show decide ((L[k].toNat:Int)=45)=true from aK i3,ea,ah];refine .inl ⟨ak,ak,h0,by rw[<-e2];rfl,yes (by rw[hx,i1,i2];simp[i3])⟩
       ·simp only[SX,h0,h3,fX wE,e1,lQ un9 hk,wB,Kb,i1,i2,i3,ea,ah];refine .inr ⟨by simp,ak,.inr ⟨ak,rfl,no (by rw[hx,i1,i2];simp[i3])⟩⟩
      ·simp only[SX,h0,h3,fX wE,e1,lQ un9 hk,wB,Kb,i1,i2,ea,ah];refine .inl ⟨ak,ak,h0,by rw[<-e2];rfl,yes (by rw[hx,i1,i2];simp)⟩
     ·simp only[SX,h0,h3,fX wE,e1,lQ un9 hk,wB,i1,ea,ah];refine .inl ⟨ak,ak,h0,by rw[<-e2];rfl,yes (by rw[hx,i1];simp)⟩
    ·rintro R W' ⟨rfl,h0,h3,ha⟩;unfold vz;have e1:¬((L.length:Int)<(L.length:Int)):=by omega
     rw[cM]at ha;simp only[SX,h0,h3,fX wE,e1,ah];exact⟨by simp,ak,.inl ⟨ak,ha⟩⟩
    ·rintro⟨x,R,W'⟩ ⟨hW,h⟩;simp only at hW h;subst hW;rcases h with⟨rfl,h⟩|⟨rfl,h2,h⟩
     ·simp only[SX,ah,h];exact⟨ak,.refl _⟩
     ·simp only[SX,ah,h,h2];exact⟨ak,.refl _⟩
structure mV where
 name:List UInt8
 rows:List Int
 q:Int
structure fo where
 sh:Int
 cT:Int
 fm:Int
 ax:List mV
def aeB(W:AW)(cs:List ad)(p:Nat)(s:mV):Prop:=cs[p]? =some (.string (bf s.name))/\cs[p+2]? =some (.ae s.q)/\∃rv,cs[p+1]? =some rv/\gG W rv s.rows/\zG rv rv=true/\Eng.one rv=true
abbrev gZ(W:AW)(v:ad)(l:List mV):Prop:=Row W 3 (aeB W) v l
def Row.imp{α:Type}{W W':AW}{z:Nat}{f g:List ad->Nat->α->Prop}{v:ad}{l:List α}(h:Row W z f v l)(aM:Le W W')(hfg:∀cs p a,f cs p a->g cs p a):Row W' z g v l:=by
 obtain⟨a,c,rfl,k⟩:=h.mono aM;refine⟨a,c,rfl,?_⟩;rcases k with h|⟨b,o,cs,h1,h2,h3,h4⟩
 ·exact .inl h
 ·exact .inr ⟨b,o,cs,h1,h2,h3,λi hi=>hfg _ _ _ (h4 i hi)⟩
def gZ.mono{W W':AW}{v:ad}{l:List mV}(h:gZ W v l)(aM:Le W W'):gZ W' v l:=
 Row.imp h aM λcs p s ⟨h1,h2,rv,h3,h4,h5⟩=>⟨h1,h2,rv,h3,h4.mono aM,h5⟩
def adp{cs:List ad}{p:Nat}{a b c:ad}(h0:cs[p]? =some a)(h1:cs[p+1]? =some b)(h2:cs[p+2]? =some c):(cs.drop p).take 3=[a,b,c]:=by obtain⟨i0,e0⟩:=dh.1 h0;obtain⟨i1,e1⟩:=dh.1 h1;obtain⟨i2,e2⟩:=dh.1 h2;rw[rC i0,rC i1,rC i2,e0,e1,e2];rfl
abbrev KN(s:mV)(rv:ad):ad:=.agg #[.string (bf s.name),rv,.ae s.q]
def gZ.get{W:AW}{v:ad}{l:List mV}(h:gZ W v l){i:Nat}(hi:i<l.length):∃b o rv,(∀W' k,pc 3 v (.int k (i:Int)) W'=some (.pointer (some ⟨b,o,none⟩),W'))/\gG W rv l[i].rows/\
 (∀W',Le W W'->dJ 3 (.pointer (some ⟨b,o,none⟩)) W'=some (KN l[i] rv,W'))/\(∀W',Le W W'->bz (.pointer (some ⟨b,o,none⟩)) W'=some (.string (bf l[i].name),W'))/\
 (∀W',Le W W'->bz (.pointer (some ⟨b,o+1,none⟩)) W'=some (rv,W'))/\(∀W',Le W W'->bz (.pointer (some ⟨b,o+2,none⟩)) W'=some (.ae l[i].q,W')):=by
 obtain⟨b,o,cs,h1,h2,h3,h4,h5,rv,h6,h7,-⟩:=h.elem hi;refine⟨b,o,rv,h1,h7,λW' aM=>?_,λW' aM=>aO (by rw[aM.aH h2];exact h3) h4,λW' aM=>aO (by rw[aM.aH h2];exact h3) h6,λW' aM=>aO (by rw[aM.aH h2];exact h3) h5⟩;rw[JV,aM.aH h2,h3];simp only[bJ,adp h4 h6 h5,cQ,qB,bi]
def xL(s:mV)(rH:List mV):Int:=
 if ux s.name=false then 6 else if(rH.any λx=>x.name==s.name)=true then 8 else if s.rows.length=0 then 6 else if 16<s.rows.length then 3 else
 if(s.rows.any λn=>mA n 1 64)=true then 7 else if mA s.q 0 64=true then 7 else 0
def oR(l:List mV):Nat->Option (Nat×Int)
 |0=>none
 |k+1=>match oR l k with
  |some r=>some r
  |none=>match l[k]? with
   |some s=>if xL s (l.take k)=0 then none else some (k,xL s (l.take k))
   |none=>none
def sH{l:List mV}{k n:Nat}{r:Nat×Int}(h:oR l k=some r)(hn:k<=n):oR l n=some r:=by
 induction n with
 |zero=>obtain rfl:k=0:=by omega
        exact h
 |succ n ih=>
  by_cases hk:k=n+1
  ·rw[<-hk];exact h
  ·show(match oR l n with|some r=>some r|none=>_)=_;rw[ih (by omega)]
def ii(l:List Int):Int:=l.foldr (· + ·) 0
def SE(l:List Int)(n:Int):ii (l++[n])=ii l+n:=by
 induction l with
 |nil=>simp[ii]
 |cons a l ih=>simp only[ii,oG,List.foldr_cons]at ih|-;omega
def bE(l:List mV):Int:=ii (l.map λs=>ii s.rows)
def DY(v:fo):Bool:=mA v.sh 1 16||mA v.cT 1 1000000000||mA v.fm 1 1000000000
def du(v:fo):Int×Int:=
 if DY v=true then(-1,7)else if v.ax.length=0 then(-1,6)else if 8<v.ax.length then(-1,3)else
 match oR v.ax v.ax.length with
 |some (i,e)=>((i:Int),e)
 |none=>if 4096<bE v.ax then(-1,3)else(0,0)
abbrev eQ(v:fo)(sv:ad):ad:=.agg #[.ae v.sh,.ae v.cT,.ae v.fm,sv]
def eW(W:AW)(sv:ad)(l:List mV):Prop:=gZ W sv l/\(∃a c,sv=.slice a l.length c/\((l.length<=c/\c<eG)\/c=eG+3)/\(l≠[]->∃b o,a=some ⟨b,o,none⟩))
def eW.mono{W W':AW}{v:ad}{l:List mV}(h:eW W v l)(aM:Le W W'):eW W' v l:=⟨h.1.mono aM,h.2⟩
def Row.take{α:Type}{W:AW}{z:Nat}{f:List ad->Nat->α->Prop}{b o c:Nat}{l:List α}(h:Row W z f (.slice (some ⟨b,o,none⟩) l.length c) l){k:Nat}(hk:k<=l.length)(h0:l≠[]):Row W z f (.slice (some ⟨b,o,none⟩) k c) (l.take k):=by
 obtain⟨a,c',he,h⟩:=h;injection he with e1 e2 e3;subst e1 e3;refine⟨_,c,by rw[cX,pg hk],?_⟩;rcases h with h|⟨b',o',cs,h1,h2,h3,h4⟩
 ·exact absurd h h0
 ·refine .inr ⟨b',o',cs,h1,h2,h3,λi hi=>?_⟩;rw[List.getElem_take];exact h4 i (by rw[cX]at hi;omega)
def apR:rB Tryz.prog 22=some 3:=by kernel_rfl
def eW.pre{W:AW}{sv:ad}{l:List mV}(h:eW W sv l){k:Nat}(hk:k<l.length):∃u,(∀W',ft Tryz.prog 22 sv none (some (.ae (k:Int))) none W'=some (u,W'))/\gZ W u (l.take k):=by
 obtain⟨h1,a,c,rfl,h2,h4⟩:=h;have h0:l≠[]:=by intro e;rw[e]at hk;simp at hk
 obtain⟨b,o,rfl⟩:=h4 h0;rcases h2 with⟨h2,h3⟩|rfl
 ·exact⟨_,λW'=>E6 apR (by omega) h3,Row.take h1 (by omega) h0⟩
 ·exact⟨_,λW'=>Ld apR (by omega) (Nat.le_of_lt hk),Row.take h1 (by omega) h0⟩
def amz(W:AW):dm Tryz.prog 63 W=some (.pointer (some ⟨W.next,0,none⟩),W.add (.cells [.string (bf []),.slice none 0 0,.ae 0])):=aS (by kernel_rfl) rfl
def nl{α:Type}(p:α->Bool)(l:List α):Int:=match l.findIdx? p with
 |some i=>(i:Int)
 |none=> -1
def ws{α:Type}{p:α->Bool}{l:List α}{k:Nat}(hk:k<l.length)(h1:p l[k]=true)(h2:(l.take k).any p=false):nl p l=(k:Int):=by
 have:l.findIdx? p=some k:=by rw[List.findIdx?_eq_some_iff_getElem];refine⟨hk,h1,λj hj=>?_⟩;rw[IJ]at h2;exact h2 _ (by rw[Ay];exact⟨j,by omega,rfl⟩)
 unfold nl;rw[this]
def wC{α:Type}{p:α->Bool}{l:List α}(h:l.any p=false):nl p l= -1:=by
 have:l.findIdx? p=none:=by rw[List.findIdx?_eq_none_iff];intro x hx;rw[IJ]at h;simpa using h x hx
 unfold nl;rw[this]
def rm{α:Type}{p:α->Bool}{l:List α}{k:Nat}(hk:k<l.length)(h1:p l[k]=false)(h2:(l.take k).any p=false):(l.take (k+1)).any p=false:=by rw[<-AI hk,List.any_append,h2];simpa using h1
def any_some{α:Type}{p:α->Bool}{l:List α}{k:Nat}(hk:k<l.length)(h1:p l[k]=true):l.any p=true:=by rw[xk];exact⟨_,cD hk,h1⟩
def zm{α:Type}{p:α->Bool}{l:List α}:decide (0<=nl p l)=l.any p:=by
 unfold nl;cases h:l.findIdx? p with
 |none=>
  rw[List.findIdx?_eq_none_iff]at h;have:l.any p=false:=by rw[IJ];intro x hx;simpa using h x hx
  rw[this];rfl
 |some i=>rw[List.findIdx?_eq_some_iff_getElem]at h;obtain⟨h1,h2,h3⟩:=h;rw[any_some h1 h2];simp
def Zg{f v:ad}{p:mV->Bool}{l:List mV}{W:AW}(h:gZ W v l)(hl:l.length<1000)(hp:∀s rv,ba f [KN s rv] W=some (.bool (p s),W)):ba (.func (.func 149) #[] #[]) [v,f] W=some (.ae (nl p l),W):=by
 refine aP rfl ?_ iY;unfold fj;simp only[SX,h.len ug];refine bh l.length (by omega) (λk R W'=>W'=W/\R 0=v/\R 1=f/\R 7=.ae (l.length:Int)/\R 8=.ae (k:Int)/\(l.take k).any p=false)
  (λr=>r.2.2=W/\((r.1=.exit 0/\nl p l= -1)\/(r.1=.ret/\r.2.1 4=.ae (nl p l)))) ⟨rfl,rfl,rfl,rfl,rfl,rfl⟩ ?_ ?_ ?_
 ·rintro k R W' hk ⟨rfl,h0,h1,h7,h8,ha⟩;unfold cW;obtain⟨b,o,rv,g1,g2,g3,_⟩:=h.get hk;have e1:((k:Int)<(l.length:Int)):=by omega
  have e2:(k:Int)+1=((k+1:Nat):Int):=by omega
  have ea:=bm W' k 1;simp only[SX,h0,h1,h7,h8,e1,g1,g3 _ (.refl _),hp];cases hx:p l[k]
  ·simp only[SX,ea,ah];exact .inl ⟨ak,ak,h0,h1,h7,by rw[<-e2];rfl,rm hk hx ha⟩
  ·simp only[SX,ah];exact .inr ⟨by simp,ak,.inr ⟨ak,by rw[ws hk hx ha];rfl⟩⟩
 ·rintro R W' ⟨rfl,h0,h1,h7,h8,ha⟩;unfold cW;have e1:¬((l.length:Int)<(l.length:Int)):=by omega
  rw[cM]at ha;simp only[SX,h7,h8,e1,ah];exact⟨by simp,ak,.inl ⟨ak,wC ha⟩⟩
 ·rintro⟨x,R,W'⟩ ⟨hW,hq⟩;simp only at hW hq;subst hW;rcases hq with⟨rfl,hq⟩|⟨rfl,h4⟩
  ·simp only[SX,ah,hq];exact⟨ak,.refl _⟩
  ·simp only[SX,ah,h4];exact⟨ak,.refl _⟩
def Yj{f v:ad}{p:Int->Bool}{l:List Int}{W:AW}(h:gG W v l)(hl:l.length<1000)(hp:∀n∈l,ba f [.ae n] W=some (.bool (p n),W)):ba (.func (.func 93) #[] #[]) [v,f] W=some (.ae (nl p l),W):=by
 refine aP rfl ?_ t6;unfold pn;simp only[SX,h.len vM];refine bh l.length (by omega) (λk R W'=>W'=W/\R 0=v/\R 1=f/\R 7=.ae (l.length:Int)/\R 8=.ae (k:Int)/\(l.take k).any p=false)
  (λr=>r.2.2=W/\((r.1=.exit 0/\nl p l= -1)\/(r.1=.ret/\r.2.1 4=.ae (nl p l)))) ⟨rfl,rfl,rfl,rfl,rfl,rfl⟩ ?_ ?_ ?_
 ·rintro k R W' hk ⟨rfl,h0,h1,h7,h8,ha⟩;unfold io;obtain⟨q,g1,g2⟩:=h.get hk;have e1:((k:Int)<(l.length:Int)):=by omega
  have e2:(k:Int)+1=((k+1:Nat):Int):=by omega
  have ea:=bm W' k 1;simp only[SX,h0,h1,h7,h8,e1,g1,g2 _ (.refl _),hp _ (cD hk)];cases hx:p l[k]
  ·simp only[SX,ea,ah];exact .inl ⟨ak,ak,h0,h1,h7,by rw[<-e2];rfl,rm hk hx ha⟩
  ·simp only[SX,ah];exact .inr ⟨by simp,ak,.inr ⟨ak,by rw[ws hk hx ha];rfl⟩⟩
 ·rintro R W' ⟨rfl,h0,h1,h7,h8,ha⟩;unfold io;have e1:¬((l.length:Int)<(l.length:Int)):=by omega
  rw[cM]at ha;simp only[SX,h7,h8,e1,ah];exact⟨by simp,ak,.inl ⟨ak,wC ha⟩⟩
 ·rintro⟨x,R,W'⟩ ⟨hW,hq⟩;simp only at hW hq;subst hW;rcases hq with⟨rfl,hq⟩|⟨rfl,h4⟩
  ·simp only[SX,ah,hq];exact⟨ak,.refl _⟩
  ·simp only[SX,ah,h4];exact⟨ak,.refl _⟩
def X2{f v:ad}{p:mV->Bool}{l:List mV}{W:AW}(h:gZ W v l)(hl:l.length<1000)(hp:∀s rv,ba f [KN s rv] W=some (.bool (p s),W)):ba (.func (.func 117) #[] #[]) [v,f] W=some (.bool (l.any p),W):=by refine aP rfl ?_ ir;unfold eC;simp only[SX,Zg h hl hp,zm,ah];exact⟨ak,.refl _⟩
def MC{f v:ad}{p:Int->Bool}{l:List Int}{W:AW}(h:gG W v l)(hl:l.length<1000)(hp:∀n∈l,ba f [.ae n] W=some (.bool (p n),W)):ba (.func (.func 54) #[] #[]) [v,f] W=some (.bool (l.any p),W):=by refine aP rfl ?_ rQ;unfold mi;simp only[SX,Yj h hl hp,zm,ah];exact⟨ak,.refl _⟩
def X8(n:Int)(W:AW):ba (.func (.func 119) #[] #[]) [.ae n] W=some (.bool (mA n 1 64),W):=by refine aP rfl ?_ Gl;unfold BZ;simp only[SX,qz,ah];exact⟨ak,.refl _⟩
def axE(a b c:ad)(W:AW):pP (.agg #[a,b,c]) W=some (.pointer (some ⟨W.next,0,none⟩),W.add (.cells [a,b,c])):=iB _
def Qn{c:Nat}{m:List UInt8}{W:AW}(hc:∀W',Le W W'->bz (.pointer (some ⟨c,0,none⟩)) W'=some (.string (bf m),W'))(s:mV)(rv:ad):
 ba (.func (.func 118) #[] #[.pointer (some ⟨c,0,none⟩)]) [KN s rv] W=some (.bool (s.name==m),W):=by
 refine aP rfl ?_ Fi;unfold BX;have h0:=hc _ ((Le.refl W).add (.cells [.string (bf s.name),rv,.ae s.q]));have h1:bz (.pointer (some ⟨W.next,0,none⟩)) (W.add (.cells [.string (bf s.name),rv,.ae s.q]))=some (.string (bf s.name),W.add (.cells [.string (bf s.name),rv,.ae s.q])):=aO bF rfl;simp only[SX,h0,h1,aJ,uk,ah];exact⟨ak,(Le.refl _).add _⟩
def YW{s:mV}{rv bv:ad}{rH:List mV}{W:AW}(hs:gG W rv s.rows)(hb:gZ W bv rH)(hl:rH.length<1000):ba (.func (.func 91) #[] #[]) [KN s rv,bv] W=some (.ae (xL s rH),W):=by
 refine aP rfl ?_ JW;unfold Gy;have aM:Le W (W.add (.cells [.string (bf s.name),rv,.ae s.q])):=(Le.refl W).add _;simp only[SX,aJ];generalize hW1:W.add (.cells [.string (bf s.name),rv,.ae s.q])=W1 at *;have sW:aH W1 W.next=some [.string (bf s.name),rv,.ae s.q]:=by rw[<-hW1];exact bF
 have hn:W.next<W1.next:=by rw[<-hW1,AW.av];omega
 have h0:∀W',Le W1 W'->bz (.pointer (some ⟨W.next,0,none⟩)) W'=some (.string (bf s.name),W'):=λW' k=>aO (by rw[k.aH hn];exact sW) rfl
 have h1:bz (.pointer (some ⟨W.next,1,none⟩)) W1=some (rv,W1):=aO sW rfl;have h2:bz (.pointer (some ⟨W.next,2,none⟩)) W1=some (.ae s.q,W1):=aO sW rfl;have hf:=X2 (W:=W1) (hb.mono aM) hl (p:=λx=>x.name==s.name) (λx rv=>Qn h0 x rv);unfold xL;cases n1:ux s.name
 ·simp only[SX,h0 _ (.refl _),xF,n1,bi,ah];exact⟨ak,aM⟩
 ·cases n2:rH.any λx=>x.name==s.name
  ·by_cases n3:s.rows.length=0
   ·have e:((s.rows.length:Int)=0):=by omega
    simp only[SX,h0 _ (.refl _),xF,n1,hf,n2,h1,(hs.mono aM).len vM,e,an n3,cn,vO,ik,ah];exact⟨ak,aM⟩
   ·have e:¬((s.rows.length:Int)=0):=by omega
    by_cases n4:16<s.rows.length
    ·have e2:((16:Int)<(s.rows.length:Int)):=by omega
     simp only[SX,h0 _ (.refl _),xF,n1,hf,n2,h1,(hs.mono aM).len vM,e,n3,e2,n4,bi,cn,vO,ik,ah];exact⟨ak,aM⟩
    ·have e2:¬((16:Int)<(s.rows.length:Int)):=by omega
     have hg:=MC (W:=W1) (hs.mono aM) (by omega) (p:=λn=>mA n 1 64) (λn _=>X8 n W1);cases n5:s.rows.any λn=>mA n 1 64
     ·cases n6:mA s.q 0 64
      ·simp only[SX,h0 _ (.refl _),xF,n1,hf,n2,h1,(hs.mono aM).len vM,e,n3,e2,n4,hg,n5,h2,qz,n6,cn,vO,ik,ah];exact⟨ak,aM⟩
      ·simp only[SX,h0 _ (.refl _),xF,n1,hf,n2,h1,(hs.mono aM).len vM,e,n3,e2,n4,hg,n5,h2,qz,n6,bi,cn,vO,ik,ah];exact⟨ak,aM⟩
     ·simp only[SX,h0 _ (.refl _),xF,n1,hf,n2,h1,(hs.mono aM).len vM,e,n3,e2,n4,hg,n5,bi,cn,vO,ik,ah];exact⟨ak,aM⟩
  ·simp only[SX,h0 _ (.refl _),xF,n1,hf,n2,bi,cn,vO,ah];exact⟨ak,aM⟩
def aoh(a b c d:ad)(W:AW):pP (.agg #[a,b,c,d]) W=some (.pointer (some ⟨W.next,0,none⟩),W.add (.cells [a,b,c,d])):=iB _
def iK(W:AW)(cs ds:List ad):(W.add (.cells cs)).put W.next (.cells ds)=W.add (.cells ds):=i8 W _ _
def ahp{b:Nat}{a c d x y z:ad}{W:AW}(h:aU W b=some [x,y,z])(h1:Eng.one a=true)(h2:Eng.one c=true)(h3:Eng.one d=true):eZ 3 (.pointer (some ⟨b,0,none⟩)) (.agg #[a,c,d]) W=some (aj,W.put b (.cells [a,c,d])):=by
 rw[Do,h];have e:(#[a,c,d]:Array ad).toList.all Eng.one=true:=by simp[h1,h2,h3]
 simp only[bJ,e,and_true];rfl
def Row.one{α:Type}{W:AW}{z:Nat}{f:List ad->Nat->α->Prop}{v:ad}{l:List α}(h:Row W z f v l):Eng.one v=true:=by obtain⟨a,c,rfl,_⟩:=h;rfl
def Tb{v:fo}{sv:ad}{W:AW}(hs:gZ W sv v.ax)(hv:v.ax.length<1000){i:Nat}(hi:i<v.ax.length)(hr:v.ax[i].rows.length<1000):ba (.func (.func 88) #[] #[]) [eQ v sv,.ae (i:Int)] W=some (.ae (xL v.ax[i] (v.ax.take i)),W):=by
 refine aP rfl ?_ Gj;unfold BO;have aM:Le W (W.add (.cells [.ae v.sh,.ae v.cT,.ae v.fm,sv])):=(Le.refl W).add _;obtain⟨b,o,rv,g1,g2,g3,_⟩:=hs.get hi;have c3:bz (.pointer (some ⟨W.next,3,none⟩)) (W.add (.cells [.ae v.sh,.ae v.cT,.ae v.fm,sv]))=some (sv,W.add (.cells [.ae v.sh,.ae v.cT,.ae v.fm,sv])):=aO bF rfl;simp only[SX,aJ,c3,g1,g3 _ aM,amz,ahp df (qc _) (Row.one g2) (cF _ _),iK];generalize hW1:W.add (.cells [.ae v.sh,.ae v.cT,.ae v.fm,sv])=W1 at *;have hZ:Le W (W1.add (.cells [.string (bf v.ax[i].name),rv,.ae v.ax[i].q])):=aM.add _;have CU:aH (W1.add (.cells [.string (bf v.ax[i].name),rv,.ae v.ax[i].q])) W.next=some [.ae v.sh,.ae v.cT,.ae v.fm,sv]:=by rw[Ha _ (by rw[<-hW1,AW.av];omega),<-hW1];exact bF
 have lF:aH (W1.add (.cells [.string (bf v.ax[i].name),rv,.ae v.ax[i].q])) W1.next=some [.string (bf v.ax[i].name),rv,.ae v.ax[i].q]:=bF;generalize hW2:W1.add (.cells [.string (bf v.ax[i].name),rv,.ae v.ax[i].q])=W2 at *;have d0:bz (.pointer (some ⟨W1.next,0,none⟩)) W2=some (.string (bf v.ax[i].name),W2):=aO lF rfl;have d1:bz (.pointer (some ⟨W1.next,1,none⟩)) W2=some (rv,W2):=aO lF rfl;have d2:bz (.pointer (some ⟨W1.next,2,none⟩)) W2=some (.ae v.ax[i].q,W2):=aO lF rfl;have c3:bz (.pointer (some ⟨W.next,3,none⟩)) W2=some (sv,W2):=aO CU rfl;have hlr:=(g2.mono hZ).len (P:=Tryz.prog) vM;simp only[SX,d0,TC];generalize CP:v.ax[i]=s at *;unfold xL;cases n1:ux s.name
 ·simp only[SX,bi,ah];exact⟨ak,hZ⟩
 ·simp only[SX];refine bh i (by omega) (λk R W'=>W'=W2/\R 1=.ae (i:Int)/\R 2=.pointer (some ⟨W.next,0,none⟩)/\R 5=.pointer (some ⟨W1.next,0,none⟩)/\R 6=.ae (k:Int)/\((v.ax.take i).take k).any (λx=>x.name==s.name)=false)
   (λr=>r.2.2=W2/\((r.1=.exit 0/\r.2.1 5=.pointer (some ⟨W1.next,0,none⟩)/\(v.ax.take i).any (λx=>x.name==s.name)=false)\/(r.1=.ret/\r.2.1 4=.ae 8/\(v.ax.take i).any (λx=>x.name==s.name)=true))) ⟨rfl,rfl,rfl,rfl,rfl,rfl⟩ ?_ ?_ ?_
  ·rintro k R W' hk ⟨rfl,h1,h2,h5,h6,ha⟩;unfold qh;have Xq:k<v.ax.length:=by omega
   have hk3:k<(v.ax.take i).length:=by rw[cX];omega
   have ZJ:(v.ax.take i)[k]=v.ax[k]:=List.getElem_take;obtain⟨b',o',rv',f1,f2,f3,f4,_⟩:=hs.get Xq;have e1:((k:Int)<(i:Int)):=by omega
   have e2:(k:Int)+1=((k+1:Nat):Int):=by omega
   have ea:=bm W' k 1;simp only[SX,h1,h2,h5,h6,e1,aJ,c3,f1,gv,f4 _ hZ,d0,uk];cases hx:v.ax[k].name==s.name
   ·simp only[SX,ea,ah];exact .inl ⟨ak,ak,h1,h2,h5,by rw[<-e2];rfl,rm hk3 (by rw[ZJ];exact hx) ha⟩
   ·simp only[SX,ah];exact .inr ⟨by simp,ak,.inr ⟨ak,rfl,any_some hk3 (by rw[ZJ];exact hx)⟩⟩
  ·rintro R W' ⟨rfl,h1,h2,h5,h6,ha⟩;unfold qh;have e1:¬((i:Int)<(i:Int)):=by omega
   rw[oz (by rw[cX];omega)]at ha;simp only[SX,h1,h6,e1,ah];exact⟨by simp,ak,.inl ⟨ak,h5,ha⟩⟩
  ·rintro⟨x,R,W'⟩ ⟨hW,hq⟩;simp only at hW hq;subst hW;rcases hq with⟨rfl,h5,hq⟩|⟨rfl,h4,hq⟩
   ·by_cases n3:s.rows.length=0
    ·have e:((s.rows.length:Int)=0):=by omega
     simp only[SX,h5,aJ,d1,hlr,e,hq,an n3,cn,vO,ik,ah];exact⟨ak,hZ⟩
    ·have e:¬((s.rows.length:Int)=0):=by omega
     by_cases n4:16<s.rows.length
     ·have e2:((16:Int)<(s.rows.length:Int)):=by omega
      simp only[SX,h5,aJ,d1,hlr,e,e2,hq,ap n3,an n4,cn,vO,ik,ah];exact⟨ak,hZ⟩
     ·have e2:¬((16:Int)<(s.rows.length:Int)):=by omega
      simp only[SX,h5,aJ,d1,hlr,e,e2,hq,ap n3,ap n4,cn,vO,ik];refine bh s.rows.length (by omega) (λk R W3=>W3=W'/\R 5=.pointer (some ⟨W1.next,0,none⟩)/\R 7=.ae (k:Int)/\(s.rows.take k).any (λn=>mA n 1 64)=false)
       (λr=>r.2.2=W'/\((r.1=.exit 2/\r.2.1 5=.pointer (some ⟨W1.next,0,none⟩)/\s.rows.any (λn=>mA n 1 64)=false)\/(r.1=.ret/\r.2.1 4=.ae 7/\s.rows.any (λn=>mA n 1 64)=true))) ⟨rfl,h5,rfl,rfl⟩ ?_ ?_ ?_
      ·rintro k R W3 hk ⟨rfl,h5,h7,ha⟩;unfold p7;obtain⟨p,p1,p2⟩:=g2.get hk;have e1:((k:Int)<(s.rows.length:Int)):=by omega
       have e2:(k:Int)+1=((k+1:Nat):Int):=by omega
       have ea:=bm W3 k 1;simp only[SX,h5,h7,aJ,d1,hlr,e1,p1,p2 _ hZ,vV,DV];cases hx:mA s.rows[k] 1 64
       ·simp only[SX,ea,ah];exact .inl ⟨ak,ak,h5,by rw[<-e2];rfl,rm hk hx ha⟩
       ·simp only[SX,ah];exact .inr ⟨by simp,ak,.inr ⟨ak,rfl,any_some hk hx⟩⟩
      ·rintro R W3 ⟨rfl,h5,h7,ha⟩;unfold p7;have e1:¬((s.rows.length:Int)<(s.rows.length:Int)):=by omega
       rw[cM]at ha;simp only[SX,h5,h7,aJ,d1,hlr,e1,ah];exact⟨by simp,ak,.inl ⟨ak,h5,ha⟩⟩
      ·rintro⟨x,R,W3⟩ ⟨hW,hq⟩;simp only at hW hq;subst hW;rcases hq with⟨rfl,h5,hq⟩|⟨rfl,h4,hq⟩
       ·simp only[SX,h5,hq,aJ,d2,vV,DV,ik,cn];cases n6:mA s.q 0 64
        ·simp only[SX,ik,cn,ah];exact⟨ak,hZ⟩
        ·simp only[SX,bi,ah];exact⟨ak,hZ⟩
       ·simp only[SX,hq,h4,bi,ah];exact⟨ak,hZ⟩
   ·simp only[SX,h4,hq,bi,cn,vO,ah];exact⟨ak,hZ⟩
def Ba{s:mV}{b:List mV}(h:xL s b=0):ux s.name=true/\(b.any λx=>x.name==s.name)=false/\s.rows.length≠0/\s.rows.length<=16/\(∀n∈s.rows,1<=n/\n<=64)/\0<=s.q/\s.q<=64:=by
 unfold xL at h;split at h
 ·exact absurd h (by decide)
 rename_i h1;split at h
 ·exact absurd h (by decide)
 rename_i h2;split at h
 ·exact absurd h (by decide)
 rename_i h3;split at h
 ·exact absurd h (by decide)
 rename_i h4;split at h
 ·exact absurd h (by decide)
 rename_i h5;split at h
 ·exact absurd h (by decide)
 rename_i h6;refine⟨by simpa using h1,by simpa using h2,h3,by omega,?_,?_⟩
 ·intro n hn;have:mA n 1 64=false:=by
   cases ho:mA n 1 64
   ·rfl
   ·exact absurd (xk.2 ⟨n,hn,ho⟩) h5
  unfold mA at this;simp only[Bool.or_eq_false_iff,decide_eq_false_iff_not]at this;omega
 ·unfold mA at h6;simp only[oA,decide_eq_true_iff]at h6;omega
def sL{l:List Int}{k:Nat}(hk:k<l.length):ii (l.take (k+1))=ii (l.take k)+l[k]:=by rw[<-AI hk,SE]
def tX{l:List mV}{k:Nat}(hk:k<l.length):bE (l.take (k+1))=bE (l.take k)+ii l[k].rows:=by unfold bE;rw[xp,xp,sL (by rw[eP];exact hk),List.getElem_map]
def tx{l:List Int}(h:∀n∈l,1<=n/\n<=64)(k:Nat):(0<=ii (l.take k)/\ii (l.take k)<=64*k)/\(min k l.length:Int)<=ii (l.take k):=by
 induction k with
 |zero=>simp[ii];omega
 |succ k ih=>
  by_cases hk:k<l.length
  ·rw[sL hk];have:=h _ (cD hk);omega
  ·rw[oz (by omega)]at ih|-;omega
def A8{l:List mV}{k:Nat}(h:oR l k=none)(hk:k<l.length):oR l (k+1)=if xL l[k] (l.take k)=0 then none else some (k,xL l[k] (l.take k)):=by show(match oR l k with|some r=>some r|none=>match l[k]? with|some s=>if xL s (l.take k)=0 then none else some (k,xL s (l.take k))|none=>none)=_;rw[h,bN hk]
def ME{l:List mV}{k:Nat}(h:oR l k=none):∀i (hi:i<k) (hl:i<l.length),xL l[i] (l.take i)=0:=by
 induction k with
 |zero=>intro i hi;omega
 |succ k ih=>
  have h1:oR l k=none:=by
   cases hb:oR l k with
   |none=>rfl
   |some r=>rw[sH hb (Nat.le_succ k)]at h;cases h
  intro i hi hl;by_cases e:i=k
  ·subst e;rw[A8 h1 hl]at h;split at h
   ·assumption
   ·cases h
  ·exact ih h1 i (by omega) hl
def Rz{l:List mV}{k:Nat}(h:oR l k=none)(hk:k<=l.length):0<=bE (l.take k)/\bE (l.take k)<=1024*k:=by
 induction k with
 |zero=>simp[bE,ii]
 |succ k ih=>
  have h1:oR l k=none:=by
   cases hb:oR l k with
   |none=>rfl
   |some r=>rw[sH hb (Nat.le_succ k)]at h;cases h
  have h2:=ih h1 (by omega);have CZ:k<l.length:=by omega
  obtain⟨_,_,_,h3,h4,_⟩:=Ba (ME h k (by omega) CZ);rw[tX CZ];have h5:=(tx h4 l[k].rows.length).1;rw[cM]at h5;omega
def uT{v:fo}{sv:ad}{W:AW}(hs:eW W sv v.ax)(hv:v.ax.length<1000):ba (.func (.func 50) #[] #[]) [eQ v sv] W=some (.tuple #[.ae (du v).1,.ae (du v).2],W):=by
 refine aP rfl ?_ Kk;unfold Gv;have aM:Le W (W.add (.cells [.ae v.sh,.ae v.cT,.ae v.fm,sv])):=(Le.refl W).add _;have hc:aH (W.add (.cells [.ae v.sh,.ae v.cT,.ae v.fm,sv])) W.next=some [.ae v.sh,.ae v.cT,.ae v.fm,sv]:=bF;have hn:W.next<(W.add (.cells [.ae v.sh,.ae v.cT,.ae v.fm,sv])).next:=by rw[AW.av];omega
 simp only[SX,aJ];generalize hW1:W.add (.cells [.ae v.sh,.ae v.cT,.ae v.fm,sv])=W1 at *;have c0:bz (.pointer (some ⟨W.next,0,none⟩)) W1=some (.ae v.sh,W1):=aO hc rfl;have c1:bz (.pointer (some ⟨W.next,1,none⟩)) W1=some (.ae v.cT,W1):=aO hc rfl;have c2:bz (.pointer (some ⟨W.next,2,none⟩)) W1=some (.ae v.fm,W1):=aO hc rfl;have c3:∀W',Le W1 W'->bz (.pointer (some ⟨W.next,3,none⟩)) W'=some (sv,W'):=λW' k=>aO (by rw[k.aH hn];exact hc) rfl
 simp only[SX,c0,qz];unfold du DY;cases n1:mA v.sh 1 16;case true=>simp only[SX,AM,bi,ah];exact⟨ak,aM⟩
 simp only[SX,c1,ye];cases n2:mA v.cT 1 1000000000;case true=>simp only[SX,AM,Bool.or_true,bi,ah];exact⟨ak,aM⟩
 simp only[SX,c2,ye];cases n3:mA v.fm 1 1000000000;case true=>simp only[SX,Bool.or_true,bi,ah];exact⟨ak,aM⟩
 simp only[SX,c3 _ (.refl _),hs.1.len ug,Bool.or_self,ik,cn];by_cases n4:v.ax.length=0;case pos=>
  have e:((v.ax.length:Int)=0):=by omega
  simp only[SX,e,an n4,ah];exact⟨ak,aM⟩
 have e4:¬((v.ax.length:Int)=0):=by omega
 simp only[SX,e4,ap n4];by_cases n5:8<v.ax.length;case pos=>
  have e:((8:Int)<(v.ax.length:Int)):=by omega
  simp only[SX,e,an n5,ah];exact⟨ak,aM⟩
 have e5:¬((8:Int)<(v.ax.length:Int)):=by omega
 simp only[SX,e5,ap n5];refine bh v.ax.length (by omega) (λk R W'=>Le W1 W'/\R 1=.pointer (some ⟨W.next,0,none⟩)/\R 4=.ae (bE (v.ax.take k))/\R 35=sv/\R 36=.ae (v.ax.length:Int)/\R 37=.ae (k:Int)/\oR v.ax k=none)
  (λr=>Le W1 r.2.2/\((r.1=.exit 1/\r.2.1 4=.ae (bE v.ax)/\oR v.ax v.ax.length=none)\/(r.1=.ret/\∃i e,r.2.1 2=.ae ((i:Nat):Int)/\r.2.1 3=.ae e/\oR v.ax v.ax.length=some (i,e)))) ⟨.refl _,rfl,rfl,rfl,rfl,rfl,rfl⟩ ?_ ?_ ?_
 ·rintro k R W' hk ⟨hl,h1,h4,PU,h36,h37,hb⟩;unfold tz;obtain⟨b,o,rv,g1,g2,g3,_⟩:=hs.1.get hk;obtain⟨u,u1,u2⟩:=hs.pre hk;have e1:((k:Int)<(v.ax.length:Int)):=by omega
  simp only[SX,PU,h36,h37,e1,g1,g3 _ (aM.trans hl),amz,ahp df (qc _) (Row.one g2) (cF _ _),iK];have CK:Le W1 (W'.add (.cells [.string (bf v.ax[k].name),rv,.ae v.ax[k].q])):=hl.add _;have hc2:aH (W'.add (.cells [.string (bf v.ax[k].name),rv,.ae v.ax[k].q])) W'.next=some [.string (bf v.ax[k].name),rv,.ae v.ax[k].q]:=bF;generalize hW2:W'.add (.cells [.string (bf v.ax[k].name),rv,.ae v.ax[k].q])=W2 at *;have d3:dJ 3 (.pointer (some ⟨W'.next,0,none⟩)) W2=some (KN v.ax[k] rv,W2):=xH hc2 rfl;have d1:bz (.pointer (some ⟨W'.next,1,none⟩)) W2=some (rv,W2):=aO hc2 rfl;have hlr:=(g2.mono (aM.trans CK)).len (P:=Tryz.prog) vM;simp only[SX,d3,h1,aJ,c3 _ CK,u1,YW (g2.mono (aM.trans CK)) (u2.mono (aM.trans CK)) (by rw[cX];omega)];have hbs:=A8 hb hk;by_cases hz:xL v.ax[k] (v.ax.take k)=0
  ·rw[an hz]at hbs;obtain⟨_,_,_,hr1,hr2,_⟩:=Ba hz;have htb:=Rz hb (by omega);simp only[SX,hz,d1,hlr];refine bh v.ax[k].rows.length (by omega) (λj R' W3=>W3=W2/\R' 1=.pointer (some ⟨W.next,0,none⟩)/\R' 4=.ae (bE (v.ax.take k)+ii (v.ax[k].rows.take j))/\R' 35=sv/\R' 36=.ae (v.ax.length:Int)/\R' 37=.ae (k:Int)/\R' 53=rv/\R' 54=.ae (v.ax[k].rows.length:Int)/\R' 55=.ae (j:Int))
    (λr=>r.2.2=W2/\r.1=.exit 3/\r.2.1 1=.pointer (some ⟨W.next,0,none⟩)/\r.2.1 4=.ae (bE (v.ax.take (k+1)))/\r.2.1 35=sv/\r.2.1 36=.ae (v.ax.length:Int)/\r.2.1 37=.ae (k:Int)) ⟨rfl,h1,by rw[pd,show ii []=0 from rfl,uI];exact h4,PU,h36,h37,rfl,rfl,rfl⟩ ?_ ?_ ?_
   ·rintro j R' W3 hj ⟨rfl,h1,h4,PU,h36,h37,h53,h54,h55⟩;unfold oK;obtain⟨p,p1,p2⟩:=g2.get hj;have e1:((j:Int)<(v.ax[k].rows.length:Int)):=by omega
    have e2:(j:Int)+1=((j+1:Nat):Int):=by omega
    have ea:=bm W3 j 1;have hsb:=(tx hr2 j).1;have hsn:=hr2 _ (cD hj);have eb:=fd W3 (bE (v.ax.take k)+ii (v.ax[k].rows.take j)) (v.ax[k].rows[j]);simp only[SX,h4,h53,h54,h55,e1,p1,p2 _ (aM.trans CK),ea,eb,ah];refine .inl ⟨ak,ak,h1,?_,PU,h36,h37,h53,h54,by rw[<-e2];rfl⟩;rw[sL hj,<-Int.add_assoc];rfl
   ·rintro R' W3 ⟨rfl,h1,h4,PU,h36,h37,h53,h54,h55⟩;unfold oK;have e1:¬((v.ax[k].rows.length:Int)<(v.ax[k].rows.length:Int)):=by omega
    simp only[SX,h54,h55,e1,ah];refine⟨by simp,ak,ak,h1,?_,PU,h36,h37⟩;rw[tX hk];rw[cM]at h4;exact h4
   ·rintro⟨x,R',W3⟩ ⟨hW,rfl,h1,h4,PU,h36,h37⟩;simp only at hW h1 h4 PU h36 h37;subst hW;have e2:(k:Int)+1=((k+1:Nat):Int):=by omega
    have ea:=bm W3 k 1;simp only[SX,h37,ea,ah];exact .inl ⟨ak,CK,h1,h4,PU,h36,by rw[<-e2];rfl,hbs⟩
  ·rw[ap hz]at hbs;simp only[SX,hz,ah];exact .inr ⟨by simp,CK,.inr ⟨ak,k,_,rfl,rfl,sH hbs (by omega)⟩⟩
 ·rintro R W' ⟨hl,h1,h4,PU,h36,h37,hb⟩;unfold tz;have e1:¬((v.ax.length:Int)<(v.ax.length:Int)):=by omega
  rw[cM]at h4;simp only[SX,h36,h37,e1,ah];exact⟨by simp,hl,.inl ⟨ak,h4,hb⟩⟩
 ·rintro⟨x,R,W'⟩ ⟨hl,hq⟩;simp only at hl hq;rcases hq with⟨rfl,h4,hb⟩|⟨rfl,i,e,h2,h3,hb⟩
  ·rw[hb];by_cases n6:4096<bE v.ax
   ·simp only[SX,h4,n6,bi,ah];exact⟨ak,aM.trans hl⟩
   ·simp only[SX,h4,n6,cn,ah];exact⟨ak,aM.trans hl⟩
  ·rw[hb];simp only[SX,h2,h3,ah];exact⟨ak,aM.trans hl⟩
abbrev Ta:=Nat×Nat×Nat
def yH(i k m:Nat):List Ta:=(List.range m).map λj=>(i,k,j)
def E8(i:Nat)(rows:List Int)(k:Nat):List Ta:=(List.range k).flatMap λj=>yH i j (rows.getD j 0).toNat
def Cg(l:List mV)(n:Nat):List Ta:=(List.range n).flatMap λi=>match l[i]? with
 |some s=>E8 i s.rows s.rows.length
 |none=>[]
def jz(l:List mV):List Ta:=Cg l l.length
def YM(i k m:Nat):yH i k (m+1)=yH i k m++[(i,k,m)]:=by simp[yH,ql]
def FN(i:Nat)(rows:List Int){k:Nat}(hk:k<rows.length):E8 i rows (k+1)=E8 i rows k++yH i k rows[k].toNat:=by unfold E8;rw[ql,iS,fy,A4,fu,jt,bN hk,pk]
def Fx(l:List mV){n:Nat}(hn:n<l.length):Cg l (n+1)=Cg l n++E8 n l[n].rows l[n].rows.length:=by unfold Cg;rw[ql,iS,fy,A4,fu,bN hn]
structure Good (l:List mV):Prop where
 len:l.length<=8
 rows:∀s∈l,s.rows.length≠0/\s.rows.length<=16/\∀n∈s.rows,1<=n/\n<=64
def Good.of{l:List mV}(h:l.length<=8)(hb:oR l l.length=none):Good l:=
 ⟨h,λs hs=>by obtain⟨i,hi,rfl⟩:=Bk hs;obtain⟨_,_,h3,h4,h5,_⟩:=Ba (ME hb i hi hi);exact⟨h3,h4,h5⟩⟩
def RE(i k m:Nat):(yH i k m).length=m:=by simp[yH]
def Jr{i:Nat}{rows:List Int}(h:∀n∈rows,1<=n/\n<=64):∀{k:Nat},k<=rows.length->((E8 i rows k).length:Int)=ii (rows.take k)
 |0,_=>by simp[E8,ii]
 |k+1,hk=>by
  have CZ:k<rows.length:=by omega
  rw[FN i rows CZ,cx,RE,sL CZ,<-Jr (i:=i) h (by omega:k<=rows.length)];have:=h _ (cD CZ);omega
def zu{l:List mV}(h:Good l):∀{n:Nat},n<=l.length->((Cg l n).length:Int)=bE (l.take n)/\(Cg l n).length<=1024*n
 |0,_=>by simp[Cg,bE,ii]
 |n+1,hn=>by
  have Lm:n<l.length:=by omega
  obtain⟨h1,h2,h3⟩:=h.rows _ (cD Lm);have ih:=zu h (by omega:n<=l.length);have hl:=Jr (i:=n) h3 (aQ _);have hb:=(tx h3 l[n].rows.length).1;rw[cM]at hl hb;rw[Fx l Lm,cx,tX Lm];omega
def tQ{l:List mV}(h:Good l):((jz l).length:Int)=bE l:=by have:=(zu h (aQ l.length)).1;rwa [cM]at this
def LB(p:Ta):List ad:=[.ae (p.1:Int),.ae (p.2.1:Int),.ae (p.2.2:Int)]
def ai8(cs:List ad)(p:Nat)(a:Ta):Prop:=cs[p]? =some (.ae (a.1:Int))/\cs[p+1]? =some (.ae (a.2.1:Int))/\cs[p+2]? =some (.ae (a.2.2:Int))
def PY(p:Ta):(LB p).length=3:=rfl
def abH(p:Ta):(LB p).all Eng.one=true:=rfl
def ahT(a:Ta)(pre post:List ad):ai8 (pre++(LB a++post)) pre.length a:=by refine⟨?_,?_,?_⟩<;>(rw[pY (by omega)];simp[LB])
abbrev amk(W:AW)(v:ad)(l:List Ta):Prop:=Row W 3 ai8 v l
def apL:kZ Tryz.prog #[123,123] 3 24=true:=by kernel_rfl
def aqU(a b c:Int)(W:AW):dU Tryz.prog 177 [(0,.ae a),(1,.ae b),(2,.ae c)] W=some (.agg #[.ae a,.ae b,.ae c],W):=aS (by kernel_rfl) rfl
def apG(a b c:Int)(W:AW):cJ Tryz.prog 123 1 [(0,.agg #[.ae a,.ae b,.ae c])] W=some (.slice (some ⟨W.next,0,none⟩) 1 1,W.add (.cells [.ae a,.ae b,.ae c])):=aS (by kernel_rfl) rfl
def Bf{v:fo}{sv:ad}{W:AW}(hs:gZ W sv v.ax)(hg:Good v.ax):∃r W',ba (.func (.func 62) #[] #[]) [eQ v sv] W=some (r,W')/\Le W W'/\amk W' r (jz v.ax):=by
 have aM:Le W (W.add (.cells [.ae v.sh,.ae v.cT,.ae v.fm,sv])):=(Le.refl W).add _;have hc:aH (W.add (.cells [.ae v.sh,.ae v.cT,.ae v.fm,sv])) W.next=some [.ae v.sh,.ae v.cT,.ae v.fm,sv]:=bF;have hn:W.next<(W.add (.cells [.ae v.sh,.ae v.cT,.ae v.fm,sv])).next:=by rw[AW.av];omega
 refine alc ?_ HO;unfold EQ;simp only[SX];generalize hW1:W.add (.cells [.ae v.sh,.ae v.cT,.ae v.fm,sv])=W1 at *;have c3:∀W',Le W1 W'->bz (.pointer (some ⟨W.next,3,none⟩)) W'=some (sv,W'):=λW' k=>aO (by rw[k.aH hn];exact hc) rfl
 have E2:∀(k:Nat) (W':AW),k<1000000->bO Tryz.prog .add 3 false true (.ae (k:Int)) (.ae 1) W'=some (.ae ((k+1:Nat):Int),W'):=λk W' hk=>kU (by omega) (by omega)
 have dv:=hg.len;refine bh v.ax.length (by omega) (λi R W'=>Le W1 W'/\R 1=.pointer (some ⟨W.next,0,none⟩)/\R 4=.ae (i:Int)/\vT W1.next W' 3 LB (R 3) (Cg v.ax i))
  (λr=>Le W1 r.2.2/\r.1=.exit 0/\vT W1.next r.2.2 3 LB (r.2.1 3) (Cg v.ax v.ax.length)) ⟨.refl _,rfl,rfl,vT.nil _ _ _ _⟩ ?_ ?_ ?_
 ·rintro i R W' hi ⟨hl,h1,h4,hG⟩;unfold rL;have e1:((i:Int)<(v.ax.length:Int)):=by omega
  simp only[SX,h1,h4,aJ,c3 _ hl,hs.len ug,e1];obtain⟨b,o,rv,g1,g2,_,_,g5,_⟩:=hs.get hi;obtain⟨r1,r2,r3⟩:=hg.rows _ (cD hi);have qk:=(zu hg (by omega:i<=v.ax.length)).2;refine bh v.ax[i].rows.length (by omega) (λk R W'=>Le W1 W'/\R 1=.pointer (some ⟨W.next,0,none⟩)/\R 4=.ae (i:Int)/\R 5=.ae (k:Int)/\vT W1.next W' 3 LB (R 3) (Cg v.ax i++E8 i v.ax[i].rows k))
   (λr=>Le W1 r.2.2/\r.1=.exit 2/\r.2.1 1=.pointer (some ⟨W.next,0,none⟩)/\r.2.1 4=.ae (i:Int)/\vT W1.next r.2.2 3 LB (r.2.1 3) (Cg v.ax (i+1))) ⟨hl,h1,h4,rfl,by rw[show E8 i v.ax[i].rows 0=[]from rfl,fu];exact hG⟩ ?_ ?_ ?_
  ·rintro k R W' hk ⟨hl,h1,h4,h5,hG⟩;unfold nF;have e1:((k:Int)<(v.ax[i].rows.length:Int)):=by omega
   have g2':=g2.mono (aM.trans hl);simp only[SX,h1,h4,h5,aJ,c3 _ hl,g1,g5 _ (aM.trans hl),g2'.len vM,e1];obtain⟨p,p1,p2⟩:=g2.get hk;have hrk:=r3 _ (cD hk);have SY:=Jr (i:=i) r3 (by omega:k<=v.ax[i].rows.length);have hsb:=(tx r3 k).1;refine bh v.ax[i].rows[k].toNat (by omega) (λm R W'=>Le W1 W'/\R 1=.pointer (some ⟨W.next,0,none⟩)/\R 4=.ae (i:Int)/\R 5=.ae (k:Int)/\R 6=.ae (m:Int)/\vT W1.next W' 3 LB (R 3) (Cg v.ax i++E8 i v.ax[i].rows k++yH i k m))
    (λr=>Le W1 r.2.2/\r.1=.exit 4/\r.2.1 1=.pointer (some ⟨W.next,0,none⟩)/\r.2.1 4=.ae (i:Int)/\r.2.1 5=.ae (k:Int)/\vT W1.next r.2.2 3 LB (r.2.1 3) (Cg v.ax i++E8 i v.ax[i].rows (k+1))) ⟨hl,h1,h4,h5,rfl,by rw[show yH i k 0=[]from rfl,fu];exact hG⟩ ?_ ?_ ?_
   ·rintro m R W' hm ⟨hl,h1,h4,h5,h6,hG⟩;unfold kz;have e1:((m:Int)<v.ax[i].rows[k]):=by omega
    simp only[SX,h1,h4,h5,h6,aJ,c3 _ hl,g1,g5 _ (aM.trans hl),p1,p2 _ (aM.trans hl),e1,aqU,apG];have hGm:=hG.mono ((Le.refl W').add (.cells [.ae (i:Int),.ae (k:Int),.ae (m:Int)]));have hlb:(Cg v.ax i++E8 i v.ax[i].rows k++yH i k m).length+1<100000:=by rw[cx,cx,RE];omega
    obtain⟨v',W2,q1,q2,q3,q4⟩:=vT.push (P:=Tryz.prog) (a:=(i,k,m)) (b:=W'.next) (c:=1) apL PY abH hGm bF (by omega) (by omega) (by rw[AW.av];have:=hl.next;omega);simp only[SX,q1,E2 m _ (by omega),ah];refine .inl ⟨ak,q4 _ (hl.add _) (aQ _),h1,h4,h5,rfl,?_⟩;rw[YM,<-iR];exact q2
   ·rintro R W' ⟨hl,h1,h4,h5,h6,hG⟩;unfold kz;have e1:¬((v.ax[i].rows[k].toNat:Int)<v.ax[i].rows[k]):=by omega
    simp only[SX,h1,h4,h5,h6,aJ,c3 _ hl,g1,g5 _ (aM.trans hl),p1,p2 _ (aM.trans hl),e1,ah];refine⟨by simp,hl,ak,h1,h4,h5,?_⟩;rw[FN _ _ hk,<-iR];exact hG
   ·rintro⟨x,R,W'⟩ ⟨hl,rfl,h1,h4,h5,hG⟩;simp only at hl h1 h4 h5 hG;simp only[SX,h5,E2 k _ (by omega),ah];exact .inl ⟨ak,hl,h1,h4,rfl,hG⟩
  ·rintro R W' ⟨hl,h1,h4,h5,hG⟩;unfold nF;have e1:¬((v.ax[i].rows.length:Int)<(v.ax[i].rows.length:Int)):=by omega
   have g2':=g2.mono (aM.trans hl);simp only[SX,h1,h4,h5,aJ,c3 _ hl,g1,g5 _ (aM.trans hl),g2'.len vM,e1,ah];refine⟨by simp,hl,ak,h1,h4,?_⟩;rw[Fx _ hi];exact hG
  ·rintro⟨x,R,W'⟩ ⟨hl,rfl,h1,h4,hG⟩;simp only at hl h1 h4 hG;simp only[SX,h4,E2 i _ (by omega),ah];exact .inl ⟨ak,hl,h1,rfl,hG⟩
 ·rintro R W' ⟨hl,h1,h4,hG⟩;unfold rL;have e1:¬((v.ax.length:Int)<(v.ax.length:Int)):=by omega
  simp only[SX,h1,h4,aJ,c3 _ hl,hs.len ug,e1,ah];exact⟨by simp,hl,ak,hG⟩
 ·rintro⟨x,R,W'⟩ ⟨hl,rfl,hG⟩;simp only at hl hG;simp only[SX,ah];exact⟨aM.trans hl,hG.row PY ahT⟩
def agC:((#[123]:Array af)[0]?).bind Tryz.prog.underlying=some (.slice 177):=by kernel_rfl
def E9{v:fo}{sv:ad}{W:AW}(hs:gZ W sv v.ax)(hv:v.ax.length<1000)(hr:∀s∈v.ax,s.rows.length<1000):ba (.func (.func 48) #[] #[]) [eQ v sv] W=some (.tuple #[.ae (du v).1,.ae (du v).2],W):=by
 refine aP rfl ?_ JH;unfold Gs;have aM:Le W (W.add (.cells [.ae v.sh,.ae v.cT,.ae v.fm,sv])):=(Le.refl W).add _;have hc:aH (W.add (.cells [.ae v.sh,.ae v.cT,.ae v.fm,sv])) W.next=some [.ae v.sh,.ae v.cT,.ae v.fm,sv]:=bF;have hn:W.next<(W.add (.cells [.ae v.sh,.ae v.cT,.ae v.fm,sv])).next:=by rw[AW.av];omega
 simp only[SX,aJ];generalize hW1:W.add (.cells [.ae v.sh,.ae v.cT,.ae v.fm,sv])=W1 at *;have c0:bz (.pointer (some ⟨W.next,0,none⟩)) W1=some (.ae v.sh,W1):=aO hc rfl;have c1:bz (.pointer (some ⟨W.next,1,none⟩)) W1=some (.ae v.cT,W1):=aO hc rfl;have c2:bz (.pointer (some ⟨W.next,2,none⟩)) W1=some (.ae v.fm,W1):=aO hc rfl;have c3:bz (.pointer (some ⟨W.next,3,none⟩)) W1=some (sv,W1):=aO hc rfl;have c4:dJ 4 (.pointer (some ⟨W.next,0,none⟩)) W1=some (eQ v sv,W1):=xH hc rfl;have H3:=hs.mono aM;simp only[SX,c0,vV,DV];unfold du DY;cases n1:mA v.sh 1 16;case true=>simp only[SX,AM,bi,ah];exact⟨ak,aM⟩
 simp only[SX,c1,vV,DV];cases n2:mA v.cT 1 1000000000;case true=>simp only[SX,AM,Bool.or_true,bi,ah];exact⟨ak,aM⟩
 simp only[SX,c2,vV,DV];cases n3:mA v.fm 1 1000000000;case true=>simp only[SX,Bool.or_true,bi,ah];exact⟨ak,aM⟩
 simp only[SX,c3,hs.len ug,Bool.or_self,ik,cn];by_cases n4:v.ax.length=0;case pos=>
  have e:((v.ax.length:Int)=0):=by omega
  simp only[SX,e,an n4,ah];exact⟨ak,aM⟩
 have e4:¬((v.ax.length:Int)=0):=by omega
 simp only[SX,e4,ap n4];by_cases n5:8<v.ax.length;case pos=>
  have e:((8:Int)<(v.ax.length:Int)):=by omega
  simp only[SX,e,an n5,ah];exact⟨ak,aM⟩
 have e5:¬((8:Int)<(v.ax.length:Int)):=by omega
 simp only[SX,e5,ap n5];refine bh v.ax.length (by omega) (λk R W'=>W'=W1/\R 1=.pointer (some ⟨W.next,0,none⟩)/\R 4=.ae (k:Int)/\oR v.ax k=none)
  (λr=>r.2.2=W1/\((r.1=.exit 0/\r.2.1 1=.pointer (some ⟨W.next,0,none⟩)/\oR v.ax v.ax.length=none)\/(r.1=.ret/\∃i e,r.2.1 2=.ae ((i:Nat):Int)/\r.2.1 3=.ae e/\oR v.ax v.ax.length=some (i,e)))) ⟨rfl,rfl,rfl,rfl⟩ ?_ ?_ ?_
 ·rintro k R W' hk ⟨rfl,h1,h4,hb⟩;unfold tW;have e1:((k:Int)<(v.ax.length:Int)):=by omega
  have e2:(k:Int)+1=((k+1:Nat):Int):=by omega
  have ea:=bm W' k 1;simp only[SX,h1,h4,aJ,c3,hs.len ug,e1,c4,Tb H3 hv hk (hr _ (cD hk))];have hbs:=A8 hb hk;by_cases hz:xL v.ax[k] (v.ax.take k)=0
  ·rw[an hz]at hbs;simp only[SX,hz,ea,ah];exact .inl ⟨ak,ak,h1,by rw[<-e2];rfl,hbs⟩
  ·rw[ap hz]at hbs;simp only[SX,hz,ah];exact .inr ⟨by simp,ak,.inr ⟨ak,k,_,rfl,rfl,sH hbs (by omega)⟩⟩
 ·rintro R W' ⟨rfl,h1,h4,hb⟩;unfold tW;have e1:¬((v.ax.length:Int)<(v.ax.length:Int)):=by omega
  simp only[SX,h1,h4,aJ,c3,hs.len ug,e1,ah];exact⟨by simp,ak,.inl ⟨ak,h1,hb⟩⟩
 ·rintro⟨x,R,W'⟩ ⟨hW,hq⟩;simp only at hW hq;subst hW;rcases hq with⟨rfl,h1,hb⟩|⟨rfl,i,e,h2,h3,hb⟩
  ·rw[hb];have hg:=Good.of (by omega) hb;obtain⟨r,W2,q1,q2,q3⟩:=Bf H3 hg;simp only[SX,h1,c4,q1,q3.len agC,tQ hg];by_cases n6:4096<bE v.ax
   ·simp only[SX,n6,bi,ah];exact⟨ak,aM.trans q2⟩
   ·simp only[SX,n6,cn,ah];exact⟨ak,aM.trans q2⟩
  ·rw[hb];simp only[SX,h2,h3,ah];exact⟨ak,aM⟩
def cE{v:fo}(h:(du v).2=0):Good v.ax/\DY v=false/\0<v.ax.length/\oR v.ax v.ax.length=none/\bE v.ax<=4096/\(du v).1=0:=by
 unfold du at h|-;split at h
 ·exact absurd h (by decide)
 rename_i h1;split at h
 ·exact absurd h (by decide)
 rename_i h2;split at h
 ·exact absurd h (by decide)
 rename_i h3;cases hb:oR v.ax v.ax.length with
 |some r=>
  obtain⟨i,e⟩:=r;rw[hb]at h;simp only at h;subst h;exfalso;have:∀n,oR v.ax n≠some (i,0):=by
   intro n;induction n with
   |zero=>simp[oR]
   |succ n ih=>
    intro hn;have Lm:(match oR v.ax n with|some r=>some r|none=>match v.ax[n]? with|some s=>if xL s (v.ax.take n)=0 then none else some (n,xL s (v.ax.take n))|none=>none)=some (i,0):=hn;cases hbn:oR v.ax n with
    |some r=>rw[hbn]at Lm;simp only at Lm;rw[Lm]at hbn;exact ih hbn
    |none=>
     rw[hbn]at Lm;simp only at Lm;split at Lm
     ·split at Lm
      ·cases Lm
      ·rename_i hz;injection Lm with Lm;injection Lm with _ e;exact hz e
     ·cases Lm
  exact this _ hb
 |none=>
  rw[hb]at h;simp only at h|-;split at h
  ·exact absurd h (by decide)
  rename_i h4;rw[ap h4,ap h1,ap h2,ap h3];exact⟨Good.of (by omega) hb,by simpa using h1,by omega,ak,by omega,rfl⟩
def jO(v:fo)(sv:ad)(W:AW):∃W1,pP (eQ v sv) W=some (.pointer (some ⟨W.next,0,none⟩),W1)/\Le W W1/\W.next<W1.next/\
 (∀W',Le W1 W'->dJ 4 (.pointer (some ⟨W.next,0,none⟩)) W'=some (eQ v sv,W'))/\(∀W',Le W1 W'->bz (.pointer (some ⟨W.next,0,none⟩)) W'=some (.ae v.sh,W'))/\(∀W',Le W1 W'->bz (.pointer (some ⟨W.next,3,none⟩)) W'=some (sv,W')):=by
 have hc:aH (W.add (.cells [.ae v.sh,.ae v.cT,.ae v.fm,sv])) W.next=some [.ae v.sh,.ae v.cT,.ae v.fm,sv]:=bF;have hn:W.next<(W.add (.cells [.ae v.sh,.ae v.cT,.ae v.fm,sv])).next:=by rw[AW.av];omega
 exact⟨_,aoh _ _ _ _ W,(Le.refl W).add _,hn,λW' k=>xH (by rw[k.aH hn];exact hc) rfl,λW' k=>aO (by rw[k.aH hn];exact hc) rfl,λW' k=>aO (by rw[k.aH hn];exact hc) rfl⟩
def b9(v:fo):Int×Int:=if(du v).2=0 then(bE v.ax,0)else(0,(du v).2)
def qT{v:fo}{sv:ad}{W:AW}(hs:gZ W sv v.ax)(hv:v.ax.length<1000)(hr:∀s∈v.ax,s.rows.length<1000):ba (.func (.func 30) #[] #[]) [eQ v sv] W=some (.tuple #[.ae (b9 v).1,.ae (b9 v).2],W):=by
 refine aP rfl ?_ JD;unfold Hr b9;obtain⟨W1,hB,aM,hn,c4,c0,c3⟩:=jO v sv W;simp only[SX,hB,c4 _ (.refl _),E9 (hs.mono aM) hv hr];by_cases he:(du v).2=0
 ·obtain⟨r,W2,q1,q2,q3⟩:=Bf (hs.mono aM) (cE he).1;simp only[SX,aK he,q1,q3.len agC,tQ (cE he).1,an he,ah];exact⟨ak,aM.trans q2⟩
 ·simp only[SX,he,cn,ah];exact⟨ak,aM⟩
structure iI where
 sec:Nat
 row:Nat
 first:Int
 many:Int
abbrev Lt(r:iI):ad:=.agg #[.ae (r.sec:Int),.ae (r.row:Int),.ae r.first,.ae r.many]
def tT(l:List mV)(i:Nat)(rows:List Int)(k:Nat):List iI:=(List.range k).map λj=>⟨i,j,bE (l.take i)+ii (rows.take j),rows.getD j 0⟩
def rl(l:List mV)(n:Nat):List iI:=(List.range n).flatMap λi=>match l[i]? with
 |some s=>tT l i s.rows s.rows.length
 |none=>[]
def eY(l:List mV):List iI:=rl l l.length
def pR(l:List mV)(i:Nat)(rows:List Int){k:Nat}(hk:k<rows.length):tT l i rows (k+1)=tT l i rows k++[⟨i,k,bE (l.take i)+ii (rows.take k),rows[k]⟩]:=by unfold tT;rw[ql,rI,lj,mS,jt,bN hk,pk]
def nj(l:List mV){n:Nat}(hn:n<l.length):rl l (n+1)=rl l n++tT l n l[n].rows l[n].rows.length:=by unfold rl;rw[ql,iS,fy,A4,fu,bN hn]
def adF{l:List mV}{i:Nat}{rows:List Int}{k n:Nat}(h:k<=n)(hn:n<=rows.length):tT l i rows k<+:tT l i rows n:=by
 induction n with
 |zero=>obtain rfl:k=0:=by omega
        exact List.prefix_refl _
 |succ n ih=>
  by_cases e:k=n+1
  ·subst e;exact List.prefix_refl _
  ·rw[pR l i rows (by omega)];exact(ih (by omega) (by omega)).trans (Ik _ _)
def X5{l:List mV}{k n:Nat}(h:k<=n)(hn:n<=l.length):rl l k<+:rl l n:=by
 induction n with
 |zero=>obtain rfl:k=0:=by omega
        exact List.prefix_refl _
 |succ n ih=>
  by_cases e:k=n+1
  ·subst e;exact List.prefix_refl _
  ·rw[nj l (by omega)];exact(ih (by omega) (by omega)).trans (Ik _ _)
def ad5{l:List mV}{i k:Nat}(hi:i<l.length)(hk:k<l[i].rows.length):(rl l i++tT l i l[i].rows k)++[⟨i,k,bE (l.take i)+ii (l[i].rows.take k),l[i].rows[k]⟩]<+:eY l:=by rw[iR,<-pR l i _ hk];refine List.IsPrefix.trans ?_ (X5 (k:=i+1) (by omega) (aQ _));rw[nj l hi];exact(List.prefix_append_right_inj _).2 (adF (by omega) (aQ _))
def avl(a b c d:Int)(W:AW):dU Tryz.prog 163 [(0,.ae a),(1,.ae b),(2,.ae c),(3,.ae d)] W=some (.agg #[.ae a,.ae b,.ae c,.ae d],W):=aS (by kernel_rfl) rfl
def afK{v:fo}{sv f:ad}{bx:Nat}{W0 W:AW}(hs:gZ W0 sv v.ax)(hg:Good v.ax)(hb:bz (.pointer (some ⟨bx,3,none⟩)) W=some (sv,W))(I:List iI->AW->Prop)(Q:AW->Prop)
 (hI:I [] W)(hS:∀pre W',I pre W'->Le W0 W')(hA:∀pre W' cs,I pre W'->I pre (W'.add (.cells cs)))
 (step:∀pre r W',pre++[r]<+:eY v.ax->I pre W'->∃b W2,ba f [Lt r] W'=some (.bool b,W2)/\(b=true->I (pre++[r]) W2)/\(b=false->Q W2)):
 ∃W2,ba (.func (.func 120) #[] #[.pointer (some ⟨bx,0,none⟩)]) [f] W=some (.tuple #[],W2)/\(I (eY v.ax) W2\/Q W2):=by
 have pu:Ok (xZ ba f (.pointer (some ⟨bx,0,none⟩)) W) λr=>r.1=.tuple #[]/\(I (eY v.ax) r.2\/Q r.2):=by
  unfold xZ;have dv:=hg.len;have E2:∀(k:Nat) (W':AW),k<1000000->bO Tryz.prog .add 3 false true (.ae (k:Int)) (.ae 1) W'=some (.ae ((k+1:Nat):Int),W'):=λk W' hk=>kU (by omega) (by omega)
  simp only[SX,aJ,hb,hs.len ug];refine bh v.ax.length (by omega) (λi R W'=>R 0=f/\R 3=.ae (bE (v.ax.take i))/\R 9=sv/\R 10=.ae (v.ax.length:Int)/\R 11=.ae (i:Int)/\I (rl v.ax i) W')
   (λr=>(r.1=.exit 0/\I (eY v.ax) r.2.2)\/(r.1=.ret/\Q r.2.2)) ⟨rfl,rfl,rfl,rfl,rfl,hI⟩ ?_ ?_ ?_
  ·rintro i R W' hi ⟨h0,h3,h9,Ks,Vh,rq⟩;unfold rE;have e1:((i:Int)<(v.ax.length:Int)):=by omega
   obtain⟨b,o,rv,g1,g2,g3,_⟩:=hs.get hi;obtain⟨r1,r2,r3⟩:=hg.rows _ (cD hi);have htb:0<=bE (v.ax.take i)/\bE (v.ax.take i)<=1024*i:=by have:=zu hg (by omega:i<=v.ax.length);omega
   have hI2:=hA _ _ [.string (bf v.ax[i].name),rv,.ae v.ax[i].q] rq;have hc2:aH (W'.add (.cells [.string (bf v.ax[i].name),rv,.ae v.ax[i].q])) W'.next=some [.string (bf v.ax[i].name),rv,.ae v.ax[i].q]:=bF;simp only[SX,h9,Ks,Vh,e1,g1,g3 _ (hS _ _ rq),amz,ahp df (qc _) (Row.one g2) (cF _ _),iK,aJ];generalize hW2:W'.add (.cells [.string (bf v.ax[i].name),rv,.ae v.ax[i].q])=W2 at *;have d1:bz (.pointer (some ⟨W'.next,1,none⟩)) W2=some (rv,W2):=aO hc2 rfl;simp only[SX,d1,g2.len vM];refine bh v.ax[i].rows.length (by omega) (λk R W'=>R 0=f/\R 3=.ae (bE (v.ax.take i)+ii (v.ax[i].rows.take k))/\R 4=.ae (i:Int)/\R 9=sv/\R 10=.ae (v.ax.length:Int)/\R 11=.ae (i:Int)/\R 17=rv/\R 18=.ae (v.ax[i].rows.length:Int)/\R 19=.ae (k:Int)/\I (rl v.ax i++tT v.ax i v.ax[i].rows k) W')
    (λr=>(r.1=.exit 2/\r.2.1 0=f/\r.2.1 3=.ae (bE (v.ax.take (i+1)))/\r.2.1 9=sv/\r.2.1 10=.ae (v.ax.length:Int)/\r.2.1 11=.ae (i:Int)/\I (rl v.ax (i+1)) r.2.2)\/(r.1=.ret/\Q r.2.2))
    ⟨h0,by rw[pd,show ii []=0 from rfl,uI];exact h3,rfl,h9,Ks,Vh,rfl,rfl,rfl,by rw[show tT v.ax i v.ax[i].rows 0=[]from rfl,fu];exact hI2⟩ ?_ ?_ ?_
   ·rintro k R W' hk ⟨h0,h3,h4,h9,Ks,Vh,h17,h18,h19,rq⟩;unfold nA;have e1:((k:Int)<(v.ax[i].rows.length:Int)):=by omega
    obtain⟨p,p1,p2⟩:=g2.get hk;obtain⟨c,W3,s1,s2,s3⟩:=step _ ⟨i,k,bE (v.ax.take i)+ii (v.ax[i].rows.take k),v.ax[i].rows[k]⟩ W' (ad5 hi hk) rq;have hsb:=(tx r3 k).1;have hsn:=r3 _ (cD hk);have eb:=fd W3 (bE (v.ax.take i)+ii (v.ax[i].rows.take k)) (v.ax[i].rows[k]);simp only[SX,h0,h3,h4,h17,h18,h19,e1,p1,p2 _ (hS _ _ rq),avl,s1];cases c
    ·simp only[SX,ah];exact .inr ⟨by simp,.inr ⟨ak,s3 rfl⟩⟩
    ·simp only[SX,eb,E2 k _ (by omega),ah];refine .inl ⟨ak,h0,?_,h4,h9,Ks,Vh,h17,h18,rfl,?_⟩
     ·rw[sL hk,<-Int.add_assoc];rfl
     ·rw[pR _ _ _ hk,<-iR];exact s2 rfl
   ·rintro R W' ⟨h0,h3,h4,h9,Ks,Vh,h17,h18,h19,rq⟩;unfold nA;have e1:¬((v.ax[i].rows.length:Int)<(v.ax[i].rows.length:Int)):=by omega
    simp only[SX,h18,h19,e1,ah];refine⟨by simp,.inl ⟨ak,h0,?_,h9,Ks,Vh,?_⟩⟩
    ·rw[tX hi];rw[cM]at h3;exact h3
    ·rw[nj _ hi];exact rq
   ·rintro⟨x,R,W'⟩ hq;rcases hq with⟨rfl,h0,h3,h9,Ks,Vh,rq⟩|⟨rfl,hq⟩
    ·simp only at h0 h3 h9 Ks Vh rq;simp only[SX,Vh,E2 i _ (by omega),ah];exact .inl ⟨ak,h0,h3,h9,Ks,rfl,rq⟩
    ·simp only[SX,ah];exact .inr ⟨by simp,.inr ⟨ak,hq⟩⟩
  ·rintro R W' ⟨h0,h3,h9,Ks,Vh,rq⟩;unfold rE;have e1:¬((v.ax.length:Int)<(v.ax.length:Int)):=by omega
   simp only[SX,Ks,Vh,e1,ah];exact⟨by simp,.inl ⟨ak,rq⟩⟩
  ·rintro⟨x,R,W'⟩ hq;rcases hq with⟨rfl,rq⟩|⟨rfl,hq⟩
   ·simp only[SX,ah];exact⟨ak,.inl rq⟩
   ·simp only[SX,ah];exact⟨ak,.inr hq⟩
 obtain⟨⟨r,W'⟩,h1,h2,h3⟩:=pu;simp only at h2 h3;subst h2;exact⟨W',by rw[H6 h1,kB rfl],h3⟩
def Oq{v:fo}{sv:ad}(W:AW):∃W1,ba (.func (.func 94) #[] #[]) [eQ v sv] W=some (.func (.func 120) #[] #[.pointer (some ⟨W.next,0,none⟩)],W1)/\Le W W1/\W.next<W1.next/\(∀W',Le W1 W'->bz (.pointer (some ⟨W.next,3,none⟩)) W'=some (sv,W')):=by
 obtain⟨W1,hB,aM,hn,c4,c0,c3⟩:=jO v sv W;refine⟨W1,?_,aM,hn,c3⟩;have:Cf ba (eQ v sv) W=some (.func (.func 120) #[] #[.pointer (some ⟨W.next,0,none⟩)],W1):=by unfold Cf;simp only[SX,hB]
 rw[Ma this,kB rfl]
def UY{v:fo}{sv:ad}{W0 W:AW}{bx nt:Nat}{R:Nat->ad}{ps:Array Tmp}{ac bd:Code}(hs:gZ W0 sv v.ax)(hg:Good v.ax)
 (hb:bz (.pointer (some ⟨bx,3,none⟩)) (W.add (.loop .ready none R nt ps ac bd))=some (sv,W.add (.loop .ready none R nt ps ac bd)))(hp:ps.size=1)
 (J:List iI->AW->Prop)(Q:X->AW->Prop)(h0:J [] (W.add (.loop .ready none R nt ps ac bd)))
 (hS:∀pre W',J pre W'->Le W0 W')(hA:∀pre W' cs,J pre W'->W.next<W'.next->J pre (W'.add (.cells cs)))(hP:∀pre W' o,J pre W'->J pre (W'.put W.next o))(hQ:∀x W' o,Q x W'->Q x (W'.put W.next o))
 (d:Nat)(has:∀r W' R',R'=nT ps.toList [Lt r] R->ga Tryz.prog ba false nt ac LT R' W' nG=some (.normal,iU R' (some d) (.pointer (some ⟨W'.next,0,none⟩)),W'.add (.cells [.ae (r.sec:Int),.ae (r.row:Int),.ae r.first,.ae r.many])))
 (step:∀pre r W' b R',R'=iU (nT ps.toList [Lt r] R) (some d) (.pointer (some ⟨b,0,none⟩))->pre++[r]<+:eY v.ax->J pre W'->W.next<W'.next->aU W' b=some [.ae (r.sec:Int),.ae (r.row:Int),.ae r.first,.ae r.many]->W.next<b->b<W'.next->
   Ok (ga Tryz.prog ba false nt bd LT R' W' nG) λq=>W'.next<=q.2.2.next/\q.2.2.get W.next=W'.get W.next/\((q.1=.normal/\J (pre++[r]) q.2.2)\/(q.1≠ .normal/\Q q.1 q.2.2))):
 ∃x W2,ll ba (.func (.func 120) #[] #[.pointer (some ⟨bx,0,none⟩)]) (.loop .ready none R nt ps ac bd) W=some (x,W2.kill W.next)/\((x=.normal/\J (eY v.ax) W2)\/(x≠ .normal/\Q x W2)):=by
 obtain⟨W2,h1,h2⟩:=afK (f:=.func (.yield W.next) #[] #[]) (W:=W.add (.loop .ready none R nt ps ac bd)) hs hg hb
  (λpre W'=>J pre W'/\W.next<W'.next/\W'.get W.next=some (.loop .ready none R nt ps ac bd))
  (λW'=>∃x,x≠ .normal/\Q x W'/\W'.get W.next=some (.loop .done x.jump R nt ps ac bd))
  ⟨h0,by rw[AW.av];omega,AW.aI _ _⟩ (λpre W' h=>hS _ _ h.1)
  (λpre W' cs h=>⟨hA _ _ _ h.1 h.2.1,by rw[AW.av];omega,by rw[AW.aE _ _ (by omega)];exact h.2.2⟩)
  (λpre r W' ol ⟨hJ,lA,dT⟩=>by
    have hJ2:=hP _ _ (.loop .busy none R nt ps ac bd) (hA _ _ [.ae (r.sec:Int),.ae (r.row:Int),.ae r.first,.ae r.many] hJ lA);obtain⟨⟨x,R2,W3⟩,k1,k2,k3,k4⟩:=step pre r _ W'.next _ rfl ol hJ2 (by rw[AW.bG,AW.av];omega) (by rw[bR _ (by omega)];exact df) lA (by rw[AW.bG,AW.av];omega);simp only at k1 k2 k3 k4;rw[AW.aW]at k3;have hy:=Fm (P:=Tryz.prog) (args:=[Lt r]) dT (by rw[hp];rfl) (has r W' _ rfl) (by rw[AW.aE _ _ (by omega)];exact dT) k1 k3;have hn3:W.next<W3.next:=by rw[AW.bG,AW.av]at k2;omega
    rcases k4 with⟨rfl,k4⟩|⟨kx,k4⟩
    ·exact⟨true,_,hy,λ_=>⟨hP _ _ _ k4,by rw[AW.bG];exact hn3,AW.aW _ _ _⟩,λh=>by cases h⟩
    ·refine⟨false,W3.put W.next (.loop .done x.jump R nt ps ac bd),?_,λh=>by(cases h),λ_=>⟨x,kx,hQ _ _ _ k4,AW.aW _ _ _⟩⟩;refine hy.trans ?_;cases x with
     |normal=>exact absurd rfl kx
     |exit i=>rfl
     |ret=>rfl)
 rcases h2 with⟨h2,h3,h4⟩|⟨x,h2,h3,h4⟩
 ·exact⟨.normal,W2,wX h1 h4 (by simp),.inl ⟨rfl,h2⟩⟩
 ·exact⟨x,W2,JB h1 h4,.inr ⟨h2,h3⟩⟩
def NK{v:fo}{sv:ad}{W0 W:AW}{bx nt:Nat}{R:Nat->ad}{ps:Array Tmp}{ac bd:Code}{ρ:Type}{K:X×AW->Option ρ}{G:ρ->Prop}(hs:gZ W0 sv v.ax)(hg:Good v.ax)
 (hb:bz (.pointer (some ⟨bx,3,none⟩)) (W.add (.loop .ready none R nt ps ac bd))=some (sv,W.add (.loop .ready none R nt ps ac bd)))(hp:ps.size=1)
 (J:List iI->AW->Prop)(Q:X->AW->Prop)(h0:J [] (W.add (.loop .ready none R nt ps ac bd)))
 (hS:∀pre W',J pre W'->Le W0 W')(hA:∀pre W' cs,J pre W'->W.next<W'.next->J pre (W'.add (.cells cs)))(hP:∀pre W' o,J pre W'->J pre (W'.put W.next o))(hQ:∀x W' o,Q x W'->Q x (W'.put W.next o))
 (d:Nat)(has:∀r W' R',R'=nT ps.toList [Lt r] R->ga Tryz.prog ba false nt ac LT R' W' nG=some (.normal,iU R' (some d) (.pointer (some ⟨W'.next,0,none⟩)),W'.add (.cells [.ae (r.sec:Int),.ae (r.row:Int),.ae r.first,.ae r.many])))
 (step:∀pre r W' b R',R'=iU (nT ps.toList [Lt r] R) (some d) (.pointer (some ⟨b,0,none⟩))->pre++[r]<+:eY v.ax->J pre W'->W.next<W'.next->aU W' b=some [.ae (r.sec:Int),.ae (r.row:Int),.ae r.first,.ae r.many]->W.next<b->b<W'.next->
   Ok (ga Tryz.prog ba false nt bd LT R' W' nG) λq=>W'.next<=q.2.2.next/\q.2.2.get W.next=W'.get W.next/\((q.1=.normal/\J (pre++[r]) q.2.2)\/(q.1≠ .normal/\Q q.1 q.2.2)))
 (after:∀x W2,(x=.normal/\J (eY v.ax) W2)\/(x≠ .normal/\Q x W2)->Ok (K (x,W2.kill W.next)) G):
 Ok (fb (ll ba (.func (.func 120) #[] #[.pointer (some ⟨bx,0,none⟩)]) (.loop .ready none R nt ps ac bd) W) K) G:=by
 obtain⟨x,W2,h1,h2⟩:=UY hs hg hb hp J Q h0 hS hA hP hQ d has step;rw[h1,Dk];exact after x W2 h2
def asL(p:Tmp)(v:ad)(R:Nat->ad):nT (#[p]:Array Tmp).toList [v] R=iU R (some p) v:=rfl
def dV(l:List iI):Int:=ii (l.map (·.many))
def mC:Int->List iI->Prop
 |_,[]=>True
 |s,r::l=>r.first=s/\mC (s+r.many) l
def nR:dV []=0:=rfl
def fC(r:iI)(l:List iI):dV (r::l)=r.many+dV l:=rfl
def ou(a b:List iI):dV (a++b)=dV a+dV b:=by
 induction a with
 |nil=>simp[nR]
 |cons r a ih=>rw[oG,fC,fC,ih];omega
def mC.append:∀{a b:List iI} {s:Int},mC s a->mC (s+dV a) b->mC s (a++b)
 |[],_,s,_,h=>by rw[nR,uI]at h;exact h
 |r::a,b,s,⟨h1,h2⟩,h=>⟨h1,mC.append h2 (by rw[fC,<-Int.add_assoc]at h;exact h)⟩
def mC.at:∀{a b:List iI} {r:iI} {s:Int},mC s (a++r::b)->r.first=s+dV a
 |[],_,_,s,⟨h,_⟩=>by rw[h,nR,uI]
 |x::a,b,r,s,⟨_,h⟩=>by rw[mC.at h,fC,Int.add_assoc]
def DO(l:List mV)(i:Nat)(rows:List Int):∀{k:Nat},k<=rows.length->dV (tT l i rows k)=ii (rows.take k)
 |0,_=>rfl
 |k+1,hk=>by rw[pR l i rows (by omega),ou,DO l i rows (by omega),sL (by omega),fC,nR,uI]
def Gu(l:List mV)(i:Nat)(rows:List Int):∀{k:Nat},k<=rows.length->mC (bE (l.take i)) (tT l i rows k)
 |0,_=>trivial
 |k+1,hk=>by rw[pR l i rows (by omega)];exact(Gu l i rows (by omega)).append ⟨by rw[DO l i rows (by omega)],ak⟩
def FJ(l:List mV):∀{n:Nat},n<=l.length->dV (rl l n)=bE (l.take n)
 |0,_=>rfl
 |n+1,hn=>by rw[nj l (by omega),ou,FJ l (by omega),DO l n _ (aQ _),tX (by omega),cM]
def EE(l:List mV):∀{n:Nat},n<=l.length->mC 0 (rl l n)
 |0,_=>trivial
 |n+1,hn=>by rw[nj l (by omega)];refine(EE l (by omega)).append ?_;rw[FJ l (by omega),Int.zero_add];exact Gu l n _ (aQ _)
def Dp(l:List mV):dV (eY l)=bE l:=by have:=FJ l (aQ l.length);rwa [cM]at this
def uE(l:List mV):mC 0 (eY l):=EE l (aQ _)
def PT(l:List mV)(r:iI):Prop:=∃(hi:r.sec<l.length) (hk:r.row<l[r.sec].rows.length),r.many=l[r.sec].rows[r.row]
def sT{l:List mV}{r:iI}(h:r∈eY l):PT l r:=by unfold eY rl at h;obtain⟨i,hi,h⟩:=List.mem_flatMap.1 h;rw[pX]at hi;rw[bN hi]at h;unfold tT at h;obtain⟨k,hk,rfl⟩:=my.1 h;rw[pX]at hk;exact⟨hi,hk,by simp[jt,bN hk]⟩
def PT.many{l:List mV}{r:iI}(h:PT l r)(hg:Good l):1<=r.many/\r.many<=64/\r.sec<8/\r.row<16:=by obtain⟨hi,hk,hm⟩:=h;obtain⟨_,h2,h3⟩:=hg.rows _ (cD hi);have:=h3 _ (cD hk);have:=hg.len;omega
def A9{l:List iI}(h:∀r∈l,1<=r.many):(l.length:Int)<=dV l:=by
 induction l with
 |nil=>simp[nR]
 |cons r l ih=>
  have h1:=h r (by simp);have h2:=ih λx hx=>h x (by simp[hx])
  rw[fC,cQ];omega
def MQ{a l:List iI}(h:a<+:l)(hm:∀r∈l,1<=r.many):0<=dV a/\dV a<=dV l:=by
 obtain⟨b,rfl⟩:=h;have h1:=A9 (l:=a) λr hr=>hm r (by simp[hr])
 have h2:=A9 (l:=b) λr hr=>hm r (by simp[hr])
 rw[ou];omega
def At{l:List mV}(hg:Good l):0<=bE l/\bE l<=8192:=by have h:=(zu hg (aQ l.length));rw[cM]at h;have:=hg.len;omega
def D4{l:List mV}(hg:Good l){pre:List iI}{r:iI}(h:pre++[r]<+:eY l):PT l r/\r.first=dV pre/\0<=dV pre/\dV (pre++[r])<=8192/\1<=r.many/\r.many<=64/\dV (pre++[r])=dV pre+r.many:=by
 have hm:∀r∈eY l,1<=r.many:=λr hr=>((sT hr).many hg).1
 have hr:r∈eY l:=h.subset (by simp);have h1:=MQ h hm;have h2:=MQ ((Ik pre [r]).trans h) hm;rw[Dp]at h1;obtain⟨b,hb⟩:=h;have hf:=uE l;rw[<-hb,iR]at hf;have:=mC.at hf;have hx:=(sT hr).many hg;have:=At hg;refine⟨sT hr,by omega,by omega,by omega,by omega,by omega,?_⟩;rw[ou,fC,nR,uI]
def MN(l:List mV)(i:Nat)(rows:List Int):∀{k:Nat},k<=rows.length->E8 i rows k=(tT l i rows k).flatMap λr=>yH r.sec r.row r.many.toNat
 |0,_=>rfl
 |k+1,hk=>by rw[FN i rows (by omega),pR l i rows (by omega),iS,<-MN l i rows (by omega),fy,A4,fu]
def y9(l:List mV):jz l=(eY l).flatMap λr=>yH r.sec r.row r.many.toNat:=by
 have:∀n,n<=l.length->Cg l n=(rl l n).flatMap λr=>yH r.sec r.row r.many.toNat:=by
  intro n;induction n with
  |zero=>intro _;rfl
  |succ n ih=>intro hn;rw[Fx l (by omega),nj l (by omega),iS,<-ih (by omega),<-MN l n _ (aQ _)]
 exact this _ (aQ _)
def oL3(x:ad)(W:AW):jx Tryz.prog 3 x W=bz x W:=by kernel_rfl
def alJ(x:ad)(W:AW):jx Tryz.prog 35 x W=bz x W:=by kernel_rfl
def akp(x:ad)(W:AW):jx Tryz.prog 163 x W=dJ 4 x W:=by kernel_rfl
def al3(W:AW):dm Tryz.prog 3 W=some (.pointer (some ⟨W.next,0,none⟩),W.add (.cells [.ae 0])):=aS (by kernel_rfl) rfl
def avy(W:AW):dm Tryz.prog 35 W=some (.pointer (some ⟨W.next,0,none⟩),W.add (.cells [.ae 0])):=aS (by kernel_rfl) rfl
def agc(W:AW):dm Tryz.prog 163 W=some (.pointer (some ⟨W.next,0,none⟩),W.add (.cells [.ae 0,.ae 0,.ae 0,.ae 0])):=aS (by kernel_rfl) rfl
def ajb(W:AW):dU Tryz.prog 163 [] W=some (.agg #[.ae 0,.ae 0,.ae 0,.ae 0],W):=aS (by kernel_rfl) rfl
def ao3{b:Nat}{a c d e x y z u:ad}{W:AW}(h:aU W b=some [x,y,z,u])(h1:Eng.one a=true)(h2:Eng.one c=true)(h3:Eng.one d=true)(h4:Eng.one e=true):eZ 4 (.pointer (some ⟨b,0,none⟩)) (.agg #[a,c,d,e]) W=some (aj,W.put b (.cells [a,c,d,e])):=by rw[Tl,h,bJ];have hc:(Value.agg #[a,c,d,e]).cells=#[a,c,d,e]:=YE _;rw[hc,an ⟨rfl,by simp,by simp[h1,h2,h3,h4]⟩];rfl
def Th{b:Nat}{x:ad}{n:Int}{W:AW}(h:aU W b=some [x]):eZ 1 (.pointer (some ⟨b,0,none⟩)) (.ae n) W=some (aj,W.put b (.cells [.ae n])):=by rw[uZ,h];rfl
def LD{b:Nat}{x:ad}{W:AW}(h:aU W b=some [x]):bz (.pointer (some ⟨b,0,none⟩)) W=some (x,W):=aO (jX h) rfl
def KK{b o:Nat}{cs:List ad}{x:ad}{W:AW}(h:aU W b=some cs)(hv:cs[o]? =some x):bz (.pointer (some ⟨b,o,none⟩)) W=some (x,W):=aO (jX h) hv
def JS{v:fo}{sv:ad}{W:AW}(hs:eW W sv v.ax)(hv:v.ax.length<1000):ba (.func (.func 55) #[] #[]) [eQ v sv] W=some (.tuple #[.ae (b9 v).1,.ae (b9 v).2],W):=by
 refine aP rfl ?_ KY;unfold G0 b9;obtain⟨W1,hB,aM,hn,c4,c0,c3⟩:=jO v sv W;have l2:Le W1 (W1.add (.cells [.ae 0])):=(Le.refl W1).add _;have hr:aU (W1.add (.cells [.ae 0])) W1.next=some [.ae 0]:=df;have hn2:W1.next<(W1.add (.cells [.ae 0])).next:=by rw[AW.av];omega
 simp only[SX,hB,al3];generalize W1.add (.cells [.ae 0])=W2 at *;simp only[SX,c4 _ l2,uT (hs.mono (aM.trans l2)) hv];by_cases he:(du v).2=0;case neg=>simp only[SX,he,cn,Th hr,bC,oL3,LD (b8 _),bJ,ah];exact⟨ak,(aM.trans l2).put (by have:=aM.next;omega) _⟩
 obtain⟨hg,-⟩:=cE he;obtain⟨W3,q1,q2,q3,q4⟩:=Oq (v:=v) (sv:=sv) W2;have l3:W1.next<W3.next:=by have:=q2.next;omega
 simp only[SX,aK he,q1,an he];refine NK (hs.mono aM).1 hg (q4 _ ((Le.refl _).add _)) rfl (λpre W'=>Le W1 W'/\aU W' W1.next=some [.ae (dV pre)]) (λ_ _=>False) ⟨(l2.trans q2).add _,by rw[fP _ l3,q2.aU hn2];exact hr⟩ (λ_ _ h=>h.1)
  (λpre W' cs h hl=>⟨h.1.add _,by rw[fP _ (by omega)];exact h.2⟩) (λpre W' o h=>⟨h.1.put (by omega) _,by rw[bR _ (by omega)];exact h.2⟩) (λ_ _ _ h=>h) 6 ?_ ?_ ?_
 ·intro r W' R' hR;have r17:R' 17=Lt r:=by rw[hR];rfl
  rw[Cx];unfold ya;simp only[SX,agc,r17,ao3 df (cF _ _) (cF _ _) (cF _ _) (cF _ _),iK];rfl
 ·intro pre r W' b R' hR ol ⟨h1,h2⟩ hl hb CU lF;have r2:R' 2=.pointer (some ⟨W1.next,0,none⟩):=by rw[hR];rfl
  have r6:R' 6=.pointer (some ⟨b,0,none⟩):=by rw[hR];rfl
  clear hR;rw[Cm];unfold yh;obtain⟨k1,k2,k3,k4,k5,k6,k7⟩:=D4 hg ol;have ea:=fd W' (dV pre) r.many;simp only[SX,r2,r6,LD h2,KK (o:=3) hb rfl,ea,Th h2,aJ,ah];exact⟨by rw[AW.bG];omega,by rw[AW.ay _ _ (by omega)],.inl ⟨ak,h1.put (aQ _) _,by rw[k7];exact b8 _⟩⟩
 ·rintro x W4 (⟨rfl,h1,h2⟩|⟨_,h⟩);case inr=>exact h.elim
  have h3:aU (W4.kill W3.next) W1.next=some [.ae (dV (eY v.ax))]:=by rw[<-h2];unfold aU;rw[AW.de _ (by omega)]
  simp only[SX,LD h3,Th h3,bC,oL3,LD (b8 _),bJ,Dp,ah];exact⟨ak,(aM.trans (h1.kill (by omega))).put (by have:=aM.next;omega) _⟩
abbrev ach(r:iI):List ad:=[.ae (r.sec:Int),.ae (r.row:Int),.ae r.first,.ae r.many]
def abS{α:Type}{p:α->Bool}{pre l:List α}{r:α}(h:pre++[r]<+:l)(h0:∀x∈pre,p x=false)(h1:p r=true):l.find? p=some r:=by obtain⟨b,rfl⟩:=h;rw[iR,List.find?_append,List.find?_eq_none.2 (λx hx=>by simp[h0 x hx]),oG,List.find?_cons_of_pos h1];rfl
def ahM{α:Type}{p:α->Bool}{l:List α}(h0:∀x∈l,p x=false):l.find? p=none:=List.find?_eq_none.2 (λx hx=>by simp[h0 x hx])
def Su{α:Type}{p:α->Bool}{pre:List α}{r:α}(h0:∀x∈pre,p x=false)(h1:p r=false):∀x∈pre++[r],p x=false:=by
 intro x hx;rcases lH.1 hx with h|h
 ·exact h0 x h
 ·rw[ko.1 h];exact h1
def aoK(n:Int)(W:AW):∃W1,pP (.ae n) W=some (.pointer (some ⟨W.next,0,none⟩),W1)/\W1.next=W.next+1/\Le W W1/\aU W1 W.next=some [.ae n]:=
 ⟨_,Rc _ _,AW.av _ _,(Le.refl W).add _,df⟩
def apD(W:AW):∃W1,dm Tryz.prog 3 W=some (.pointer (some ⟨W.next,0,none⟩),W1)/\W1.next=W.next+1/\Le W W1/\aU W1 W.next=some [.ae 0]:=⟨_,al3 W,AW.av _ _,(Le.refl W).add _,df⟩
def aqw(W:AW):∃W1,dm Tryz.prog 35 W=some (.pointer (some ⟨W.next,0,none⟩),W1)/\W1.next=W.next+1/\Le W W1/\aU W1 W.next=some [.ae 0]:=⟨_,avy W,AW.av _ _,(Le.refl W).add _,df⟩
def aiV(W:AW):∃W1,dm Tryz.prog 163 W=some (.pointer (some ⟨W.next,0,none⟩),W1)/\W1.next=W.next+1/\Le W W1/\aU W1 W.next=some [.ae 0,.ae 0,.ae 0,.ae 0]:=⟨_,agc W,AW.av _ _,(Le.refl W).add _,df⟩
def A7{W:AW}{b c:Nat}(h:b≠c):aU (W.kill b) c=aU W c:=by unfold aU;rw[W.de h]
def ld4{b:Nat}{x y z u:ad}{W:AW}(h:aU W b=some [x,y,z,u]):dJ 4 (.pointer (some ⟨b,0,none⟩)) W=some (.agg #[x,y,z,u],W):=xH (jX h) rfl
def MV{b:Nat}{a c d e:Int}{x y z u:ad}{W:AW}(h:aU W b=some [x,y,z,u]):eZ 4 (.pointer (some ⟨b,0,none⟩)) (.agg #[.ae a,.ae c,.ae d,.ae e]) W=some (aj,W.put b (.cells [.ae a,.ae c,.ae d,.ae e])):=ao3 h rfl rfl rfl rfl
def yf(bP:Int)(r:iI):Bool:=decide (r.first<=bP)&&decide (bP<r.first+r.many)
abbrev zs:List ad:=[.ae 0,.ae 0,.ae 0,.ae 0]
abbrev apV:iI:=⟨0,0,0,0⟩
def me(v:fo)(bP:Int):iI×Int:=if(du v).2=0 then(match(eY v.ax).find? (yf bP)with
 |some r=>(r,0)
 |none=>(apV,4))else(apV,(du v).2)
def afu{v:fo}{sv:ad}{W:AW}{bP:Int}(hs:eW W sv v.ax)(hv:v.ax.length<1000):ba (.func (.func 215) #[] #[]) [eQ v sv,.ae bP] W=some (.tuple #[Lt (me v bP).1,.ae (me v bP).2],W):=by
 refine aP rfl ?_ Mk;unfold KB me;obtain⟨W1,hB,aM,hn,c4,c0,c3⟩:=jO v sv W;obtain⟨W2,b2,n2,l2,r2⟩:=aoK bP W1;obtain⟨W3,b3,n3,l3,r3⟩:=aiV W2;obtain⟨W4,b4,n4,l4,r4⟩:=aqw W3;have r34:aU W4 W2.next=some [.ae 0,.ae 0,.ae 0,.ae 0]:=by rw[l4.aU (by omega)];exact r3
 have l24:=l3.trans l4;have PI:=aM.trans l2;have hsn:=aM.next;simp only[SX,hB,b2,b3,b4,c4 _ (l2.trans l24),uT (hs.mono (PI.trans l24)) hv];by_cases he:(du v).2=0;case neg=>
  have p1:aU (W4.put W2.next (.cells (zs))) W3.next=some [.ae 0]:=by rw[bR _ (by omega)];exact r4
  have p2:∀x,aU ((W4.put W2.next (.cells (zs))).put W3.next x) W2.next=some (zs):=λx=>by rw[bR _ (by omega)];exact b8 _
  simp only[SX,he,cn,ajb,MV r34,Th p1,AX,akp,alJ,ld4 (p2 _),LD (b8 _),bJ,ah];exact⟨rfl,((PI.trans l24).put (by omega) _).put (by omega) _⟩
 obtain⟨hg,-⟩:=cE he;obtain⟨W5,q1,q2,q3,q4⟩:=Oq (v:=v) (sv:=sv) W4;have hn5:=q2.next;simp only[SX,aK he,q1,an he];refine NK (hs.mono PI).1 hg (q4 _ ((Le.refl _).add _)) rfl (λpre W'=>Le W2 W'/\aU W' W2.next=some (zs)/\aU W' W3.next=some [.ae 0]/\∀r∈pre,yf bP r=false)
  (λx W'=>x=.ret/\Le W2 W'/\∃r,(eY v.ax).find? (yf bP)=some r/\aU W' W2.next=some (ach r)/\aU W' W3.next=some [.ae 0])
  ⟨(l24.trans q2).add _,by rw[fP _ (by omega),q2.aU (by omega)];exact r34,by rw[fP _ (by omega),q2.aU (by omega)];exact r4,by simp⟩ (λ_ _ h=>h.1)
  (λpre W' cs h hl=>⟨h.1.add _,by rw[fP _ (by omega)];exact h.2.1,by rw[fP _ (by omega)];exact h.2.2.1,h.2.2.2⟩)
  (λpre W' o h=>⟨h.1.put (by omega) _,by rw[bR _ (by omega)];exact h.2.1,by rw[bR _ (by omega)];exact h.2.2.1,h.2.2.2⟩)
  (λx W' o ⟨h1,h2,r,h3,h4,h5⟩=>⟨h1,h2.put (by omega) _,r,h3,by rw[bR _ (by omega)];exact h4,by rw[bR _ (by omega)];exact h5⟩) 8 ?_ ?_ ?_
 ·intro r W' R' hR;have r17:R' 20=Lt r:=by rw[hR];rfl
  rw[Eo];unfold zQ;simp only[SX,agc,r17,MV df,iK];rfl
 ·intro pre r W' b R' hR ol ⟨h1,h2,h3,h4⟩ hl hb CU lF;have f3:R' 3=.pointer (some ⟨W1.next,0,none⟩):=by rw[hR];rfl
  have f4:R' 4=.pointer (some ⟨W2.next,0,none⟩):=by rw[hR];rfl
  have f5:R' 5=.pointer (some ⟨W3.next,0,none⟩):=by rw[hR];rfl
  have f8:R' 8=.pointer (some ⟨b,0,none⟩):=by rw[hR];rfl
  clear hR;rw[C9];unfold zj;obtain⟨k1,k2,k3,k4,k5,k6,k7⟩:=D4 hg ol;have ea:=fd W' r.first r.many;have nh:aU W' W1.next=some [.ae bP]:=by rw[h1.aU (by omega)];exact r2
  simp only[SX,f3,f8,LD nh,KK (o:=2) hb rfl,aJ];have nP:yf bP r=(decide (r.first<=bP)&&decide (bP<r.first+r.many)):=rfl;by_cases t1:r.first<=bP;case neg=>rw[aL t1,p8]at nP;simp only[SX,t1,ah];exact⟨aQ _,ak,.inl ⟨ak,h1,h2,h3,Su h4 nP⟩⟩
  simp only[SX,aK t1,KK (o:=2) hb rfl,KK (o:=3) hb rfl,ea];by_cases t2:bP<r.first+r.many;case neg=>rw[aL t2,Di]at nP;simp only[SX,t2,ah];exact⟨aQ _,ak,.inl ⟨ak,h1,h2,h3,Su h4 nP⟩⟩
  rw[aK t1,aK t2]at nP;have p1:aU (W'.put W2.next (.cells (ach r))) W3.next=some [.ae 0]:=by rw[bR _ (by omega)];exact h3
  simp only[SX,aK t2,f4,f5,ld4 hb,MV h2,Th p1,ah];exact⟨aQ _,by rw[AW.ay _ _ (by omega),AW.ay _ _ (by omega)],.inr ⟨by simp,ak,(h1.put (by omega) _).put (by omega) _,r,abS ol h4 nP,by rw[bR _ (by omega)];exact b8 _,b8 _⟩⟩
 ·rintro x W6 (⟨rfl,h1,h2,h3,h4⟩|⟨_,rfl,h1,r,h2,h3,h4⟩)
  ·have k2:aU (W6.kill W5.next) W2.next=some (zs):=by rw[A7 (by omega)];exact h2
   have k3:aU ((W6.kill W5.next).put W2.next (.cells (zs))) W3.next=some [.ae 0]:=by rw[bR _ (by omega),A7 (by omega)];exact h3
   have p2:∀x,aU (((W6.kill W5.next).put W2.next (.cells (zs))).put W3.next x) W2.next=some (zs):=λx=>by rw[bR _ (by omega)];exact b8 _
   simp only[SX,ajb,MV k2,Th k3,AX,akp,alJ,ld4 (p2 _),LD (b8 _),bJ,ahM h4,ah];exact⟨rfl,(((PI.trans h1).kill (by omega)).put (by omega) _).put (by omega) _⟩
  ·have k2:aU (W6.kill W5.next) W2.next=some (ach r):=by rw[A7 (by omega)];exact h3
   have k3:aU (W6.kill W5.next) W3.next=some [.ae 0]:=by rw[A7 (by omega)];exact h4
   simp only[SX,AX,akp,alJ,ld4 k2,LD k3,bJ,h2,ah];exact⟨ak,(PI.trans h1).kill (by omega)⟩
def ie(sec:Int)(r:iI):Bool:=decide ((r.sec:Int)=sec)
def Sy:List iI->Int
 |[]=>0
 |r::_=>r.first
def ofE(v:fo)(sec:Int):Int×Int×Int:=if(du v).2=0 then
 if dV ((eY v.ax).filter (ie sec))=0 then(0,0,4)else(Sy ((eY v.ax).filter (ie sec)),dV ((eY v.ax).filter (ie sec)),0)
 else(0,0,(du v).2)
def nI{α:Type}{p:α->Bool}{pre:List α}{r:α}(h:p r=true):(pre++[r]).filter p=pre.filter p++[r]:=by simp[rG,h]
def sU{α:Type}{p:α->Bool}{pre:List α}{r:α}(h:p r=false):(pre++[r]).filter p=pre.filter p:=by simp[rG,h]
def YT{l:List iI}{r:iI}(h:l≠[]):Sy (l++[r])=Sy l:=by
 cases l with
 |nil=>exact absurd rfl h
 |cons=>rfl
def aq7{v:fo}{sv:ad}{W:AW}{sec:Int}(hs:eW W sv v.ax)(hv:v.ax.length<1000):ba (.func (.func 211) #[] #[]) [eQ v sv,.ae sec] W=some (.tuple #[.ae (ofE v sec).1,.ae (ofE v sec).2.1,.ae (ofE v sec).2.2],W):=by
 refine aP rfl ?_ Ri;unfold QF ofE;obtain⟨W1,hB,aM,hn,c4,c0,c3⟩:=jO v sv W;obtain⟨W2,b2,n2,l2,r2⟩:=aoK sec W1;obtain⟨W3,b3,n3,l3,r3⟩:=apD W2;obtain⟨W4,b4,n4,l4,r4⟩:=apD W3;have r34:aU W4 W2.next=some [.ae 0]:=by rw[l4.aU (by omega)];exact r3
 have l24:=l3.trans l4;have PI:=aM.trans l2;have hsn:=aM.next;have e2:∀(W':AW) a b,aU ((W'.put W2.next (.cells a)).put W3.next b) W2.next=some a:=λW' a b=>by rw[bR _ (by omega)];exact b8 _
 have e3:∀(W':AW) a,aU (W'.put W2.next a) W3.next=aU W' W3.next:=λW' a=>bR _ (by omega)
 simp only[SX,hB,b2,b3,b4,c4 _ (l2.trans l24),uT (hs.mono (PI.trans l24)) hv];by_cases he:(du v).2=0;case neg=>simp only[SX,he,cn,Th r34,Th ((e3 _ _).trans r4),D3,oL3,LD (e2 _ _ _),LD (b8 _),bJ,ah];exact⟨ak,((PI.trans l24).put (by omega) _).put (by omega) _⟩
 obtain⟨hg,-⟩:=cE he;obtain⟨W5,q1,q2,q3,q4⟩:=Oq (v:=v) (sv:=sv) W4;have hn5:=q2.next;simp only[SX,aK he,q1,an he];refine NK (hs.mono PI).1 hg (q4 _ ((Le.refl _).add _)) rfl (λpre W'=>Le W2 W'/\aU W' W2.next=some [.ae (Sy (pre.filter (ie sec)))]/\aU W' W3.next=some [.ae (dV (pre.filter (ie sec)))])
  (λx W'=>False)
  ⟨(l24.trans q2).add _,by rw[fP _ (by omega),q2.aU (by omega)];exact r34,by rw[fP _ (by omega),q2.aU (by omega)];exact r4⟩ (λ_ _ h=>h.1)
  (λpre W' cs h hl=>⟨h.1.add _,by rw[fP _ (by omega)];exact h.2.1,by rw[fP _ (by omega)];exact h.2.2⟩)
  (λpre W' o h=>⟨h.1.put (by omega) _,by rw[bR _ (by omega)];exact h.2.1,by rw[bR _ (by omega)];exact h.2.2⟩)
  (λx W' o h=>h) 9 ?_ ?_ ?_
 ·intro r W' R' hR;have r17:R' 20=Lt r:=by rw[hR];rfl
  rw[HD];unfold Eb;simp only[SX,agc,r17,MV df,iK];rfl
 ·intro pre r W' b R' hR ol ⟨h1,h2,h3⟩ hl hb CU lF;have f3:R' 3=.pointer (some ⟨W1.next,0,none⟩):=by rw[hR];rfl
  have f4:R' 4=.pointer (some ⟨W2.next,0,none⟩):=by rw[hR];rfl
  have f5:R' 5=.pointer (some ⟨W3.next,0,none⟩):=by rw[hR];rfl
  have f8:R' 9=.pointer (some ⟨b,0,none⟩):=by rw[hR];rfl
  clear hR;rw[H1];unfold Du;obtain⟨k1,k2,k3,k4,k5,k6,k7⟩:=D4 hg ol;have nh:aU W' W1.next=some [.ae sec]:=by rw[h1.aU (by omega)];exact r2
  have hmp:∀x∈pre,1<=x.many:=λx hx=>((sT (((Ik pre [r]).trans ol).subset hx)).many hg).1
  have hms:=A9 (l:=pre.filter (ie sec)) (λx hx=>hmp x (pj.1 hx).1);have aBY:dV (pre.filter (ie sec))<=dV pre:=by
   have:∀l:List iI,(∀x∈l,1<=x.many)->dV (l.filter (ie sec))<=dV l:=by
    intro l;induction l with
    |nil=>intro _;exact sy _
    |cons x l ih=>
     intro h;have:=ih λy hy=>h y (by simp[hy])
     have:=h x (by simp);rw[Es];split
     ·rw[fC,fC];omega
     ·rw[fC];omega
   exact this _ hmp
  have ea:∀W',bO Tryz.prog .add 3 false false (.ae (dV (pre.filter (ie sec)))) (.ae r.many) W'=some (.ae (dV (pre.filter (ie sec))+r.many),W'):=λW'=>kU (by omega) (by omega)
  simp only[SX,f3,f8,LD nh,KK (o:=0) hb rfl,aJ];by_cases t1:(r.sec:Int)=sec;case neg=>have nP:ie sec r=false:=aL t1;simp only[SX,t1,ah];exact⟨aQ _,ak,.inl ⟨ak,h1,by rw[sU nP];exact h2,by rw[sU nP];exact h3⟩⟩
  have nP:ie sec r=true:=aK t1;have aoY:dV (pre.filter (ie sec)++[r])=dV (pre.filter (ie sec))+r.many:=by rw[ou,fC,nR,uI]
  simp only[SX,aK t1,f5,LD h3];by_cases t2:dV (pre.filter (ie sec))=0
  ·have au1:pre.filter (ie sec)=[]:=by rw[t2]at hms;exact mw.1 (by omega)
   have Kf:aU (W'.put W2.next (.cells [.ae r.first])) b=some (ach r):=by rw[bR _ (by omega)];exact hb
   simp only[SX,aK t2,f4,KK (o:=2) hb rfl,KK (o:=3) Kf rfl,Th h2,LD ((e3 _ _).trans h3),ea,Th ((e3 _ _).trans h3),ah];exact⟨aQ _,by rw[AW.ay _ _ (by omega),AW.ay _ _ (by omega)],.inl ⟨ak,(h1.put (by omega) _).put (by omega) _,by rw[e2,nI nP,au1];rfl,by rw[b8,nI nP,aoY]⟩⟩
  ·have fp:pre.filter (ie sec)≠[]:=λe=>t2 (by rw[e];rfl)
   simp only[SX,t2,KK (o:=3) hb rfl,ea,Th h3,ah];exact⟨aQ _,by rw[AW.ay _ _ (by omega)],.inl ⟨ak,h1.put (by omega) _,by rw[bR _ (by omega),nI nP,YT fp];exact h2,by rw[b8,nI nP,aoY]⟩⟩
 ·rintro x W6 (⟨rfl,h1,h2,h3⟩|⟨_,h⟩);case inr=>exact h.elim
  have k2:aU (W6.kill W5.next) W2.next=some [.ae (Sy ((eY v.ax).filter (ie sec)))]:=by rw[A7 (by omega)];exact h2
  have k3:aU (W6.kill W5.next) W3.next=some [.ae (dV ((eY v.ax).filter (ie sec)))]:=by rw[A7 (by omega)];exact h3
  simp only[SX,LD k3];by_cases t2:dV ((eY v.ax).filter (ie sec))=0
  ·simp only[SX,aK t2,an t2,Th k2,Th ((e3 _ _).trans k3),D3,oL3,LD (e2 _ _ _),LD (b8 _),bJ,ah];exact⟨ak,(((PI.trans h1).kill (by omega)).put (by omega) _).put (by omega) _⟩
  ·have Z1:kA true (some (.ae (dV ((eY v.ax).filter (ie sec))),(W6.kill W5.next).put W2.next (.cells [.ae (Sy ((eY v.ax).filter (ie sec)))]))) (.ae (dV ((eY v.ax).filter (ie sec))))=true:=aeJ rfl (lK _ _);simp only[SX,t2,LD k2,LD k3,Th k2,LD ((e3 _ _).trans k3),Z1,fN,Th ((e3 _ _).trans k3),D3,oL3,LD (e2 _ _ _),LD (b8 _),bJ,ah];exact⟨by simp only[cn],(((PI.trans h1).kill (by omega)).put (by omega) _).put (by omega) _⟩
def awL(W:AW):dm Tryz.prog 177 W=some (.pointer (some ⟨W.next,0,none⟩),W.add (.cells [.ae 0,.ae 0,.ae 0])):=aS (by kernel_rfl) rfl
def ZB(x:ad)(W:AW):jx Tryz.prog 177 x W=dJ 3 x W:=by kernel_rfl
def Xb(W:AW):dU Tryz.prog 177 [] W=some (.agg #[.ae 0,.ae 0,.ae 0],W):=aS (by kernel_rfl) rfl
def abq(W:AW):∃W1,dm Tryz.prog 177 W=some (.pointer (some ⟨W.next,0,none⟩),W1)/\W1.next=W.next+1/\Le W W1/\aU W1 W.next=some [.ae 0,.ae 0,.ae 0]:=⟨_,awL W,AW.av _ _,(Le.refl W).add _,df⟩
def ld3{b:Nat}{x y z:ad}{W:AW}(h:aU W b=some [x,y,z]):dJ 3 (.pointer (some ⟨b,0,none⟩)) W=some (.agg #[x,y,z],W):=xH (jX h) rfl
def Hm{b:Nat}{a c d:Int}{x y z:ad}{W:AW}(h:aU W b=some [x,y,z]):eZ 3 (.pointer (some ⟨b,0,none⟩)) (.agg #[.ae a,.ae c,.ae d]) W=some (aj,W.put b (.cells [.ae a,.ae c,.ae d])):=ahp h rfl rfl rfl
def aga{α:Type}{l:List α}{r:α}(h:r∈l):∃pre,pre++[r]<+:l:=by obtain⟨a,b,rfl⟩:=List.append_of_mem h;exact⟨a,⟨b,by simp⟩⟩
def agZ{l:List mV}(hg:Good l){r:iI}(h:r∈eY l):PT l r/\0<=r.first/\r.first+r.many<=8192/\1<=r.many/\r.many<=64/\r.sec<8/\r.row<16:=by obtain⟨pre,hp⟩:=aga h;obtain⟨k1,k2,k3,k4,k5,k6,k7⟩:=D4 hg hp;have:=k1.many hg;exact⟨k1,by omega,by omega,k5,k6,by omega,by omega⟩
def UH{v:fo}{bP:Int}(h:(me v bP).2=0):(du v).2=0/\(me v bP).1∈eY v.ax/\(eY v.ax).find? (yf bP)=some (me v bP).1/\(me v bP).1.first<=bP/\bP<(me v bP).1.first+(me v bP).1.many:=by
 unfold me at h|-;by_cases he:(du v).2=0
 ·rw[an he]at h|-;cases hf:(eY v.ax).find? (yf bP)with
  |none=>rw[hf]at h;exact absurd h (by decide)
  |some r=>have hi:=List.find?_some hf;unfold yf at hi;simp only[bA,ip]at hi;exact⟨he,Pf hf,rfl,hi.1,hi.2⟩
 ·rw[ap he]at h;exact absurd h he
def dF(v:fo)(bP:Int):Ta×Int:=if(me v bP).2=0 then(((me v bP).1.sec,(me v bP).1.row,(bP-(me v bP).1.first).toNat),0)else((0,0,0),(me v bP).2)
abbrev ag6(p:Ta):ad:=.agg #[.ae (p.1:Int),.ae (p.2.1:Int),.ae (p.2.2:Int)]
def aem{v:fo}{sv:ad}{W:AW}{bP:Int}(hs:eW W sv v.ax)(hv:v.ax.length<1000):ba (.func (.func 200) #[] #[]) [eQ v sv,.ae bP] W=some (.tuple #[ag6 (dF v bP).1,.ae (dF v bP).2],W):=by
 refine aP rfl ?_ Ku;unfold GF dF;obtain⟨W1,hB,aM,hn,c4,c0,c3⟩:=jO v sv W;obtain⟨W2,b2,n2,l2,r2⟩:=abq W1;obtain⟨W3,b3,n3,l3,r3⟩:=aiV W2;have r23:∀x,aU (W3.put W2.next x) W1.next=some [.ae 0,.ae 0,.ae 0]:=λx=>by rw[bR _ (by omega),l3.aU (by omega)];exact r2
 have hsn:=aM.next;have l03:=(aM.trans l2).trans l3;simp only[SX,hB,b2,b3,c4 _ l2,afu (hs.mono (aM.trans l2)) hv,MV r3];by_cases he:(me v bP).2=0;case neg=>simp only[SX,he,cn,Xb,Hm (r23 _),bC,ZB,ld3 (b8 _),bJ,ah];exact⟨rfl,(l03.put (by omega) _).put (by omega) _⟩
 obtain⟨h1,h2,h3,h4,h5⟩:=UH he;obtain⟨k1,k2,k3,k4,k5,-,-⟩:=agZ (cE h1).1 h2;have hb:=b8 (W:=W3) (b:=W2.next) (ach (me v bP).1);have ea:∀W',bO Tryz.prog .sub 3 false false (.ae bP) (.ae (me v bP).1.first) W'=some (.ae (bP-(me v bP).1.first),W'):=λW'=>tJ (by omega) (by omega)
 have et:((bP-(me v bP).1.first).toNat:Int)=bP-(me v bP).1.first:=Int.toNat_of_nonneg (by omega);simp only[SX,aK he,an he,aJ,KK (o:=0) hb rfl,KK (o:=1) hb rfl,KK (o:=2) hb rfl,ea,aqU,Hm (r23 _),bC,ZB,ld3 (b8 _),bJ,ah];exact⟨by simp only[ag6];rw[et],(l03.put (by omega) _).put (by omega) _⟩
def amk.get{W:AW}{v:ad}{l:List Ta}(h:amk W v l){i:Nat}(hi:i<l.length):∃b o,(∀W' k,pc 3 v (.int k (i:Int)) W'=some (.pointer (some ⟨b,o,none⟩),W'))/\
 ∀W',Le W W'->bz (.pointer (some ⟨b,o,none⟩)) W'=some (.ae (l[i].1:Int),W')/\bz (.pointer (some ⟨b,o+1,none⟩)) W'=some (.ae (l[i].2.1:Int),W')/\dJ 3 (.pointer (some ⟨b,o,none⟩)) W'=some (ag6 l[i],W'):=by
 obtain⟨a,c,rfl,h⟩:=h;rcases h with rfl|⟨b,o,cs,rfl,hb,hc,sI⟩
 ·simp at hi
 ·refine⟨b,o+i*3,λW' k=>oq hi,λW' aM=>?_⟩;have yT:=(aM.aH hb).trans hc;obtain⟨h1,h2,h3⟩:=sI i hi;refine⟨aO yT h1,aO yT h2,?_⟩;have:=adp h1 h2 h3;rw[JV,yT,bJ,this];rfl
def Mz(b:Bool):tn aj b=false:=aS (by unfold tn aj;rfl) rfl
def Q5{α:Type}(p:α->Bool)(l:List α):Nat:=if(l.filter p).length=0 then 0 else l.findIdx p
def ZI{α:Type}{p:α->Bool}{l:List α}{a:α}:Q5 p (l++[a])=if p a=true/\(l.filter p).length=0 then l.length else Q5 p l:=by
 unfold Q5;cases ha:p a with
 |false=>rw[sU ha];simp only[ik,false_and,cn];by_cases h:(l.filter p).length=0
         ·rw[an h,an h]
         ·rw[ap h,ap h];have:l.findIdx p<l.length:=by rw[List.findIdx_lt_length];obtain⟨x,hx⟩:=List.exists_mem_of_length_pos (Nat.pos_of_ne_zero h);exact⟨x,(pj.1 hx).1,(pj.1 hx).2⟩
          rw[If,an this]
 |true=>
  rw[nI ha];by_cases h:(l.filter p).length=0
  ·simp only[h,mY,bi,cx,cQ,qB];have hn:l.findIdx p=l.length:=by
    rw[List.findIdx_eq_length];intro x hx;cases hp:p x with
    |false=>rfl
    |true=>have:x∈l.filter p:=pj.2 ⟨hx,hp⟩;rw[mw.1 h]at this;cases this
   rw[bM,If,bM];simp[List.findIdx_cons,ha]
  ·simp only[h,and_false,cn];have:l.findIdx p<l.length:=by rw[List.findIdx_lt_length];obtain⟨x,hx⟩:=List.exists_mem_of_length_pos (Nat.pos_of_ne_zero h);exact⟨x,(pj.1 hx).1,(pj.1 hx).2⟩
   rw[ap (by rw[cx];simp),If,an this]
def ri(r:iI):List Ta:=yH r.sec r.row r.many.toNat
def sG(r:iI):(ri r).length=r.many.toNat:=by simp[ri,yH]
def YI(r:iI){i:Nat}(h:i<r.many.toNat):(ri r)[i]? =some (r.sec,r.row,i):=by unfold ri yH;rw[jJ,IG h];rfl
def G2:∀{L:List iI} {s bP:Int},mC s L->(∀r∈L,1<=r.many)->s<=bP->bP<s+dV L->
 ∃r,L.find? (yf bP)=some r/\(L.flatMap ri)[(bP-s).toNat]? =some (r.sec,r.row,(bP-r.first).toNat)
 |[],s,bP,_,_,h1,h2=>by rw[nR]at h2;omega
 |r::L,s,bP,⟨hf,hF⟩,hm,h1,h2=>by
  have hr:=hm r (by simp);rw[fC]at h2;by_cases h:bP<s+r.many
  ·refine⟨r,?_,?_⟩
   ·rw[List.find?_cons_of_pos];unfold yf;simp only[bA,ip];omega
   ·rw[fy,zl (by rw[sG];omega),YI _ (by omega),hf]
  ·obtain⟨x,x1,x2⟩:=G2 (s:=s+r.many) hF (λy hy=>hm y (by simp[hy])) (by omega) (by omega:bP<s+r.many+dV L);refine⟨x,?_,?_⟩
   ·rw[List.find?_cons_of_neg,x1];unfold yf;simp only[bA,ip];omega
   ·rw[fy,pY (by rw[sG];omega),sG];rw[show(bP-s).toNat-r.many.toNat=(bP-(s+r.many)).toNat by omega];exact x2
def Ev:∀{L:List iI} {s bP:Int},mC s L->(∀r∈L,1<=r.many)->(bP<s\/s+dV L<=bP)->L.find? (yf bP)=none
 |[],_,_,_,_,_=>rfl
 |r::L,s,bP,⟨hf,hF⟩,hm,h=>by
  have hr:=hm r (by simp);rw[fC]at h;have hp:=A9 (l:=L) (λy hy=>hm y (by simp[hy]));rw[List.find?_cons_of_neg]
  ·exact Ev hF (λy hy=>hm y (by simp[hy])) (by omega)
  ·unfold yf;simp only[bA,ip];omega
def AO(v:fo)(bP:Int):Ta×Int:=if(b9 v).2=0 then(if bP<0\/(b9 v).1<=bP then((0,0,0),4)else((jz v.ax).getD bP.toNat (0,0,0),0))else((0,0,0),(b9 v).2)
def MU(v:fo)(bP:Int):AO v bP=dF v bP:=by
 unfold AO dF me b9;by_cases he:(du v).2=0;case neg=>simp only[ap he]
 simp only[an he,bi];obtain⟨hg,-⟩:=cE he;have hm:∀x∈eY v.ax,1<=x.many:=λx hx=>((sT hx).many hg).1
 have qk:(eY v.ax).flatMap ri=jz v.ax:=(y9 v.ax).symm;by_cases h:bP<0\/bE v.ax<=bP
 ·rw[an h,Ev (uE v.ax) hm (by rw[Dp];omega)];rfl
 ·rw[ap h];obtain⟨r,r1,r2⟩:=G2 (uE v.ax) hm (by omega:0<=bP) (by rw[Dp];omega);rw[qk,Int.sub_zero]at r2;rw[r1,jt,r2];rfl
def Qu{v:fo}{sv:ad}{W:AW}{bP:Int}(hs:gZ W sv v.ax)(hv:v.ax.length<1000)(hr:∀s∈v.ax,s.rows.length<1000):ba (.func (.func 107) #[] #[]) [eQ v sv,.ae bP] W=some (.tuple #[ag6 (dF v bP).1,.ae (dF v bP).2],W):=by
 rw[<-MU];refine aP rfl ?_ I7;unfold G8 AO;obtain⟨W1,hB,aM,hn,c4,c0,c3⟩:=jO v sv W;obtain⟨W2,b2,n2,l2,r2⟩:=abq W1;have hsn:=aM.next;have PI:=aM.trans l2;simp only[SX,hB,b2,c4 _ l2,qT (hs.mono PI) hv hr];by_cases he:(b9 v).2=0;case neg=>simp only[SX,he,cn,Mz,Xb,Hm r2,bC,ZB,ld3 (b8 _),bJ,ah];exact⟨rfl,PI.put (by omega) _⟩
 have e40:¬((4:Int)=0):=by decide
 simp only[SX,aK he,an he];by_cases t1:bP<0
 ·simp only[SX,aK t1,an (Or.inl t1:bP<0\/(b9 v).1<=bP),e40,Xb,Hm r2,bC,ZB,ld3 (b8 _),bJ,ah];exact⟨rfl,PI.put (by omega) _⟩
 by_cases t2:(b9 v).1<=bP
 ·simp only[SX,aL t1,aK t2,an (Or.inr t2:bP<0\/(b9 v).1<=bP),e40,Xb,Hm r2,bC,ZB,ld3 (b8 _),bJ,ah];exact⟨rfl,PI.put (by omega) _⟩
 have hvz:(du v).2=0:=by
  unfold b9 at he;split at he
  ·assumption
  ·exact he
 have t7:(b9 v).1=bE v.ax:=by unfold b9;rw[an hvz]
 obtain⟨hg,-⟩:=cE hvz;obtain⟨r,W3,q1,q2,q3⟩:=Bf (hs.mono PI) hg;have qk:=tQ hg;have lA:bP.toNat<(jz v.ax).length:=by omega
 obtain⟨b,o,p1,p2⟩:=q3.get lA;obtain⟨-,-,p5⟩:=p2 W3 (.refl _);have p1':=λW'=>p1 W' .i64
 rw[Int.toNat_of_nonneg (by omega)]at p1';have r23:aU W3 W1.next=some [.ae 0,.ae 0,.ae 0]:=by rw[q2.aU (by omega)];exact r2
 simp only[SX,aL t1,aL t2,ap (λh=>h.elim t1 t2:¬(bP<0\/(b9 v).1<=bP)),c4 _ l2,q1,p1',p5,Hm r23,bC,ZB,ld3 (b8 _),bJ,ah];exact⟨by rw[jt,bN lA];rfl,(PI.trans q2).put (by omega) _⟩
def Hc:fI:=λc a=>aX a λb=>az 0 b λd=>aB d λe=>bY e (I 0) λf=>gI f (az 1 b λg=>aB g λh=>gB (anY h (.int .u32 0)) λi=>gT i (jp 2 b) λj=>gT i (bz j) λk=>gT i (amF k (I 0)) λl=>aT i l (.bool false) λm=>eJ .not m λn=>gI n (yO [(I 6,none)]) (yO [(I 0,none)])) (bY e (I 1) λg=>gI g (az 2 b λh=>aB h λi=>gB (an5 i (I 0)) λj=>eJ .not j λk=>gI k (yO [(I 6,none)]) (yO [(I 0,none)])) (bY e (I 2) λh=>gI h (az 2 b λi=>aB i λj=>gB (amF j (I 0)) λk=>eJ .not k λl=>gI l (yO [(I 6,none)]) (yO [(I 0,none)])) (eJ .not (.bool false) λi=>gI i (yO [(I 6,none)]) (yO [(I 0,none)]))))
def Jd{x0 W r}(h:Hc ba x0 W=some r):OG 63 #[] [x0] W r:=oM 28 h (by kernel_rfl)
def Gr:fI:=λc a=>aX a λb=>az 2 b λd=>aB d λe=>az 0 b λf=>aB f λg=>bY g (I 1) λh=>gI h (gB (Ms e (I 0)) λi=>gI i (yO [(I 6,none)]) (yO [(I 0,none)])) (bY g (I 0) λi=>gI i (az 1 b λj=>aB j λk=>gB (ags k (.int .u32 0)) λl=>gI l (yO [(I 6,none)]) (gB (akl e (I 0)) λm=>gI m (yO [(I 6,none)]) (yO [(I 0,none)]))) (bY g (I 2) λj=>gI j (gB (akl e (I 0)) λk=>gI k (yO [(I 6,none)]) (yO [(I 0,none)])) (yO [(I 6,none)])))
def Lc{x0 W r}(h:Gr ba x0 W=some r):OG 97 #[] [x0] W r:=oM 21 h (by kernel_rfl)
def DN:dE:=λc a b=>aX a λd=>aG 87 λe=>aN 5 d λf=>aN 5 d λg=>bV c 187 [f,b] λh=>gA (λW=>kA true (dJ 5 d W) g&&true) (bV c 188 [g,I 1] λi=>bu 251 2 [(0,h),(1,i)] λj=>bV c 186 [j] λk=>cy k (I 0) λl=>gI l (aN 5 d λm=>aA 5 e m λn=>yO [(e,some 87),(k,none)]) (az 2 d λm=>aB m λn=>bV c 165 [n,b] λo=>aq o 0 λp=>aq o 1 λr=>eJ .not p λs=>gI s (aN 5 d λt=>aA 5 e t λu=>yO [(e,some 87),(I 9,none)]) (aN 5 d λt=>bV c 194 [t] λu=>aA 5 e u λv=>yO [(e,some 87),(I 0,none)])))
def H0{x0 x1 W r}(h:DN ba x0 x1 W=some r):OG 169 #[] [x0,x1] W r:=oM 32 h (by kernel_rfl)
def nE:cU:=λc S=>bQ (S 8) (S 7) λa=>gI a (bH 1 (S 6) (S 8) λb=>aB b λd=>gB (aqK d (S 3)) λe=>let T:=q (q (q S 9 [a,b,d]) 5 [d]) 12 [d,S 3,e];gI e (yR (q (q T 15 [d]) 2 [d])) (bK (S 8) (I 1) λf=>yN (q (q T 16 [f]) 8 [f]))) (yE 0 (q S 9 [a]))
def yi:fI:=λc a=>gB (apv a) λb=>gL (nE c) (q (q (cG 0 [a] ai.blank) 2 [I 0,I 0]) 6 [a,b,I 0]) λd S=>gX 0 d (yO [(S 3,none)]) (gR d (yO [(S 2,none)]))
def CJ{x0 W r}(h:yi ba x0 W=some r):OG 186 #[] [x0] W r:=oM 18 h (by kernel_rfl)
def JJ:dE:=λc a b=>aX a λd=>aN 5 d λe=>bV c 97 [e] λf=>cy f (I 0) λg=>gI g (yO [(f,none)]) (gB (Ms b (I 0)) λh=>gI h (yO [(I 7,none)]) (yO [(I 0,none)]))
def LG{x0 x1 W r}(h:JJ ba x0 x1 W=some r):OG 187 #[] [x0,x1] W r:=oM 13 h (by kernel_rfl)
def Hj:dE:=λc a b=>aX a λd=>aN 5 d λe=>bV c 97 [e] λf=>cy f (I 0) λg=>gI g (yO [(f,none)]) (az 0 d λh=>aB h λi=>gB (Ln i b) λj=>gI j (yO [(I 15,none)]) (yO [(I 0,none)]))
def Je{x0 x1 W r}(h:Hj ba x0 x1 W=some r):OG 188 #[] [x0,x1] W r:=oM 15 h (by kernel_rfl)
def Er:dE:=λc a b=>bu 150 2 [(0,a),(1,b)] λd=>bV c 197 [d] λe=>gI e (yO [(.bool false,none),(I 7,none)]) (gB (Zr a b) λf=>yO [(f,none),(I 0,none)])
def HH{x0 x1 W r}(h:Er ba x0 x1 W=some r):OG 165 #[] [x0,x1] W r:=oM 13 h (by kernel_rfl)
def Jp:fI:=λc a=>aX a λb=>aG 87 λd=>az 3 b λe=>aB e λf=>az 4 b λg=>aB g λh=>aY 87 [(3,f),(4,h)] λi=>aA 5 d i λj=>yO [(d,some 87)]
def Lv{x0 W r}(h:Jp ba x0 W=some r):OG 194 #[] [x0] W r:=oM 8 h (by kernel_rfl)
def EB:dE:=λc a b=>aX a λd=>aG 87 λe=>aN 5 d λf=>bV c 63 [f] λg=>lZ g (I 0) λh=>gT h (dS b) λi=>gT h (Ms i (I 0)) λj=>aT h j (.bool false) λk=>gI k (lZ (I 7) (I 0) λl=>gI l (aN 5 d λm=>bV c 105 [m,I 1] λn=>cy n (I 0) λo=>gI o (aN 5 d λp=>aA 5 e p λr=>yO [(e,some 87),(n,none)]) (az 2 d λp=>aB p λr=>bV c 68 [r,b] λs=>aq s 0 λt=>aq s 1 λu=>eJ .not t λv=>gI v (aN 5 d λw=>aA 5 e w λx=>yO [(e,some 87),(I 9,none)]) (aN 5 d λw=>bV c 106 [w] λx=>aA 5 e x λy=>yO [(e,some 87),(I 0,none)]))) (cy (I 7) (I 0) λm=>gI m (aN 5 d λn=>aA 5 e n λo=>yO [(e,some 87),(I 7,none)]) (az 2 d λn=>aB n λo=>bV c 68 [o,b] λp=>aq p 0 λr=>aq p 1 λs=>eJ .not r λt=>gI t (aN 5 d λu=>aA 5 e u λv=>yO [(e,some 87),(I 9,none)]) (aN 5 d λu=>bV c 106 [u] λv=>aA 5 e v λw=>yO [(e,some 87),(I 0,none)])))) (lZ g (I 0) λl=>gI l (aN 5 d λm=>bV c 105 [m,I 1] λn=>cy n (I 0) λo=>gI o (aN 5 d λp=>aA 5 e p λr=>yO [(e,some 87),(n,none)]) (az 2 d λp=>aB p λr=>bV c 68 [r,b] λs=>aq s 0 λt=>aq s 1 λu=>eJ .not t λv=>gI v (aN 5 d λw=>aA 5 e w λx=>yO [(e,some 87),(I 9,none)]) (aN 5 d λw=>bV c 106 [w] λx=>aA 5 e x λy=>yO [(e,some 87),(I 0,none)]))) (cy g (I 0) λm=>gI m (aN 5 d λn=>aA 5 e n λo=>yO [(e,some 87),(g,none)]) (az 2 d λn=>aB n λo=>bV c 68 [o,b] λp=>aq p 0 λr=>aq p 1 λs=>eJ .not r λt=>gI t (aN 5 d λu=>aA 5 e u λv=>yO [(e,some 87),(I 9,none)]) (aN 5 d λu=>bV c 106 [u] λv=>aA 5 e v λw=>yO [(e,some 87),(I 0,none)]))))
def HW{x0 x1 W r}(h:EB ba x0 x1 W=some r):OG 69 #[] [x0,x1] W r:=oM 37 h (by kernel_rfl)
def DH:dE:=λc a b=>bV c 104 [a,b] λd=>lZ d (I 0) λe=>gT e (dS a) λf=>gT e (dS b) λg=>gT e (Zr f g) λh=>aT e h (.bool false) λi=>yO [(i,none),(d,none)]
def HT{x0 x1 W r}(h:DH ba x0 x1 W=some r):OG 68 #[] [x0,x1] W r:=oM 18 h (by kernel_rfl)
def BS:dE:=λc a b=>aX a λd=>aG 87 λe=>aN 5 d λf=>bV c 110 [f,b] λg=>cy g (I 0) λh=>gI h (aN 5 d λi=>aA 5 e i λj=>yO [(e,some 87),(g,none)]) (aN 5 d λi=>bV c 106 [i] λj=>aA 5 e j λk=>yO [(e,some 87),(I 0,none)])
def FB{x0 x1 W r}(h:BS ba x0 x1 W=some r):OG 73 #[] [x0,x1] W r:=oM 16 h (by kernel_rfl)
def M8:dE:=λc a b=>aX a λd=>aG 87 λe=>aN 5 d λf=>bV c 110 [f,b] λg=>lZ g (I 0) λh=>gT h (jp 3 d) λi=>gT h (bz i) λj=>gT h (Up j (.int .u64 18446744073709551615)) λk=>aT h k (.bool false) λl=>gI l (cy (I 17) (I 0) λm=>gI m (aN 5 d λn=>aA 5 e n λo=>yO [(e,some 87),(I 17,none)]) (az 3 d λn=>aB n λo=>gB (TQ o (.int .u64 1)) λp=>az 4 d λr=>aB r λs=>aY 87 [(0,I 2),(1,b),(3,p),(4,s)] λt=>aA 5 e t λu=>yO [(e,some 87),(I 0,none)])) (cy g (I 0) λm=>gI m (aN 5 d λn=>aA 5 e n λo=>yO [(e,some 87),(g,none)]) (az 3 d λn=>aB n λo=>gB (TQ o (.int .u64 1)) λp=>az 4 d λr=>aB r λs=>aY 87 [(0,I 2),(1,b),(3,p),(4,s)] λt=>aA 5 e t λu=>yO [(e,some 87),(I 0,none)]))
def O5{x0 x1 W r}(h:M8 ba x0 x1 W=some r):OG 74 #[] [x0,x1] W r:=oM 28 h (by kernel_rfl)
def Jz:fI:=λc a=>bV c 212 [a] λb=>gB (Ms b (I 0)) λd=>yO [(d,none)]
def LU{x0 W r}(h:Jz ba x0 W=some r):OG 197 #[] [x0] W r:=oM 6 h (by kernel_rfl)
def Ry:dE:=λc a b=>aX a λd=>aN 5 d λe=>bV c 63 [e] λf=>lZ f (I 0) λg=>gT g (jp 0 d) λh=>gT g (bz h) λi=>gT g (dS b) λj=>gT g (Ln i j) λk=>aT g k (.bool false) λl=>gI l (yO [(I 15,none)]) (yO [(f,none)])
def RK{x0 x1 W r}(h:Ry ba x0 x1 W=some r):OG 105 #[] [x0,x1] W r:=oM 17 h (by kernel_rfl)
def I3:fI:=λc a=>aX a λb=>aG 87 λd=>az 3 b λe=>aB e λf=>az 4 b λg=>aB g λh=>aY 87 [(3,f),(4,h)] λi=>aA 5 d i λj=>yO [(d,some 87)]
def Mj{x0 W r}(h:I3 ba x0 W=some r):OG 106 #[] [x0] W r:=oM 8 h (by kernel_rfl)
def Cz:dE:=λc a b=>gB (Ms a (I 0)) λd=>gF d (dS b) λe=>gF d (Ms e (I 0)) λf=>aT d (.bool true) f λg=>gI g (yO [(I 7,none)]) (yO [(I 0,none)])
def B7{x0 x1 W r}(h:Cz ba x0 x1 W=some r):OG 104 #[] [x0,x1] W r:=oM 11 h (by kernel_rfl)
def J4:dE:=λc a b=>aX a λd=>aN 5 d λe=>bV c 105 [e,I 1] λf=>lZ f (I 0) λg=>gT g (jp 1 d) λh=>gT g (bz h) λi=>gT g (dS b) λj=>gT g (Ub i j) λk=>aT g k (.bool false) λl=>gI l (yO [(I 14,none)]) (yO [(f,none)])
def LF{x0 x1 W r}(h:J4 ba x0 x1 W=some r):OG 110 #[] [x0,x1] W r:=oM 17 h (by kernel_rfl)
def wu:cU:=λc S=>gB (ag7 (S 0)) λa=>bQ (S 4) a λb=>let T:=q S 12 [S 4,S 0,a,b];gI b (bH 1 (S 0) (S 4) λd=>aB d λe=>gB (ajK (S 3) e) λf=>bK (S 4) (I 1) λg=>yN (q (q (q (q T 18 [S 3,S 0,S 4,d,e,f]) 3 [f]) 16 [S 4,g]) 4 [g])) (yE 0 T)
def jb:cU:=λc S=>gB (ag7 (S 0)) λa=>bQ (S 4) a λb=>let T:=q S 12 [S 4,S 0,a,b];gI b (bH 1 (S 0) (S 4) λd=>aB d λe=>gB (ajK (S 3) e) λf=>bK (S 4) (I 1) λg=>yN (q (q (q (q T 18 [S 3,S 0,S 4,d,e,f]) 3 [f]) 16 [S 4,g]) 4 [g])) (yE 0 T)
def qO:fI:=λc a=>gB (ag7 a) λb=>nL b (I 1) λd=>let S:=q (q (cG 0 [a] ai.blank) 2 [I 0]) 5 [a,b,d];gI d (gB (Fh 9 (Gk [115,108,105,99,101,115,46,77,105,110,58,32,101,109,112,116,121,32,108,105,115,116])) λe=>gB (zN) λf=>bH 1 a (I 0) λg=>aB g λh=>gL (wu c) (q (q S 8 [e,a,g,h]) 3 [h,I 1]) λi T=>gX 0 i (yO [(T 3,none)]) yZ) (bH 1 a (I 0) λe=>aB e λf=>gL (jb c) (q (q S 9 [a,e,f]) 3 [f,I 1]) λg T=>gX 0 g (yO [(T 3,none)]) yZ)
def wk{x0 W r}(h:qO ba x0 W=some r):OG 212 #[] [x0] W r:=oM 25 h (by kernel_rfl)
def BU:dE:=λc a b=>aX a λd=>aG 87 λe=>aN 5 d λf=>bV c 193 [f,b] λg=>cy g (I 0) λh=>gI h (aN 5 d λi=>aA 5 e i λj=>yO [(e,some 87),(g,none)]) (aN 5 d λi=>bV c 194 [i] λj=>aA 5 e j λk=>yO [(e,some 87),(I 0,none)])
def FO{x0 x1 W r}(h:BU ba x0 x1 W=some r):OG 155 #[] [x0,x1] W r:=oM 16 h (by kernel_rfl)
def Nl:dE:=λc a b=>aX a λd=>aG 87 λe=>aN 5 d λf=>bV c 193 [f,b] λg=>cy g (I 0) λh=>gI h (aN 5 d λi=>aA 5 e i λj=>yO [(e,some 87),(g,none)]) (aN 5 d λi=>bV c 196 [i,b] λj=>aq j 0 λk=>aq j 1 λl=>aA 5 e k λm=>yO [(e,some 87),(l,none)])
def NZ{x0 x1 W r}(h:Nl ba x0 x1 W=some r):OG 157 #[] [x0,x1] W r:=oM 19 h (by kernel_rfl)
def gn:dE:=λc a b=>gQ a λd=>bV c 198 [a,d,b] λe=>yO []
def jh{x0 x1 W r}(h:gn ba x0 x1 W=some r):OG 166 #[] [x0,x1] W r:=oM 9 h (by kernel_rfl)
def K1:dE:=λc a b=>aX a λd=>aN 5 d λe=>bV c 188 [e,I 1] λf=>cy f (I 0) λg=>gI g (yO [(f,none)]) (az 1 d λh=>aB h λi=>gB (Ub i b) λj=>gI j (yO [(I 14,none)]) (yO [(I 0,none)]))
def Mp{x0 x1 W r}(h:K1 ba x0 x1 W=some r):OG 193 #[] [x0,x1] W r:=oM 15 h (by kernel_rfl)
def GV:dE:=λc a b=>aX a λd=>aG 87 λe=>az 3 d λf=>aB f λg=>gB (Up g (.int .u64 18446744073709551615)) λh=>gI h (aN 5 d λi=>aA 5 e i λj=>yO [(e,some 87),(I 17,none)]) (az 3 d λi=>aB i λj=>gB (TQ j (.int .u64 1)) λk=>az 4 d λl=>aB l λm=>aY 87 [(0,I 2),(1,b),(3,k),(4,m)] λn=>aA 5 e n λo=>yO [(e,some 87),(I 0,none)])
def JU{x0 x1 W r}(h:GV ba x0 x1 W=some r):OG 196 #[] [x0,x1] W r:=oM 17 h (by kernel_rfl)
def dG:cU:=λc S=>gB (aak (S 8) (S 1)) λa=>let T:=q S 11 [S 8,S 1,a];gI a (bV c 213 [S 0,S 7,S 8,S 2] λb=>dP (S 8) (S 6) λd=>yN (q (q (q (q T 14 [S 0,S 7,S 8,S 2,b,S 8]) 7 [S 8]) 20 [S 8,S 6,d]) 8 [d])) (yE 0 T)
def dQ:cU:=λc S=>gB (aak (S 8) (S 1)) λa=>let T:=q S 33 [S 8,S 1,a];gI a (dP (S 7) (S 6) λb=>bV c 214 [S 0,S 7,b,S 8,S 2] λd=>gB (ajP (I 2) (S 6)) λe=>dP (S 8) e λf=>yN (q (q (q (q T 36 [S 0,S 7,S 7,S 6,b,S 8,S 2,d,S 8]) 7 [S 8]) 45 [S 8,S 6,e,f]) 8 [f])) (yE 4 T)
def fg:cU:=λc S=>bQ (S 6) (S 1) λa=>let T:=q S 28 [S 6,S 1,a];gI a (gB (ajP (I 2) (S 6)) λb=>gL (dQ c) (q (q T 31 [S 6,b]) 7 [I 0,b]) λd U=>gX 4 d (dP (U 7) (U 6) λe=>bQ e (U 1) λf=>let V:=q (q (q U 49 [U 7,U 6,e]) 9 [e]) 52 [e,U 1,f];gI f (bV c 214 [U 0,U 7,e,U 1,U 2] λg=>gB (alu (U 6) (I 2)) λh=>yN (q (q V 55 [U 0,U 7,e,U 1,U 2,g,U 6,h]) 6 [h])) (gB (alu (U 6) (I 2)) λg=>yN (q (q V 61 [U 6,g]) 6 [g]))) yZ) (yE 2 T)
def je:pD:=λc a b d=>gL (dG c) (q (q (q (cG 0 [a,b,d] ai.blank) 6 [I 20]) 10 [I 20]) 7 [I 0,I 20]) λe S=>gX 0 e (bV c 213 [S 0,S 7,S 1,S 2] λf=>gL (fg c) (q S 23 [S 0,S 7,S 1,S 2,f]) λg T=>gX 2 g (yO []) yZ) yZ
def kW{x0 x1 x2 W r}(h:je ba x0 x1 x2 W=some r):OG 198 #[] [x0,x1,x2] W r:=oM 63 h (by kernel_rfl)
def cY:cU:=λc S=>gB (zb4 (S 9) (S 1)) λa=>gT a (dS (S 3)) λb=>gT a (dS (S 0)) λd=>gT a (dS (S 9)) λe=>gT a (pc 1 d e) λf=>gT a (bz f) λg=>gT a (dS (S 0)) λh=>gT a (dS (S 9)) λi=>gT a (ak6 i (I 1)) λj=>gT a (pc 1 h j) λk=>gT a (bz k) λl=>gT a (c b [g,l]) λm=>gT a (zb1 m (I 0)) λn=>aT a n (.bool false) λo=>let T:=q S 18 [S 9,S 1,a,a,b,d,e,f,g,h,i,j,k,l,m,n,o];gI o (kw (S 9) (I 1) λp=>kw (S 9) (I 1) λr=>bH 1 (S 0) r λs=>aB s λt=>bH 1 (S 0) (S 9) λu=>aB u λv=>bH 1 (S 0) (S 9) λw=>aA 1 w t λx=>bH 1 (S 0) p λy=>aA 1 y v λz=>kw (S 9) (I 1) λA=>yN (q (q (q T 37 [S 0,S 9,S 0,S 9,p,S 0,S 9,r,s,t,S 0,S 9,u,v,w,y]) 35 [S 9,A]) 9 [A])) (yE 2 T)
def cP:cU:=λc S=>bQ (S 8) (S 2) λa=>let T:=q S 12 [S 8,S 2,a];gI a (gL (cY c) (q (q T 17 [S 8]) 9 [S 8]) λb U=>gX 2 b (bK (U 8) (I 1) λd=>yN (q (q U 15 [U 8,d]) 8 [d])) yZ) (yE 0 T)
def dL:EZ:=λc a b d e=>bK b (I 1) λf=>gL (cP c) (q (q (cG 0 [a,b,d,e] ai.blank) 10 [b,f]) 8 [f]) λg S=>gX 0 g (yO []) yZ
def eO{x0 x1 x2 x3 W r}(h:dL ba x0 x1 x2 x3 W=some r):OG 213 #[] [x0,x1,x2,x3] W r:=oM 53 h (by kernel_rfl)
def dZ:cU:=λc S=>bQ (S 10) (S 11) λa=>let T:=q S 31 [S 10,S 11,a];gI a (dP (S 10) (S 11) λb=>fe 3 228 b λd=>gB (Yq d (.int .u64 1)) λe=>fe 228 3 e λf=>bH 1 (S 0) f λg=>aB g λh=>bH 1 (S 0) (S 1) λi=>aB i λj=>gB (c (S 4) [h,j]) λk=>nL k (I 0) λl=>let U:=q (q (q T 34 [S 10,S 11,b,d,e,f]) 12 [f]) 40 [S 4,S 0,f,g,h,S 0,S 1,i,j,k,l];gI l (bK f (I 1) λm=>yN (q (q U 51 [f,m]) 10 [m])) (yN (q (q U 53 [f]) 11 [f]))) (yE 0 T)
def ez:cU:=λc S=>kw (S 10) (I 1) λa=>bQ (S 13) a λb=>let T:=q S 55 [S 13,S 10,a,b];gI b (bK (S 13) (I 1) λd=>bK (S 13) (I 1) λe=>bH 1 (S 0) e λf=>aB f λg=>bH 1 (S 0) (S 13) λh=>aB h λi=>bH 1 (S 0) (S 13) λj=>aA 1 j g λk=>bH 1 (S 0) d λl=>aA 1 l i λm=>bK (S 13) (I 1) λn=>yN (q (q (q T 61 [S 0,S 13,S 0,S 13,d,S 0,S 13,e,f,g,S 0,S 13,h,i,j,l]) 59 [S 13,n]) 13 [n])) (yE 2 T)
def eA:cU:=λc S=>bQ (S 14) (S 15) λa=>let T:=q S 83 [S 14,S 15,a];gI a (dP (S 14) (S 15) λb=>fe 3 228 b λd=>gB (Yq d (.int .u64 1)) λe=>fe 228 3 e λf=>bH 1 (S 0) (S 2) λg=>aB g λh=>bH 1 (S 0) f λi=>aB i λj=>gB (c (S 4) [h,j]) λk=>nL k (I 0) λl=>eJ .not l λm=>let U:=q (q (q T 86 [S 14,S 15,b,d,e,f]) 16 [f]) 92 [S 4,S 0,S 2,g,h,S 0,f,i,j,k,l,m];gI m (bK f (I 1) λn=>yN (q (q U 104 [f,n]) 14 [n])) (yN (q (q U 106 [f]) 15 [f]))) (yE 4 T)
def eB:cU:=λc S=>gB (zb4 (S 17) (S 14)) λa=>let T:=q S 108 [S 17,S 14,a];gI a (kw (S 17) (I 1) λb=>kw (S 17) (I 1) λd=>bH 1 (S 0) d λe=>aB e λf=>bH 1 (S 0) (S 17) λg=>aB g λh=>bH 1 (S 0) (S 17) λi=>aA 1 i f λj=>bH 1 (S 0) b λk=>aA 1 k h λl=>kw (S 17) (I 1) λm=>yN (q (q (q T 113 [S 0,S 17,S 0,S 17,b,S 0,S 17,d,e,f,S 0,S 17,g,h,i,k]) 111 [S 17,m]) 17 [m])) (yE 6 T)
def eu:cU:=λc S=>bQ (S 20) (S 21) λa=>let T:=q S 149 [S 20,S 21,a];gI a (dP (S 20) (S 21) λb=>fe 3 228 b λd=>gB (Yq d (.int .u64 1)) λe=>fe 228 3 e λf=>iP (S 22) f λg=>bH 1 (S 0) g λh=>aB h λi=>bH 1 (S 0) f λj=>aB j λk=>gB (c (S 4) [i,k]) λl=>nL l (I 0) λm=>eJ .not m λn=>let U:=q (q (q T 152 [S 20,S 21,b,d,e,f]) 23 [f]) 158 [S 4,S 0,S 22,f,g,h,i,S 0,f,j,k,l,m,n];gI n (bK f (I 1) λo=>yN (q (q U 172 [f,o]) 20 [o])) (yN (q (q U 174 [f]) 21 [f]))) (yE 8 T)
def ee:cU:=λc S=>bQ (S 20) (S 21) λa=>let T:=q S 149 [S 20,S 21,a];gI a (dP (S 20) (S 21) λb=>fe 3 228 b λd=>gB (Yq d (.int .u64 1)) λe=>fe 228 3 e λf=>iP (S 22) f λg=>bH 1 (S 0) g λh=>aB h λi=>bH 1 (S 0) f λj=>aB j λk=>gB (c (S 4) [i,k]) λl=>nL l (I 0) λm=>eJ .not m λn=>let U:=q (q (q T 152 [S 20,S 21,b,d,e,f]) 23 [f]) 158 [S 4,S 0,S 22,f,g,h,i,S 0,f,j,k,l,m,n];gI n (bK f (I 1) λo=>yN (q (q U 172 [f,o]) 20 [o])) (yN (q (q U 174 [f]) 21 [f]))) (yE 8 T)
def mc:Mn:=λc a b d e f=>iP d b λg=>bY g (I 1) λh=>let S:=q (cG 0 [a,b,d,e,f] ai.blank) 25 [d,b,g,h];gI h (gL (dZ c) (q (q (q (q S 29 [d]) 10 [d]) 30 [e]) 11 [e]) λi T=>gX 0 i (gL (ez c) (q (q T 54 [T 1]) 13 [T 1]) λj U=>gX 2 j (yO []) yZ) yZ) (iP e d λi=>bY i (I 1) λj=>let T:=q S 77 [e,d,i,j];gI j (gL (eA c) (q (q (q (q T 81 [b]) 14 [b]) 82 [d]) 15 [d]) λk U=>gX 4 k (gL (eB c) (q (q U 107 [U 2]) 17 [U 2]) λl V=>gX 6 l (yO []) yZ) yZ) (dP b e λk=>fe 3 228 k λl=>gB (Yq l (.int .u64 1)) λm=>fe 228 3 m λn=>dP n d λo=>gB (zb4 d n) λp=>let U:=q (q (q (q (q T 129 [b,e,k,l,m,n]) 18 [n]) 135 [n,d,o]) 19 [o,I 0,I 0]) 138 [d,n,p];gI p (iP o e λr=>kw o (I 1) λs=>gL (eu c) (q (q (q (q (q (q U 141 [o,e,r]) 20 [r]) 144 [n]) 21 [n]) 147 [o,s]) 22 [s]) λt V=>gX 8 t (iP (V 19) (V 20) λu=>bQ (V 20) (V 2) λv=>gT v (dS (V 2)) λw=>gT v (dS u) λx=>gT v (Nc w x) λy=>aT v y (.bool false) λz=>gI z (bV c 221 [V 0,V 20,V 2,u,V 4] λA=>bQ (V 1) (V 20) λB=>gT B (dS (V 20)) λC=>gT B (dS (V 18)) λD=>gT B (Nc C D) λE=>aT B E (.bool false) λF=>gI F (bV c 214 [V 0,V 1,V 20,V 18,V 4] λG=>bQ (V 18) u λH=>gT H (dS u) λJ=>gT H (dS (V 3)) λK=>gT H (Nc J K) λL=>aT H L (.bool false) λM=>gI M (bV c 214 [V 0,V 18,u,V 3,V 4] λN=>yO []) (yO [])) (bQ (V 18) u λG=>gT G (dS u) λH=>gT G (dS (V 3)) λJ=>gT G (Nc H J) λK=>aT G K (.bool false) λL=>gI L (bV c 214 [V 0,V 18,u,V 3,V 4] λM=>yO []) (yO []))) (bQ (V 1) (V 20) λA=>gT A (dS (V 20)) λB=>gT A (dS (V 18)) λC=>gT A (Nc B C) λD=>aT A D (.bool false) λE=>gI E (bV c 214 [V 0,V 1,V 20,V 18,V 4] λF=>bQ (V 18) u λG=>gT G (dS u) λH=>gT G (dS (V 3)) λJ=>gT G (Nc H J) λK=>aT G K (.bool false) λL=>gI L (bV c 214 [V 0,V 18,u,V 3,V 4] λM=>yO []) (yO [])) (bQ (V 18) u λF=>gT F (dS u) λG=>gT F (dS (V 3)) λH=>gT F (Nc G H) λJ=>aT F J (.bool false) λK=>gI K (bV c 214 [V 0,V 18,u,V 3,V 4] λL=>yO []) (yO [])))) yZ) (kw o (I 1) λr=>gL (ee c) (q (q (q (q (q (q U 145 [b]) 20 [b]) 146 [d]) 21 [d]) 147 [o,r]) 22 [r]) λs V=>gX 8 s (iP (V 19) (V 20) λt=>bQ (V 20) (V 2) λu=>gT u (dS (V 2)) λv=>gT u (dS t) λw=>gT u (Nc v w) λx=>aT u x (.bool false) λy=>gI y (bV c 221 [V 0,V 20,V 2,t,V 4] λz=>bQ (V 1) (V 20) λA=>gT A (dS (V 20)) λB=>gT A (dS (V 18)) λC=>gT A (Nc B C) λD=>aT A D (.bool false) λE=>gI E (bV c 214 [V 0,V 1,V 20,V 18,V 4] λF=>bQ (V 18) t λG=>gT G (dS t) λH=>gT G (dS (V 3)) λJ=>gT G (Nc H J) λK=>aT G K (.bool false) λL=>gI L (bV c 214 [V 0,V 18,t,V 3,V 4] λM=>yO []) (yO [])) (bQ (V 18) t λF=>gT F (dS t) λG=>gT F (dS (V 3)) λH=>gT F (Nc G H) λJ=>aT F J (.bool false) λK=>gI K (bV c 214 [V 0,V 18,t,V 3,V 4] λL=>yO []) (yO []))) (bQ (V 1) (V 20) λz=>gT z (dS (V 20)) λA=>gT z (dS (V 18)) λB=>gT z (Nc A B) λC=>aT z C (.bool false) λD=>gI D (bV c 214 [V 0,V 1,V 20,V 18,V 4] λE=>bQ (V 18) t λF=>gT F (dS t) λG=>gT F (dS (V 3)) λH=>gT F (Nc G H) λJ=>aT F J (.bool false) λK=>gI K (bV c 214 [V 0,V 18,t,V 3,V 4] λL=>yO []) (yO [])) (bQ (V 18) t λE=>gT E (dS t) λF=>gT E (dS (V 3)) λG=>gT E (Nc F G) λH=>aT E H (.bool false) λJ=>gI J (bV c 214 [V 0,V 18,t,V 3,V 4] λK=>yO []) (yO [])))) yZ)))
def rt{x0 x1 x2 x3 x4 W r}(h:mc ba x0 x1 x2 x3 x4 W=some r):OG 214 #[] [x0,x1,x2,x3,x4] W r:=oM 220 h (by kernel_rfl)
def lC:cU:=λc S=>gB (Ln (S 10) (S 11)) λa=>let T:=q S 18 [S 10,S 11,a];gI a (gB (zb4 (S 10) (S 11)) λb=>let U:=q T 21 [S 10,S 11,b];gI b (iP (S 2) (S 10) λd=>bV c 226 [S 0,d,S 2,S 11,S 4] λe=>iP (S 10) (S 11) λf=>yN (q (q U 24 [S 0,S 2,S 10,d,S 2,S 11,S 4,e,S 10,S 11,f]) 10 [f])) (iP (S 2) (S 10) λd=>dP (S 2) (S 11) λe=>iP e (S 10) λf=>bV c 226 [S 0,d,f,S 10,S 4] λg=>iP (S 11) (S 10) λh=>yN (q (q U 35 [S 0,S 2,S 10,d,S 2,S 11,e,S 10,f,S 10,S 4,g,S 11,S 10,h]) 11 [h]))) (yE 0 T)
def oa:Mn:=λc a b d e f=>iP d b λg=>iP e d λh=>gL (lC c) (q (q (q (q (cG 0 [a,b,d,e,f] ai.blank) 12 [d,b,g]) 10 [g]) 15 [e,d,h]) 11 [h]) λi S=>gX 0 i (iP (S 2) (S 10) λj=>bV c 226 [S 0,j,S 2,S 10,S 4] λk=>yO []) yZ
def tF{x0 x1 x2 x3 x4 W r}(h:oa ba x0 x1 x2 x3 x4 W=some r):OG 221 #[] [x0,x1,x2,x3,x4] W r:=oM 58 h (by kernel_rfl)
def fS:cU:=λc S=>bQ (S 10) (S 3) λa=>let T:=q S 11 [S 10,S 3,a];gI a (dP (S 1) (S 10) λb=>dP (S 2) (S 10) λd=>dP (S 2) (S 10) λe=>bH 1 (S 0) e λf=>aB f λg=>dP (S 1) (S 10) λh=>bH 1 (S 0) h λi=>aB i λj=>bH 1 (S 0) b λk=>aA 1 k g λl=>bH 1 (S 0) d λm=>aA 1 m j λn=>bK (S 10) (I 1) λo=>yN (q (q (q T 16 [S 0,S 1,S 10,b,S 0,S 2,S 10,d,S 0,S 2,S 10,e,f,g,S 0,S 1,S 10,h,i,j,k,m]) 14 [S 10,o]) 10 [o])) (yE 0 T)
def kX:Mn:=λc a b d e f=>gL (fS c) (q (cG 0 [a,b,d,e,f] ai.blank) 10 [I 0]) λg S=>gX 0 g (yO []) yZ
def rn{x0 x1 x2 x3 x4 W r}(h:kX ba x0 x1 x2 x3 x4 W=some r):OG 226 #[] [x0,x1,x2,x3,x4] W r:=oM 38 h (by kernel_rfl)
structure fx where
 st:Int
 ow:Int
 dl:Int
 se:Int
 ep:Int
abbrev dK(x:fx):List ad:=[.ae x.st,.int .u32 x.ow,.ae x.dl,.int .u64 x.se,.int .u64 x.ep]
abbrev iZ(x:fx):ad:=.agg #[.ae x.st,.int .u32 x.ow,.ae x.dl,.int .u64 x.se,.int .u64 x.ep]
def CO:fx:=⟨0,0,0,0,0⟩
def aeA{b o:Nat}{cs:List ad}{x:ad}{W:AW}(h:W.get b=some (.cells cs))(hv:cs[o]? =some x):bz (.pointer (some ⟨b,o,none⟩)) W=some (x,W):=aO (ao h) hv
section
variable {W:AW} {b:Nat} {x:fx}
def jl(h:W.get b=some (.cells (dK x))):bz (.pointer (some ⟨b,0,none⟩)) W=some (.ae x.st,W):=aeA h rfl
def ve(h:W.get b=some (.cells (dK x))):bz (.pointer (some ⟨b,1,none⟩)) W=some (.int .u32 x.ow,W):=aeA h rfl
def jc(h:W.get b=some (.cells (dK x))):bz (.pointer (some ⟨b,2,none⟩)) W=some (.ae x.dl,W):=aeA h rfl
def FZ(h:W.get b=some (.cells (dK x))):bz (.pointer (some ⟨b,3,none⟩)) W=some (.int .u64 x.se,W):=aeA h rfl
def Pl(h:W.get b=some (.cells (dK x))):bz (.pointer (some ⟨b,4,none⟩)) W=some (.int .u64 x.ep,W):=aeA h rfl
def bS(h:W.get b=some (.cells (dK x))):dJ 5 (.pointer (some ⟨b,0,none⟩)) W=some (iZ x,W):=bB (ao h) rfl
def LO{z:fx}(h:W.get b=some (.cells (dK z))):eZ 5 (.pointer (some ⟨b,0,none⟩)) (iZ x) W=some (aj,W.put b (.cells (dK x))):=CA (n:=5) (o:=0) (v:=iZ x) h rfl (aQ _) rfl
end
def aoB(x:fx)(W:AW):pP (iZ x) W=some (.pointer (some ⟨W.next,0,none⟩),W.add (.cells (dK x))):=iB _
def qd(W:AW):dm Tryz.prog 87 W=some (.pointer (some ⟨W.next,0,none⟩),W.add (.cells (dK CO))):=aS (by kernel_rfl) rfl
def aoV(a b:Int)(W:AW):dU Tryz.prog 87 [(3,.int .u64 a),(4,.int .u64 b)] W=some (iZ ⟨0,0,0,a,b⟩,W):=aS (by kernel_rfl) rfl
def iQ(x:ad)(W:AW):jx Tryz.prog 87 x W=dJ 5 x W:=by kernel_rfl
def qX(x:fx):iD (iZ x) (iZ x)=true:=pV (by simp[Y5,zG])
def DE(x:fx):Int:=if x.st=1 then(if x.dl<0 then 6 else 0)else if x.st=0 then(if x.ow=0 then(if x.dl=0 then 0 else 6)else 6)else if x.st=2 then(if x.dl=0 then 0 else 6)else 6
def Qf{x:fx}(h:x.st=1):DE x=if x.dl<0 then 6 else 0:=by unfold DE;rw[an h]
def nK(x:fx)(W:AW):ba (.func (.func 97) #[] #[]) [iZ x] W=some (.ae (DE x),W):=by
 refine aP rfl ?_ Lc;unfold Gr;have hg:(W.add (.cells (dK x))).get W.next=some (.cells (dK x)):=AW.aI _ _;have aM:Le W (W.add (.cells (dK x))):=(Le.refl _).add _;simp only[SX,aJ];generalize W.add (.cells (dK x))=W1 at *;unfold DE;by_cases c1:x.st=1
 ·have d1:=aK c1;rw[an c1];by_cases c2:x.dl<0
  ·have d2:=aK c2;simp only[SX,jc hg,jl hg,d1,d2,an c2,ah];exact⟨ak,aM⟩
  ·have d2:=aL c2;simp only[SX,jc hg,jl hg,d1,d2,ap c2,ah];exact⟨ak,aM⟩
 have d1:=aL c1;rw[ap c1];by_cases c0:x.st=0
 ·have d0:=aK c0;rw[an c0];by_cases c2:x.ow=0
  ·have d2:=aK c2;rw[an c2];by_cases c3:x.dl=0
   ·have d3:=aK c3;simp only[SX,jc hg,jl hg,d1,d0,ve hg,d2,d3,an c3,ah];exact⟨ak,aM⟩
   ·have d3:=aL c3;simp only[SX,jc hg,jl hg,d1,d0,ve hg,d2,d3,ap c3,ah];exact⟨ak,aM⟩
  ·have d2:=aL c2;rw[ap c2];simp only[SX,jc hg,jl hg,d1,d0,ve hg,d2,ah];exact⟨ak,aM⟩
 have d0:=aL c0;rw[ap c0];by_cases c2:x.st=2
 ·have d2:=aK c2;rw[an c2];by_cases c3:x.dl=0
  ·have d3:=aK c3;simp only[SX,jc hg,jl hg,d1,d0,d2,d3,an c3,ah];exact⟨ak,aM⟩
  ·have d3:=aL c3;simp only[SX,jc hg,jl hg,d1,d0,d2,d3,ap c3,ah];exact⟨ak,aM⟩
 ·have d2:=aL c2;rw[ap c2];simp only[SX,jc hg,jl hg,d1,d0,d2,ah];exact⟨ak,aM⟩
def iJ(x:fx)(W:AW):ba (.func (.func 63) #[] #[]) [iZ x] W=some (.ae (DE x),W):=by
 refine aP rfl ?_ Jd;unfold Hc;have hg:(W.add (.cells (dK x))).get W.next=some (.cells (dK x)):=AW.aI _ _;have aM:Le W (W.add (.cells (dK x))):=(Le.refl _).add _;simp only[SX,aJ];generalize W.add (.cells (dK x))=W1 at *;unfold DE;by_cases c0:x.st=0
 ·have d0:=aK c0;rw[bM,an c0];by_cases c2:x.ow=0
  ·have d2:=aK c2;rw[an c2];by_cases c3:x.dl=0
   ·have d3:=aK c3;simp only[SX,jc hg,jl hg,d0,ve hg,d2,d3,an c3,ah];exact⟨ak,aM⟩
   ·have d3:=aL c3;simp only[SX,jc hg,jl hg,d0,ve hg,d2,d3,ap c3,ah];exact⟨ak,aM⟩
  ·have d2:=aL c2;rw[ap c2];simp only[SX,jc hg,jl hg,d0,ve hg,d2,ah];exact⟨ak,aM⟩
 have d0:=aL c0;by_cases c1:x.st=1
 ·have d1:=aK c1;rw[an c1];by_cases c2:x.dl<0
  ·have d2:decide (0<=x.dl)=false:=cg;simp only[SX,jc hg,jl hg,d0,d1,d2,an c2,ah];exact⟨ak,aM⟩
  ·have d2:decide (0<=x.dl)=true:=cK;simp only[SX,jc hg,jl hg,d0,d1,d2,ap c2,ah];exact⟨ak,aM⟩
 have d1:=aL c1;rw[ap c1,ap c0];by_cases c2:x.st=2
 ·have d2:=aK c2;rw[an c2];by_cases c3:x.dl=0
  ·have d3:=aK c3;simp only[SX,jc hg,jl hg,d1,d0,d2,d3,an c3,ah];exact⟨ak,aM⟩
  ·have d3:=aL c3;simp only[SX,jc hg,jl hg,d1,d0,d2,d3,ap c3,ah];exact⟨ak,aM⟩
 ·have d2:=aL c2;rw[ap c2];simp only[SX,jc hg,jl hg,d1,d0,d2,ah];exact⟨ak,aM⟩
def Im(x:fx)(t:Int):Int:=if DE x=0 then(if t<0 then 7 else 0)else DE x
def wj(x:fx)(w:Int):Int:=if DE x=0 then(if x.st=w then 0 else 15)else DE x
def sO(x:fx)(t:Int)(W:AW):ba (.func (.func 187) #[] #[]) [iZ x,.ae t] W=some (.ae (Im x t),W):=by
 refine aP rfl ?_ LG;unfold JJ;have hg:(W.add (.cells (dK x))).get W.next=some (.cells (dK x)):=AW.aI _ _;have aM:Le W (W.add (.cells (dK x))):=(Le.refl _).add _;simp only[SX];generalize W.add (.cells (dK x))=W1 at *;unfold Im;by_cases c1:DE x=0
 ·have d1:=aK c1;rw[an c1];by_cases c2:t<0
  ·have d2:=aK c2;simp only[SX,bS hg,nK,d1,d2,an c2,ah];exact⟨ak,aM⟩
  ·have d2:=aL c2;simp only[SX,bS hg,nK,d1,d2,ap c2,ah];exact⟨ak,aM⟩
 ·have d1:=aL c1;simp only[SX,bS hg,nK,d1,ap c1,ah];exact⟨ak,aM⟩
def fc(x:fx)(w:Int)(W:AW):ba (.func (.func 188) #[] #[]) [iZ x,.ae w] W=some (.ae (wj x w),W):=by
 refine aP rfl ?_ Je;unfold Hj;have hg:(W.add (.cells (dK x))).get W.next=some (.cells (dK x)):=AW.aI _ _;have aM:Le W (W.add (.cells (dK x))):=(Le.refl _).add _;simp only[SX,aJ];generalize W.add (.cells (dK x))=W1 at *;unfold wj;by_cases c1:DE x=0
 ·have d1:=aK c1;rw[an c1];by_cases c2:x.st=w
  ·have d2:=aK c2;simp only[SX,bS hg,nK,d1,jl hg,d2,an c2,ah];exact⟨ak,aM⟩
  ·have d2:=aL c2;simp only[SX,bS hg,nK,d1,jl hg,d2,ap c2,ah];exact⟨ak,aM⟩
 ·have d1:=aL c1;simp only[SX,bS hg,nK,d1,ap c1,ah];exact⟨ak,aM⟩
def jy(x:fx)(w:Int)(W:AW):ba (.func (.func 105) #[] #[]) [iZ x,.ae w] W=some (.ae (wj x w),W):=by
 refine aP rfl ?_ RK;unfold Ry;have hg:(W.add (.cells (dK x))).get W.next=some (.cells (dK x)):=AW.aI _ _;have aM:Le W (W.add (.cells (dK x))):=(Le.refl _).add _;simp only[SX,aJ];generalize W.add (.cells (dK x))=W1 at *;unfold wj;by_cases c1:DE x=0
 ·have d1:=aK c1;rw[an c1];by_cases c2:x.st=w
  ·have d2:=aK c2;simp only[SX,bS hg,iJ,jl hg,d2,c1,an c2,ah];exact⟨ak,aM⟩
  ·have d2:=aL c2;simp only[SX,bS hg,iJ,d1,jl hg,d2,ap c2,ah];exact⟨ak,aM⟩
 ·have d1:=aL c1;simp only[SX,bS hg,iJ,d1,ap c1,ah];exact⟨ak,aM⟩
def mM(x:fx):fx:=⟨0,0,0,x.se,x.ep⟩
def DC(x:fx)(W:AW):∃W1 W2,pP (iZ x) W=some (.pointer (some ⟨W.next,0,none⟩),W1)/\dm Tryz.prog 87 W1=some (.pointer (some ⟨W.next+1,0,none⟩),W2)/\Le W W2/\W2.next=W.next+2/\W2.get W.next=some (.cells (dK x))/\W2.get (W.next+1)=some (.cells (dK CO)):=
 ⟨_,_,aoB _ _,by rw[qd,AW.av],((Le.refl _).add _).add _,by rw[AW.av,AW.av],by rw[AW.aE _ _ (by rw[AW.av];omega),AW.aI],by rw[show W.next+1=(W.add (.cells (dK x))).next by rw[AW.av],AW.aI]⟩
def AY(x:fx)(W:AW):ba (.func (.func 194) #[] #[]) [iZ x] W=some (iZ (mM x),W):=by refine aP rfl ?_ Lv;unfold Jp;obtain⟨W1,W2,k1,k2,aM,n2,g1,g2⟩:=DC x W;have st:=LO (x:=mM x) g2;simp only[SX,k1,k2,aJ,FZ g1,Pl g1,aoV,show iZ ⟨0,0,0,x.se,x.ep⟩=iZ (mM x)from rfl,st,sB,iQ,bS (x:=mM x) (AW.aW _ _ _),bJ,ah];exact⟨ak,aM.put (by omega) _⟩
def xd(x:fx)(W:AW):ba (.func (.func 106) #[] #[]) [iZ x] W=some (iZ (mM x),W):=by refine aP rfl ?_ Mj;unfold I3;obtain⟨W1,W2,k1,k2,aM,n2,g1,g2⟩:=DC x W;have st:=LO (x:=mM x) g2;simp only[SX,k1,k2,aJ,FZ g1,Pl g1,aoV,show iZ ⟨0,0,0,x.se,x.ep⟩=iZ (mM x)from rfl,st,sB,iQ,bS (x:=mM x) (AW.aW _ _ _),bJ,ah];exact⟨ak,aM.put (by omega) _⟩
def akt:((#[251]:Array af)[0]?).bind Tryz.prog.underlying=some (.slice 35):=by kernel_rfl
def MF(a b:Int)(W:AW):cJ Tryz.prog 251 2 [(0,.ae a),(1,.ae b)] W=some (.slice (some ⟨W.next,0,none⟩) 2 2,W.add (.cells [.ae a,.ae b])):=aS (by kernel_rfl) rfl
def ad3{W:AW}{v:ad}{a b:Int}(h:gG W v [a,b]):ba (.func (.func 186) #[] #[]) [v] W=some (.ae (if a=0 then b else a),W):=by
 refine aP rfl ?_ CJ;unfold yi;have dv:∀V,Le W V->aV Tryz.prog .len #[251] 3 #[false] [v] V=some (.ae 2,V):=λV hV=>by have:=(h.mono hV).len akt;exact this V 3 #[false]
 obtain⟨p0,i0,k0⟩:=gG.get h (i:=0) (by simp);obtain⟨p1,i1,k1⟩:=gG.get h (i:=1) (by simp);simp only[SX,dv W (Le.refl _)];refine bh 2 (by omega) (λi R V=>V=W/\R 3=.ae 0/\R 6=v/\R 7=.ae 2/\R 8=.ae (i:Int)/\(1<=i->a=0)/\(2<=i->b=0))
  (λr=>r.2.2=W/\((r.1=.exit 0/\r.2.1 3=.ae 0/\a=0/\b=0)\/(r.1=.ret/\r.2.1 2=.ae (if a=0 then b else a)))) ⟨rfl,rfl,rfl,rfl,rfl,by omega,by omega⟩ ?_ ?_ ?_
 ·rintro i R V hi ⟨rfl,r3,r6,r7,r8,ha,hb⟩;unfold nE;have t1:((i:Int)<2):=by omega
  have t2:=λW'=>bm W' i 1
  have e3:((i+1:Nat):Int)=(i:Int)+1:=by omega
  rcases(by omega:i=0\/i=1)with rfl|rfl
  ·have e0:∀W' k,pc 1 v (.int k ((0:Nat):Int)) W'=some (p0,W'):=i0;have l0:bz p0 V=some (.ae a,V):=k0 V (Le.refl _);by_cases c:a=0
   ·have d:=aK c;simp only[SX,r3,r6,r7,r8,t1,e0,l0,d,t2,ah];exact .inl ⟨ak,ak,r3,r6,r7,by rw[e3];rfl,λ_=>c,by omega⟩
   ·have d:=aL c;simp only[SX,r3,r6,r7,r8,t1,e0,l0,d,ah];exact .inr ⟨by simp,ak,.inr ⟨ak,by rw[ap c];rfl⟩⟩
  ·have e0:∀W' k,pc 1 v (.int k ((1:Nat):Int)) W'=some (p1,W'):=i1;have l0:bz p1 V=some (.ae b,V):=k1 V (Le.refl _);have ha:=ha (aQ _);by_cases c:b=0
   ·have d:=aK c;simp only[SX,r3,r6,r7,r8,t1,e0,l0,d,t2,ah];exact .inl ⟨ak,ak,r3,r6,r7,by rw[e3];rfl,λ_=>ha,λ_=>c⟩
   ·have d:=aL c;simp only[SX,r3,r6,r7,r8,t1,e0,l0,d,ah];exact .inr ⟨by simp,ak,.inr ⟨ak,by rw[an ha];rfl⟩⟩
 ·rintro R V ⟨rfl,r3,r6,r7,r8,ha,hb⟩;unfold nE;have t1:¬(((2:Nat):Int)<2):=by omega
  simp only[SX,r7,r8,t1,ah];exact⟨by simp,ak,.inl ⟨ak,r3,ha (by omega),hb (by omega)⟩⟩
 ·rintro⟨q,R,V⟩ ⟨rfl,hq⟩;simp only at hq;rcases hq with⟨rfl,r3,ha,hb⟩|⟨rfl,r2⟩
  ·simp only[SX,r3,ah];exact⟨by rw[an ha,hb],Le.refl _⟩
  ·simp only[SX,r2,ah];exact⟨ak,Le.refl _⟩
end Go.Proofs.YtmaoneengdafhaaGreatDoor
namespace Go.Proofs.YtmaoneengdafhaaGreatDoor.Ho
open Go Go.Eng
def abj:((#[150]:Array af)[0]?).bind Tryz.prog.underlying=some (.slice 2):=by kernel_rfl
def af6(a b:Int)(W:AW):cJ Tryz.prog 150 2 [(0,.ae a),(1,.ae b)] W=some (.slice (some ⟨W.next,0,none⟩) 2 2,W.add (.cells [.ae a,.ae b])):=aS (by kernel_rfl) rfl
def aaF(a b:Int)(W:AW):aV Tryz.prog .min #[2,2] 2 #[false,false] [.ae a,.ae b] W=some (.ae (min a b),W):=by
 have e:aV Tryz.prog .min #[2,2] 2 #[false,false] [.ae a,.ae b] W=(nX Tryz.prog ([Value.int .i64 a,.ae b].all bL) (builtin .min #[2,2] 2 #[false,false] #[.ae a,.ae b])).map λv=>(v,W):=by unfold aV;rfl
 rw[e];have e2:builtin .min #[2,2] 2 #[false,false] #[.ae a,.ae b]=(do pure (.value (<-Builtin.min_ #[2,2] 2 #[.ae a,.ae b]))):=rfl;rw[e2];refine Hk ?_ rfl _ rfl;unfold Builtin.min_;simp only[List.foldlM_cons,List.foldlM_nil,fh,Builtin.min2,gl,bJ];congr 2;split<;>omega
def agA{W:AW}{v:ad}{a b:Int}(h:gG W v [a,b]):ba (.func (.func 212) #[] #[]) [v] W=some (.ae (min a b),W):=by
 refine aP rfl ?_ wk;unfold qO;obtain⟨p0,i1,i2⟩:=h.get (i:=0) (by simp);have i1':∀W' k,pc 1 v (.int k 0) W'=some (p0,W'):=i1;have i2':∀W',Le W W'->bz p0 W'=some (.ae a,W'):=i2;obtain⟨p1,j1,j2⟩:=h.get (i:=1) (by simp);have j1':∀W' k,pc 1 v (.int k 1) W'=some (p1,W'):=j1;have j2':∀W',Le W W'->bz p1 W'=some (.ae b,W'):=j2;have t0:¬((([a,b]:List Int).length:Int)<1):=by simp
 have tl:(([a,b]:List Int).length:Int)=2:=by simp
 simp only[SX,h.len abj,t0,i1',i2' _ (.refl _)];refine bh 1 (by omega) (λk R W'=>W'=W/\R 0=v/\R 4=.ae (1+(k:Int))/\R 3=.ae (if k=0 then a else min a b))
  (λr=>r.1=.exit 0/\r.2.2=W/\r.2.1 3=.ae (min a b)) ⟨rfl,rfl,rfl,rfl⟩ ?_ ?_ ?_
 ·rintro k R W' hk ⟨rfl,r0,r4,r3⟩;obtain rfl:k=0:=by omega
  unfold jb;have r4':R 4=.ae 1:=r4;have r3':R 3=.ae a:=r3;have t1:((1:Int)<2):=by omega
  have t2:=λW'=>bm W' 1 1
  simp only[SX,r0,r4',r3',h.len abj,tl,t1,j1',j2' _ (.refl _),aaF,t2,ah];exact .inl ⟨ak,ak,r0,rfl,rfl⟩
 ·rintro R W' ⟨rfl,r0,r4,r3⟩;unfold jb;have t1:¬(1+((1:Nat):Int)<2):=by omega
  simp only[SX,r0,r4,h.len abj,tl,t1,ah];exact⟨by simp,ak,ak,r3⟩
 ·rintro⟨x,R,W'⟩ ⟨hx,rfl,r3⟩;simp only at hx r3;subst hx;simp only[SX,r3,ah];exact⟨ak,.refl _⟩
def SO{W:AW}{v:ad}{a b:Int}(h:gG W v [a,b]):ba (.func (.func 197) #[] #[]) [v] W=some (.bool (decide (min a b<0)),W):=by refine aP rfl ?_ LU;unfold Jz;simp only[SX,agA h,ah];exact⟨ak,.refl _⟩
def M0{a b:Int}(ha:0<=a)(hb:0<=b)(W:AW):ba (.func (.func 165) #[] #[]) [.ae a,.ae b] W=some (.tuple #[.bool (decide (a<=b)),.ae 0],W):=by refine aP rfl ?_ HH;unfold Er;have hI:gG (W.add (.cells [.ae a,.ae b])) (.slice (some ⟨W.next,0,none⟩) 2 2) [a,b]:=Sc [a,b] 2 W;have hm:=SO hI;rw[aL (show¬min a b<0 by omega)]at hm;simp only[SX,af6,hm,ah];exact⟨ak,(Le.refl _).add _⟩
end Go.Proofs.YtmaoneengdafhaaGreatDoor.Ho
namespace Go.Proofs.YtmaoneengdafhaaGreatDoor
open Go Go.Eng
def wq1:tn aj false=false:=aS rfl rfl
def wq2:tn aj true=false:=aS rfl rfl
def vg(x:fx)(now:Int):Int:=if Im x now≠0 then Im x now else if wj x 1≠0 then wj x 1 else if x.dl<=now then 0 else 9
def lW(x:fx)(now:Int):fx:=if vg x now=0 then mM x else x
def Sg(x:fx)(now:Int)(W:AW):ba (.func (.func 169) #[] #[]) [iZ x,.ae now] W=some (.tuple #[iZ (lW x now),.ae (vg x now)],W):=by
 refine aP rfl ?_ H0;unfold DN;obtain⟨W1,W2,k1,k2,aM,n2,g1,g2⟩:=DC x W;have hI:gG (W2.add (.cells [.ae (Im x now),.ae (wj x 1)])) (.slice (some ⟨W2.next,0,none⟩) 2 2) [Im x now,wj x 1]:=by refine⟨_,2,rfl,.inr ⟨W2.next,0,[.ae (Im x now),.ae (wj x 1)],rfl,by rw[AW.av];omega,bF,λi hi=>?_⟩⟩;rcases(by simp at hi;omega:i=0\/i=1)with rfl|rfl<;>rfl
 have Ro:=ad3 hI;obtain⟨W3,hW3⟩:∃W3,W3=W2.add (.cells [.ae (Im x now),.ae (wj x 1)]):=⟨_,rfl⟩;rw[<-hW3]at Ro;have l3:Le W2 W3:=by rw[hW3];exact(Le.refl _).add _
 have h1:=(l3.get W.next (by omega)).trans g1;have h2:=(l3.get (W.next+1) (by omega)).trans g2;have n3:=l3.next;have mu:∀o,Le W (W3.put (W.next+1) o):=λo=>(aM.trans l3).put (by omega) o
 have st:=λy=>LO (x:=y) h2
 have ld:=λy=>bS (x:=y) (W:=W3.put (W.next+1) (.cells (dK y))) (b:=W.next+1) (AW.aW _ _ _)
 by_cases c1:Im x now=0;case neg=>
  have e1:vg x now=Im x now:=by unfold vg;rw[an c1]
  have e2:lW x now=x:=by unfold lW;rw[ap (by rw[e1];exact c1)]
  have d1:=aL c1;rw[ap c1]at Ro;simp only[SX,k1,k2,bS g1,sO,dd,qX,mZ,fc,MF,<-hW3,Ro,d1,bS h1,st x,bC,iQ,ld x,bJ,ah];exact⟨by rw[e1,e2],mu _⟩
 rw[an c1]at Ro;by_cases c2:wj x 1=0;case neg=>
  have e1:vg x now=wj x 1:=by unfold vg;rw[bM,an c2]
  have e2:lW x now=x:=by unfold lW;rw[ap (by rw[e1];exact c2)]
  have d1:=aL c2;simp only[SX,k1,k2,bS g1,sO,dd,qX,mZ,fc,MF,<-hW3,Ro,d1,bS h1,st x,bC,iQ,ld x,bJ,ah];exact⟨by rw[e1,e2],mu _⟩
 have d1:=aK c2;obtain⟨hs,hn⟩:0<=x.dl/\0<=now:=by
  unfold Im at c1;unfold wj at c2;by_cases c:DE x=0
  ·rw[an c]at c1 c2;by_cases c3:x.st=1
   ·have h4:=Qf c3;rw[c]at h4;refine⟨?_,?_⟩
    ·by_cases c4:x.dl<0
     ·rw[an c4]at h4;omega
     ·omega
    ·by_cases c4:now<0
     ·rw[an c4]at c1;omega
     ·omega
   ·rw[ap c3]at c2;omega
  ·rw[ap c]at c1;exact absurd c1 c
 have hp:=Ho.M0 hs hn W3;by_cases c3:x.dl<=now
 ·have d3:=aK c3;rw[d3]at hp;have e1:vg x now=0:=by unfold vg;rw[bM,bM,an c3]
  have e2:lW x now=mM x:=by unfold lW;rw[an e1]
  simp only[SX,k1,k2,bS g1,sO,dd,qX,mZ,fc,MF,<-hW3,Ro,d1,aJ,jc h1,hp,bS h1,AY,st (mM x),bC,iQ,ld (mM x),bJ,ah];exact⟨by rw[e1,e2],mu _⟩
 ·have d3:=aL c3;rw[d3]at hp;have e1:vg x now=9:=by unfold vg;rw[bM,bM,ap c3]
  have e2:lW x now=x:=by unfold lW;rw[ap (by rw[e1];decide)]
  simp only[SX,k1,k2,bS g1,sO,dd,qX,mZ,fc,MF,<-hW3,Ro,d1,aJ,jc h1,hp,bS h1,st x,bC,iQ,ld x,bJ,ah];exact⟨by rw[e1,e2],mu _⟩
def DL(a b:Int)(W:AW):ba (.func (.func 68) #[] #[]) [.ae a,.ae b] W=some (.tuple #[.bool (decide (0<=a)&&decide (0<=b)&&decide (a<=b)),.ae (if 0<=a/\0<=b then 0 else 7)],W):=by
 have hb:ba (.func (.func 104) #[] #[]) [.ae a,.ae b] W=some (.ae (if 0<=a/\0<=b then 0 else 7),W):=by
  refine aP rfl ?_ B7;unfold Cz;by_cases c1:a<0
  ·have d1:=aK c1;simp only[SX,d1,ah];exact⟨by rw[bM],Le.refl _⟩
  ·have d1:=aL c1;by_cases c2:b<0
   ·have d2:=aK c2;simp only[SX,d1,d2,ah];exact⟨by rw[bM],Le.refl _⟩
   ·have d2:=aL c2;simp only[SX,d1,d2,ah];exact⟨by rw[kJ],Le.refl _⟩
 refine aP rfl ?_ HT;unfold DH;by_cases c:0<=a/\0<=b
 ·rw[an c]at hb|-;rw[aK c.1,aK c.2];have d:decide ((0:Int)=0)=true:=rfl;simp only[SX,hb,il,ah];exact⟨ak,Le.refl _⟩
 ·rw[ap c]at hb|-;have d:decide ((7:Int)=0)=false:=rfl;have hf:(decide (0<=a)&&decide (0<=b)&&decide (a<=b))=false:=by
   by_cases c1:0<=a
   ·rw[aL (show¬0<=b fromλh=>c ⟨c1,h⟩),Di];rfl
   ·rw[aL c1];rfl
  simp only[SX,hb,d,hf,ah];exact⟨ak,Le.refl _⟩
def OC(x:fx)(now:Int)(W:AW):ba (.func (.func 69) #[] #[]) [iZ x,.ae now] W=some (.tuple #[iZ (lW x now),.ae (vg x now)],W):=by
 refine aP rfl ?_ HW;unfold EB;obtain⟨W1,W2,k1,k2,aM,n2,g1,g2⟩:=DC x W;have mu:∀o,Le W (W2.put (W.next+1) o):=λo=>aM.put (by omega) o
 have st:=λy=>LO (x:=y) g2
 have ld:=λy=>bS (x:=y) (W:=W2.put (W.next+1) (.cells (dK y))) (b:=W.next+1) (AW.aW _ _ _)
 have d00:decide ((0:Int)=0)=true:=rfl;have d70:decide ((7:Int)=0)=false:=rfl;by_cases c0:DE x=0;case neg=>
  have d0:=aL c0;have t1:Im x now=DE x:=by unfold Im;rw[ap c0]
  have e1:vg x now=DE x:=by unfold vg;rw[t1,an c0]
  have e2:lW x now=x:=by unfold lW;rw[ap (by rw[e1];exact c0)]
  simp only[SX,k1,k2,bS g1,iJ,d0,st x,bC,iQ,ld x,bJ,ah];exact⟨by rw[e1,e2],mu _⟩
 have d0:=aK c0;by_cases c1:now<0
 ·have d1:=aK c1;have t1:Im x now=7:=by unfold Im;rw[an c0,an c1]
  have e1:vg x now=7:=by unfold vg;rw[t1,an (by decide)]
  have e2:lW x now=x:=by unfold lW;rw[ap (by rw[e1];decide)]
  simp only[SX,k1,k2,bS g1,iJ,c0,d1,d70,st x,bC,iQ,ld x,bJ,ah];exact⟨by rw[e1,e2],mu _⟩
 have d1:=aL c1;have t1:Im x now=0:=by unfold Im;rw[an c0,ap c1]
 have nP:=jy x 1 W2;by_cases c2:wj x 1=0;case neg=>
  have d2:=aL c2;have e1:vg x now=wj x 1:=by unfold vg;rw[bM,an c2]
  have e2:lW x now=x:=by unfold lW;rw[ap (by rw[e1];exact c2)]
  simp only[SX,k1,k2,bS g1,iJ,c0,d1,nP,d2,st x,bC,iQ,ld x,bJ,ah];exact⟨by rw[e1,e2],mu _⟩
 have d2:=aK c2;have hs:0<=x.dl:=by
  unfold wj at c2;rw[an c0]at c2;by_cases c3:x.st=1
  ·have h4:=Qf c3;rw[c0]at h4;by_cases c4:x.dl<0
   ·rw[an c4]at h4;omega
   ·omega
  ·rw[ap c3]at c2;omega
 have hp:=DL x.dl now W2;rw[aK hs,aK (show 0<=now by omega),kJ,il,il]at hp;rw[c2]at nP;by_cases c3:x.dl<=now
 ·have d3:=aK c3;rw[d3]at hp;have e1:vg x now=0:=by unfold vg;rw[bM,bM,an c3]
  have e2:lW x now=mM x:=by unfold lW;rw[an e1]
  simp only[SX,k1,k2,bS g1,iJ,c0,d1,nP,aJ,jc g1,hp,xd,st (mM x),bC,iQ,ld (mM x),bJ,ah];exact⟨by rw[e1,e2],mu _⟩
 ·have d3:=aL c3;rw[d3]at hp;have e1:vg x now=9:=by unfold vg;rw[bM,bM,ap c3]
  have e2:lW x now=x:=by unfold lW;rw[ap (by rw[e1];decide)]
  simp only[SX,k1,k2,bS g1,iJ,c0,d1,nP,aJ,jc g1,hp,st x,bC,iQ,ld x,bJ,ah];exact⟨by rw[e1,e2],mu _⟩
def mf(x:fx)(o:Int):Int:=if wj x 1≠0 then wj x 1 else if x.ow=o then 0 else 14
def Ih(x:fx)(o:Int)(W:AW):ba (.func (.func 193) #[] #[]) [iZ x,.int .u32 o] W=some (.ae (mf x o),W):=by
 refine aP rfl ?_ Mp;unfold K1 mf;have hg:(W.add (.cells (dK x))).get W.next=some (.cells (dK x)):=AW.aI _ _;have aM:Le W (W.add (.cells (dK x))):=(Le.refl _).add _;simp only[SX,aJ];generalize W.add (.cells (dK x))=W1 at *;by_cases c:wj x 1=0
 ·have d:=aK c;rw[bM];by_cases c2:x.ow=o
  ·have d2:=aK c2;simp only[SX,bS hg,fc,d,ve hg,d2,an c2,ah];exact⟨ak,aM⟩
  ·have d2:=aL c2;simp only[SX,bS hg,fc,d,ve hg,d2,ap c2,ah];exact⟨ak,aM⟩
 ·have d:=aL c;rw[an c];simp only[SX,bS hg,fc,d,ah];exact⟨ak,aM⟩
def tU(x:fx)(o:Int)(W:AW):ba (.func (.func 110) #[] #[]) [iZ x,.int .u32 o] W=some (.ae (mf x o),W):=by
 refine aP rfl ?_ LF;unfold J4 mf;have hg:(W.add (.cells (dK x))).get W.next=some (.cells (dK x)):=AW.aI _ _;have aM:Le W (W.add (.cells (dK x))):=(Le.refl _).add _;simp only[SX,aJ];generalize W.add (.cells (dK x))=W1 at *;by_cases c:wj x 1=0
 ·have d:=aK c;rw[bM];by_cases c2:x.ow=o
  ·have d2:=aK c2;simp only[SX,bS hg,jy,ve hg,d2,an c2,c,ah];exact⟨ak,aM⟩
  ·have d2:=aL c2;simp only[SX,bS hg,jy,d,ve hg,d2,ap c2,ah];exact⟨ak,aM⟩
 ·have d:=aL c;rw[an c];simp only[SX,bS hg,jy,d,ah];exact⟨ak,aM⟩
def LJ(x:fx)(o:Int):fx:=if mf x o=0 then mM x else x
def OQ(x:fx)(o:Int)(W:AW):ba (.func (.func 155) #[] #[]) [iZ x,.int .u32 o] W=some (.tuple #[iZ (LJ x o),.ae (mf x o)],W):=by
 refine aP rfl ?_ FO;unfold BU LJ;obtain⟨W1,W2,k1,k2,aM,n2,g1,g2⟩:=DC x W;have mu:∀o,Le W (W2.put (W.next+1) o):=λo=>aM.put (by omega) o
 have st:=λy=>LO (x:=y) g2
 have ld:=λy=>bS (x:=y) (W:=W2.put (W.next+1) (.cells (dK y))) (b:=W.next+1) (AW.aW _ _ _)
 by_cases c:mf x o=0
 ·have d:=aK c;simp only[SX,k1,k2,bS g1,Ih,d,AY,st (mM x),bC,iQ,ld (mM x),bJ,an c,ah];exact⟨by rw[c],mu _⟩
 ·have d:=aL c;simp only[SX,k1,k2,bS g1,Ih,d,st x,bC,iQ,ld x,bJ,ap c,ah];exact⟨ak,mu _⟩
def Mm(x:fx)(o:Int)(W:AW):ba (.func (.func 73) #[] #[]) [iZ x,.int .u32 o] W=some (.tuple #[iZ (LJ x o),.ae (mf x o)],W):=by
 refine aP rfl ?_ FB;unfold BS LJ;obtain⟨W1,W2,k1,k2,aM,n2,g1,g2⟩:=DC x W;have mu:∀o,Le W (W2.put (W.next+1) o):=λo=>aM.put (by omega) o
 have st:=λy=>LO (x:=y) g2
 have ld:=λy=>bS (x:=y) (W:=W2.put (W.next+1) (.cells (dK y))) (b:=W.next+1) (AW.aW _ _ _)
 by_cases c:mf x o=0
 ·have d:=aK c;simp only[SX,k1,k2,bS g1,tU,d,xd,st (mM x),bC,iQ,ld (mM x),bJ,an c,ah];exact⟨by rw[c],mu _⟩
 ·have d:=aL c;simp only[SX,k1,k2,bS g1,tU,d,st x,bC,iQ,ld x,bJ,ap c,ah];exact⟨ak,mu _⟩
def aij(o a b:Int)(W:AW):dU Tryz.prog 87 [(0,.ae 2),(1,.int .u32 o),(3,.int .u64 a),(4,.int .u64 b)] W=some (iZ ⟨2,o,0,a,b⟩,W):=aS (by kernel_rfl) rfl
def TZ{t:af}{c d:Bool}{a b:Int}(W:AW):bO Tryz.prog .add t c d (.int .u64 a) (.int .u64 b) W=some (.int .u64 (IntKind.u64.wrap (a+b)),W):=mH (by simp only[Gn,sF,Ag])
def HV(x:fx):Int:=if x.se=18446744073709551615 then 17 else 0
def EX(x:fx)(o:Int):fx:=if HV x=0 then⟨2,o,0,IntKind.u64.wrap (x.se+1),x.ep⟩else x
def RO(x:fx)(o:Int)(W:AW):ba (.func (.func 196) #[] #[]) [iZ x,.int .u32 o] W=some (.tuple #[iZ (EX x o),.ae (HV x)],W):=by
 refine aP rfl ?_ JU;unfold GV EX HV;obtain⟨W1,W2,k1,k2,aM,n2,g1,g2⟩:=DC x W;have mu:∀o,Le W (W2.put (W.next+1) o):=λo=>aM.put (by omega) o
 have st:=λy=>LO (x:=y) g2
 have ld:=λy=>bS (x:=y) (W:=W2.put (W.next+1) (.cells (dK y))) (b:=W.next+1) (AW.aW _ _ _)
 by_cases c:x.se=18446744073709551615
 ·have d:=aK c;simp only[SX,k1,k2,aJ,FZ g1,d,bS g1,st x,bC,iQ,ld x,bJ,an c,ah];exact⟨rfl,mu _⟩
 ·have d:=aL c;simp only[SX,k1,k2,aJ,FZ g1,Pl g1,d,TZ,aij,st ⟨2,o,0,IntKind.u64.wrap (x.se+1),x.ep⟩,bC,iQ,ld ⟨2,o,0,IntKind.u64.wrap (x.se+1),x.ep⟩,bJ,ap c,ah];exact⟨rfl,mu _⟩
def Dt(x:fx)(o:Int):Int:=if mf x o≠0 then mf x o else HV x
def Fa(x:fx)(o:Int):fx:=if Dt x o=0 then EX x o else x
def adl{x:fx}{o:Int}(h:HV x≠0):EX x o=x:=by unfold EX;rw[ap h]
def aeL(x:fx)(o:Int)(W:AW):ba (.func (.func 157) #[] #[]) [iZ x,.int .u32 o] W=some (.tuple #[iZ (Fa x o),.ae (Dt x o)],W):=by
 refine aP rfl ?_ NZ;unfold Nl Fa Dt;obtain⟨W1,W2,k1,k2,aM,n2,g1,g2⟩:=DC x W;have mu:∀o,Le W (W2.put (W.next+1) o):=λo=>aM.put (by omega) o
 have st:=λy=>LO (x:=y) g2
 have ld:=λy=>bS (x:=y) (W:=W2.put (W.next+1) (.cells (dK y))) (b:=W.next+1) (AW.aW _ _ _)
 by_cases c:mf x o=0
 ·have d:=aK c;have e:(if HV x=0 then EX x o else x)=EX x o:=by
   split
   ·rfl
   ·rename_i h;exact(adl h).symm
  simp only[SX,k1,k2,bS g1,Ih,RO,st (EX x o),bC,iQ,ld (EX x o),bJ,c,ap (show¬((0:Int)≠0)by omega),e,ah];exact⟨ak,mu _⟩
 ·have d:=aL c;simp only[SX,k1,k2,bS g1,Ih,d,st x,bC,iQ,ld x,bJ,an c,ap c,ah];exact⟨ak,mu _⟩
def Yt(x:fx)(o:Int)(W:AW):ba (.func (.func 74) #[] #[]) [iZ x,.int .u32 o] W=some (.tuple #[iZ (Fa x o),.ae (Dt x o)],W):=by
 refine aP rfl ?_ O5;unfold M8 Fa Dt;obtain⟨W1,W2,k1,k2,aM,n2,g1,g2⟩:=DC x W;have mu:∀o,Le W (W2.put (W.next+1) o):=λo=>aM.put (by omega) o
 have st:=λy=>LO (x:=y) g2
 have ld:=λy=>bS (x:=y) (W:=W2.put (W.next+1) (.cells (dK y))) (b:=W.next+1) (AW.aW _ _ _)
 have d17:(!decide ((17:Int)=0))=true:=rfl;by_cases c:mf x o=0
 ·have d:=aK c;by_cases c2:x.se=18446744073709551615
  ·have d2:=aK c2;have e1:HV x=17:=by unfold HV;rw[an c2]
   simp only[SX,k1,k2,aJ,bS g1,FZ g1,tU,d2,d17,st x,bC,iQ,ld x,bJ,c,ap (show¬((0:Int)≠0)by omega),e1,ap (show¬((17:Int)=0)by omega),ah];exact⟨ak,mu _⟩
  ·have d2:=aL c2;have e1:HV x=0:=by unfold HV;rw[ap c2]
   have e2:EX x o=⟨2,o,0,IntKind.u64.wrap (x.se+1),x.ep⟩:=by unfold EX;rw[an e1]
   simp only[SX,k1,k2,aJ,bS g1,FZ g1,Pl g1,tU,d2,TZ,aij,st ⟨2,o,0,IntKind.u64.wrap (x.se+1),x.ep⟩,bC,iQ,ld ⟨2,o,0,IntKind.u64.wrap (x.se+1),x.ep⟩,bJ,c,ap (show¬((0:Int)≠0)by omega),e1,e2,bi,ah];exact⟨ak,mu _⟩
 ·have d:=aL c;simp only[SX,k1,k2,bS g1,tU,d,st x,bC,iQ,ld x,bJ,an c,ap c,ah];exact⟨ak,mu _⟩
def g27:Tryz.prog.eqGuardType Tryz.prog.depth 48=false:=by kernel_rfl
noncomputable def JT(r:Option Bool):List (Int×Int)->Option Bool
 |[]=>r
 |p::l=>match some (p.1==p.2)with
  |some true=>JT r l
  |some false=>some false
  |none=>none
def Gi(b:Bool):∀l:List (Int×Int),JT (some b) l=some ((l.all λp=>p.1==p.2)&&b)
 |[]=>rfl
 |p::l=>by
  unfold JT;cases h:p.1==p.2 with
  |true=>simp only[dC,h,il];exact Gi b l
  |false=>simp only[dC,h,p8]
def q27(k ow un se sc n to t1 t2 t3 t4 nw k' ow' un' se' sc' n' to' Uz TF T8 Ud nw':Int):NC Tryz.prog 8 48 (.agg (jg k ow un se sc n to t1 t2 t3 t4 nw)) (.agg (jg k' ow' un' se' sc' n' to' Uz TF T8 Ud nw'))=
 JT (match yl [(t1,Uz),(t2,TF),(t3,T8),(t4,Ud)]with|some true=>yl [(nw,nw')]|some false=>some false|none=>none) [(k,k'),(ow,ow'),(un,un'),(se,se'),(sc,sc'),(n,n'),(to,to')]:=by kernel_rfl
def amS(k ow un se sc n to t1 t2 t3 t4 nw k' ow' un' se' sc' n' to' Uz TF T8 Ud nw':Int):Bool:=
 ([(k,k'),(ow,ow'),(un,un'),(se,se'),(sc,sc'),(n,n'),(to,to')]:List (Int×Int)).all (λp=>p.1==p.2)&&(([(t1,Uz),(t2,TF),(t3,T8),(t4,Ud)]:List (Int×Int)).all (λp=>p.1==p.2)&&([(nw,nw')]:List (Int×Int)).all (λp=>p.1==p.2))
def aiY(k ow un se sc n to t1 t2 t3 t4 nw k' ow' un' se' sc' n' to' Uz TF T8 Ud nw':Int)(c d:Bool)(W:AW):
 bO Tryz.prog .neq 48 c d (.agg #[.ae k,.int .u32 ow,.ae un,.ae se,.ae sc,.ae n,.int .u32 to,.int .u32 t1,.int .u32 t2,.int .u64 t3,.int .u64 t4,.ae nw]) (.agg #[.ae k',.int .u32 ow',.ae un',.ae se',.ae sc',.ae n',.int .u32 to',.int .u32 Uz,.int .u32 TF,.int .u64 T8,.int .u64 Ud,.ae nw']) W=
  some (.bool (!amS k ow un se sc n to t1 t2 t3 t4 nw k' ow' un' se' sc' n' to' Uz TF T8 Ud nw'),W):=by
 refine sA g27 ((q27 ..).trans ?_);have h:(match yl [(t1,Uz),(t2,TF),(t3,T8),(t4,Ud)]with|some true=>yl [(nw,nw')]|some false=>some false|none=>none)=some (([(t1,Uz),(t2,TF),(t3,T8),(t4,Ud)]:List (Int×Int)).all (λp=>p.1==p.2)&&([(nw,nw')]:List (Int×Int)).all (λp=>p.1==p.2)):=by
  rw[tS];cases([(t1,Uz),(t2,TF),(t3,T8),(t4,Ud)]:List (Int×Int)).all (λp=>p.1==p.2)with
  |true=>rw[il];exact tS _
  |false=>rfl
 rw[h,Gi];rfl
def e1:∀b0 b1 b2 b3 b4 b5 b6 b7:Bool,LA b0 b1 b2 b3 b4 b5 b6 b7 1=if(b1||(b2||(b3||(b4||(b5||(b6||b7))))))=true then 2 else 0:=by decide+kernel
def e7:∀b0 b1 b2 b3 b4 b5 b6 b7:Bool,LA b0 b1 b2 b3 b4 b5 b6 b7 7=if(b3||(b4||(b5||(b6||b7))))=true then 2 else 0:=by decide+kernel
def e27:∀b0 b1 b2 b3 b4 b5 b6 b7:Bool,LA b0 b1 b2 b3 b4 b5 b6 b7 27=if(b2||(b5||(b6||b7)))=true then 2 else 0:=by decide+kernel
def e99:∀b0 b1 b2 b3 b4 b5 b6 b7:Bool,LA b0 b1 b2 b3 b4 b5 b6 b7 99=if(b2||(b3||(b4||b7)))=true then 2 else 0:=by decide+kernel
def e67:∀b0 b1 b2 b3 b4 b5 b6 b7:Bool,LA b0 b1 b2 b3 b4 b5 b6 b7 67=if(b2||(b3||(b4||(b5||b7))))=true then 2 else 0:=by decide+kernel
def e64:∀b0 b1 b2 b3 b4 b5 b6 b7:Bool,LA b0 b1 b2 b3 b4 b5 b6 b7 64=if(b0||(b1||(b2||(b3||(b4||(b5||b7))))))=true then 2 else 0:=by decide+kernel
def e11:∀b0 b1 b2 b3 b4 b5 b6 b7:Bool,LA b0 b1 b2 b3 b4 b5 b6 b7 11=if(b2||(b4||(b5||(b6||b7))))=true then 2 else 0:=by decide+kernel
def asS:∀b0 b1 b2 b3 b4 b5 b6 b7:Bool,LA b0 b1 b2 b3 b4 b5 b6 b7 128=if(b0||(b1||(b2||(b3||(b4||(b5||b6))))))=true then 2 else 0:=by decide+kernel
def aoI(W:AW):dm Tryz.prog 48 W=some (.pointer (some ⟨W.next,0,none⟩),W.add (.cells [.ae 0,.int .u32 0,.ae 0,.ae 0,.ae 0,.ae 0,.int .u32 0,.int .u32 0,.int .u32 0,.int .u64 0,.int .u64 0,.ae 0])):=aS (by kernel_rfl) rfl
def aq4(k:Int)(W:AW):dU Tryz.prog 48 [(0,.ae k)] W=some (.agg #[.ae k,.int .u32 0,.ae 0,.ae 0,.ae 0,.ae 0,.int .u32 0,.int .u32 0,.int .u32 0,.int .u64 0,.int .u64 0,.ae 0],W):=aS (by kernel_rfl) rfl
def aoZ{ρ:Type}{c:Bool}{a b:ρ}{G:ρ->Prop}(h1:c=false->G a)(h2:c=true->G b):Ok (qJ (!c) (some a) (some b)) G:=by
 cases c with
 |false=>exact ah.2 (h1 rfl)
 |true=>exact ah.2 (h2 rfl)
def Vr(k ow un se sc n to t1 t2 t3 t4 nw:Int)(W:AW):Ok (uR ba (.agg (jg k ow un se sc n to t1 t2 t3 t4 nw)) W) λr=>r.1=.ae (zH k ow un se sc n to t1 t2 t3 t4 nw)/\Le W r.2:=by
 by_cases hk:k<1\/12<k
 ·have h1:∀m:Int,1<=m/\m<=12->decide (k=m)=false:=λm h1=>cg
  unfold uR jg;simp(maxDischargeDepth:=9) only[SX,MX,HX,Nat.reduceAdd,Nat.reduceLeDiff,Nat.reduceLT,aoI,aq4,dW,oN,ju,h1 1 (by decide),h1 2 (by decide),h1 3 (by decide),h1 4 (by decide),h1 5 (by decide),h1 6 (by decide),h1 7 (by decide),h1 8 (by decide),h1 9 (by decide),h1 10 (by decide),h1 11 (by decide),h1 12 (by decide)];unfold zH;rw[an hk]
 obtain rfl|rfl|rfl|rfl|rfl|rfl|rfl|rfl|rfl|rfl|rfl|rfl:k=1\/k=2\/k=3\/k=4\/k=5\/k=6\/k=7\/k=8\/k=9\/k=10\/k=11\/k=12:=by omega
 all_goals
  unfold uR jg zH Qv
  simp(maxDischargeDepth:=9) only[SX,MX,HX,Nat.reduceAdd,Nat.reduceLeDiff,Nat.reduceLT,aoI,aq4,aiY,iG,Int.reduceEq,dW,oN,ju]
  refine aoZ (λhb=>?_) (λhb=>?_)
  all_goals
   refine⟨gO (Value.int .i64) ?_,by simp(maxDischargeDepth:=9) only[HX]⟩
   rw[bM]
   simp only[Ut,Int.reduceToNat,List.getD_cons_succ,List.getD_cons_zero,e1,e7,e11,e27,e64,e67,e99,asS]
   unfold amS at hb
   simp only[dC,xy,mZ,oA,bA,uW,ur,decide_eq_false_iff_not,Bool.and_eq_false_iff,beq_eq_false_iff_ne,uL,and_true,ne_eq,not_true_eq_false,false_or,or_false]at hb|-
   split<;>first|rfl|(exfalso;omega)
def GY(k ow un se sc n to t1 t2 t3 t4 nw:Int)(W:AW):ba (.func (.func 32) #[] #[]) [.agg (jg k ow un se sc n to t1 t2 t3 t4 nw)] W=some (.ae (zH k ow un se sc n to t1 t2 t3 t4 nw),W):=
 aP rfl (Vr k ow un se sc n to t1 t2 t3 t4 nw W) La
structure jC where
 k:Int
 ow:Int
 un:Int
 se:Int
 sc:Int
 n:Int
 to:Int
 t1:Int
 t2:Int
 t3:Int
 t4:Int
 nw:Int
structure mK where
 er:Int
 se:Int
 n:Int
 dl:Int
 t1:Int
 t2:Int
 t3:Int
 t4:Int
 pl:Int
def UB:jC:=⟨0,0,0,0,0,0,0,0,0,0,0,0⟩
def fw:mK:=⟨0,0,0,0,0,0,0,0,0⟩
abbrev wa(o:jC):ad:=.agg #[.ae o.k,.int .u32 o.ow,.ae o.un,.ae o.se,.ae o.sc,.ae o.n,.int .u32 o.to,.int .u32 o.t1,.int .u32 o.t2,.int .u64 o.t3,.int .u64 o.t4,.ae o.nw]
abbrev gt(r:mK):ad:=.agg #[.ae r.er,.ae r.se,.ae r.n,.ae r.dl,.int .u32 r.t1,.int .u32 r.t2,.int .u64 r.t3,.int .u64 r.t4,.ae r.pl]
structure lD where
 id:Int
 th:Int
 ret:Bool
 op:jC
 rp:mK
structure iw where
 id:Int
 th:Int
 fr:Int
 to:Int
 op:jC
 rp:mK
abbrev Io(e:lD):List ad:=[.ae e.id,.ae e.th,.bool e.ret,.ae e.op.k,.int .u32 e.op.ow,.ae e.op.un,.ae e.op.se,.ae e.op.sc,.ae e.op.n,.int .u32 e.op.to,.int .u32 e.op.t1,.int .u32 e.op.t2,.int .u64 e.op.t3,.int .u64 e.op.t4,.ae e.op.nw,
 .ae e.rp.er,.ae e.rp.se,.ae e.rp.n,.ae e.rp.dl,.int .u32 e.rp.t1,.int .u32 e.rp.t2,.int .u64 e.rp.t3,.int .u64 e.rp.t4,.ae e.rp.pl]
abbrev km(e:iw):List ad:=[.ae e.id,.ae e.th,.ae e.fr,.ae e.to,.ae e.op.k,.int .u32 e.op.ow,.ae e.op.un,.ae e.op.se,.ae e.op.sc,.ae e.op.n,.int .u32 e.op.to,.int .u32 e.op.t1,.int .u32 e.op.t2,.int .u64 e.op.t3,.int .u64 e.op.t4,.ae e.op.nw,
 .ae e.rp.er,.ae e.rp.se,.ae e.rp.n,.ae e.rp.dl,.int .u32 e.rp.t1,.int .u32 e.rp.t2,.int .u64 e.rp.t3,.int .u64 e.rp.t4,.ae e.rp.pl]
abbrev evV(e:lD):ad:=.agg (Io e).toArray
abbrev Jh(e:iw):ad:=.agg (km e).toArray
def ev0:lD:=⟨0,0,false,UB,fw⟩
def ho0:iw:=⟨0,0,0,0,UB,fw⟩
def BJ{b o:Nat}{cs:List ad}{x:ad}{W:AW}(h:W.get b=some (.cells cs))(hv:cs[o]? =some x):bz (.pointer (some ⟨b,o,none⟩)) W=some (x,W):=aO (ao h) hv
def agp{W:AW}{b:Nat}{cs:List ad}(h:W.get b=some (.cells cs)):aU W b=some cs:=by unfold aU;rw[h]
def aaR{cs vs:List ad}(h:cs.length=vs.length):iG cs 0 vs=vs:=by unfold iG;rw[pd,jF,aJ,<-h,List.drop_length,fu]
def gE{n b:Nat}{cs:List ad}{vs:Array ad}{W:AW}(h:W.get b=some (.cells cs))(h1:cs.length=n)(h2:vs.size=n)(h3:vs.toList.all Eng.one=true):eZ n (.pointer (some ⟨b,0,none⟩)) (.agg vs) W=some (aj,W.put b (.cells vs.toList)):=by have hl:=Array.length_toList (xs:=vs);rw[Do,agp h,bJ,an ⟨h2,by omega,h3⟩,aaR (by omega)]
def avZ{t:af}{zs vs:List ad}{n:Nat}(ha:∀W:AW,dm Tryz.prog t W=some (.pointer (some ⟨W.next,0,none⟩),W.add (.cells zs)))(h1:zs.length=n)(h2:vs.length=n)(h3:vs.all Eng.one=true)(W:AW):
 ∃V V2,dm Tryz.prog t W=some (.pointer (some ⟨W.next,0,none⟩),V)/\eZ n (.pointer (some ⟨W.next,0,none⟩)) (.agg vs.toArray) V=some (aj,V2)/\Le W V2/\V2.next=W.next+1/\V2.get W.next=some (.cells vs):=by
 refine⟨_,_,ha W,gE (AW.aI _ _) h1 (by simpa using h2) (by simpa using h3),((Le.refl _).add _).put (aQ _) _,by rw[AW.bG,AW.av],?_⟩;rw[AW.aW]
def aoz(W:AW):dm Tryz.prog 52 W=some (.pointer (some ⟨W.next,0,none⟩),W.add (.cells (Io ev0))):=aS (by kernel_rfl) rfl
def QH(W:AW):dm Tryz.prog 77 W=some (.pointer (some ⟨W.next,0,none⟩),W.add (.cells (km ho0))):=aS (by kernel_rfl) rfl
def air(W:AW):dU Tryz.prog 48 [] W=some (wa UB,W):=aS (by kernel_rfl) rfl
def acv(W:AW):dU Tryz.prog 50 [] W=some (gt fw,W):=aS (by kernel_rfl) rfl
def apj(e:lD)(W:AW):∃V V2,dm Tryz.prog 52 W=some (.pointer (some ⟨W.next,0,none⟩),V)/\eZ 24 (.pointer (some ⟨W.next,0,none⟩)) (evV e) V=some (aj,V2)/\Le W V2/\V2.next=W.next+1/\V2.get W.next=some (.cells (Io e)):=
 avZ (n:=24) (vs:=Io e) aoz rfl rfl rfl W
section
variable {W:AW} {b:Nat} {e:lD} {h:iw}
def KW(x:W.get b=some (.cells (Io e))):dJ 12 (.pointer (some ⟨b,3,none⟩)) W=some (wa e.op,W):=bB (ao x) rfl
def KE(x:W.get b=some (.cells (Io e))):dJ 9 (.pointer (some ⟨b,15,none⟩)) W=some (gt e.rp,W):=bB (ao x) rfl
def adq(x:W.get b=some (.cells (Io e))):bz (.pointer (some ⟨b,0,none⟩)) W=some (.ae e.id,W):=BJ x rfl
def aah(x:W.get b=some (.cells (Io e))):bz (.pointer (some ⟨b,1,none⟩)) W=some (.ae e.th,W):=BJ x rfl
def Wy(x:W.get b=some (.cells (Io e))):bz (.pointer (some ⟨b,2,none⟩)) W=some (.bool e.ret,W):=BJ x rfl
def Wp(x:W.get b=some (.cells (km h))):dJ 25 (.pointer (some ⟨b,0,none⟩)) W=some (Jh h,W):=bB (ao x) rfl
def alN(x:W.get b=some (.cells (km h))):bz (.pointer (some ⟨b,2,none⟩)) W=some (.ae h.fr,W):=BJ x rfl
def NA(x:W.get b=some (.cells (km h))):bz (.pointer (some ⟨b,3,none⟩)) W=some (.ae h.to,W):=BJ x rfl
def aap(x:W.get b=some (.cells (km h))):bz (.pointer (some ⟨b,0,none⟩)) W=some (.ae h.id,W):=BJ x rfl
end
def vl{α:Type}(z:Nat)(f:α->List ad)(cs:List ad)(p:Nat)(e:α):Prop:=(cs.drop p).take z=f e
abbrev EvL(W:AW)(v:ad)(l:List lD):Prop:=Row W 24 (vl 24 Io) v l
abbrev SB(W:AW)(v:ad)(l:List iw):Prop:=Row W 25 (vl 25 km) v l
def gf{α:Type}{z:Nat}{f:α->List ad}{cs:List ad}{p:Nat}{e:α}(h:vl z f cs p e){j:Nat}(hj:j<z):cs[p+j]? =(f e)[j]? :=by unfold vl at h;rw[<-h,mm,an hj,p9]
def AN{α:Type}{z:Nat}{f:α->List ad}(hf:∀a,(f a).length=z)(a:α)(pre post:List ad):vl z f (pre++(f a++post)) pre.length a:=by unfold vl;rw[xx,<-hf a,xN]
def PB(e:lD):(Io e).length=24:=rfl
def qF(e:iw):(km e).length=25:=rfl
def ag8(e:lD):(Io e).all Eng.one=true:=rfl
def agM(e:iw):(km e).all Eng.one=true:=rfl
def MG:((#[25]:Array af)[0]?).bind Tryz.prog.underlying=some (.slice 52):=by kernel_rfl
def Np:((#[78]:Array af)[0]?).bind Tryz.prog.underlying=some (.slice 77):=by kernel_rfl
def yY:((#[28]:Array af)[0]?).bind Tryz.prog.underlying=some (.slice 3):=by kernel_rfl
def EvL.get{W:AW}{v:ad}{l:List lD}(h:EvL W v l){i:Nat}(hi:i<l.length):
 ∃b o,(∀W' k,pc 24 v (.int k (i:Int)) W'=some (.pointer (some ⟨b,o,none⟩),W'))/\b<W.next/\∀W',W'.get b=W.get b->dJ 24 (.pointer (some ⟨b,o,none⟩)) W'=some (evV l[i],W')/\bz (.pointer (some ⟨b,o,none⟩)) W'=some (.ae l[i].id,W')/\bz (.pointer (some ⟨b,o+1,none⟩)) W'=some (.ae l[i].th,W')/\bz (.pointer (some ⟨b,o+2,none⟩)) W'=some (.bool l[i].ret,W')/\dJ 9 (.pointer (some ⟨b,o+15,none⟩)) W'=some (gt l[i].rp,W'):=by
 obtain⟨b,o,cs,h1,h2,h3,h4⟩:=h.elem hi;refine⟨b,o,h1,h2,λW' hg=>?_⟩;have hc:aH W' b=some cs:=by
  have:aH W' b=aH W b:=by unfold aH;rw[hg]
  rw[this];exact h3
 have e0:(cs.drop o).take 24=Io l[i]:=h4;refine⟨?_,aO hc ((gf h4 (j:=0) (by omega)).trans rfl),aO hc ((gf h4 (j:=1) (by omega)).trans rfl),aO hc ((gf h4 (j:=2) (by omega)).trans rfl),?_⟩
 ·have:=bB (n:=24) (o:=o) hc (by rw[e0];rfl);rw[e0]at this;exact this
 ·have e9:(cs.drop (o+15)).take 9=(Io l[i]).drop 15:=by rw[<-e0,List.drop_take,xu]
  have:=bB (n:=9) (o:=o+15) hc (by rw[e9];rfl);rw[e9]at this;exact this
def SB.get{W:AW}{v:ad}{l:List iw}(h:SB W v l){i:Nat}(hi:i<l.length):
 ∃b o,(∀W' k,pc 25 v (.int k (i:Int)) W'=some (.pointer (some ⟨b,o,none⟩),W'))/\b<W.next/\∀W',W'.get b=W.get b->dJ 25 (.pointer (some ⟨b,o,none⟩)) W'=some (Jh l[i],W')/\bz (.pointer (some ⟨b,o,none⟩)) W'=some (.ae l[i].id,W')/\bz (.pointer (some ⟨b,o+1,none⟩)) W'=some (.ae l[i].th,W')/\bz (.pointer (some ⟨b,o+2,none⟩)) W'=some (.ae l[i].fr,W')/\bz (.pointer (some ⟨b,o+3,none⟩)) W'=some (.ae l[i].to,W'):=by
 obtain⟨b,o,cs,h1,h2,h3,h4⟩:=h.elem hi;refine⟨b,o,h1,h2,λW' hg=>?_⟩;have hc:aH W' b=some cs:=by
  have:aH W' b=aH W b:=by unfold aH;rw[hg]
  rw[this];exact h3
 have e0:(cs.drop o).take 25=km l[i]:=h4;refine⟨?_,aO hc ((gf h4 (j:=0) (by omega)).trans rfl),aO hc ((gf h4 (j:=1) (by omega)).trans rfl),aO hc ((gf h4 (j:=2) (by omega)).trans rfl),aO hc ((gf h4 (j:=3) (by omega)).trans rfl)⟩;have:=bB (n:=25) (o:=o) hc (by rw[e0];rfl);rw[e0]at this;exact this
def avW:Tryz.prog.eqGuardType Tryz.prog.depth 50=false:=by kernel_rfl
def awg(a b c d t1 t2 t3 t4 p a' b' c' d' Uz TF T8 Ud p':Int):NC Tryz.prog 8 50 (.agg #[.ae a,.ae b,.ae c,.ae d,.int .u32 t1,.int .u32 t2,.int .u64 t3,.int .u64 t4,.ae p]) (.agg #[.ae a',.ae b',.ae c',.ae d',.int .u32 Uz,.int .u32 TF,.int .u64 T8,.int .u64 Ud,.ae p'])=
 JT (match yl [(t1,Uz),(t2,TF),(t3,T8),(t4,Ud)]with|some true=>yl [(p,p')]|some false=>some false|none=>none) [(a,a'),(b,b'),(c,c'),(d,d')]:=by kernel_rfl
def apF{r:Option Bool}{rb:Bool}(hr:r=some rb)(l:List (Int×Int)):(match yl l with|some true=>r|some false=>some false|none=>none)=some ((l.all λp=>p.1==p.2)&&rb):=by
 rw[tS];cases l.all λp=>p.1==p.2 with
 |true=>rw[il];exact hr
 |false=>rfl
open Classical in
def acB(x y:mK)(c d:Bool)(W:AW):bO Tryz.prog .neq 50 c d (gt x) (gt y) W=some (.bool (!decide (x=y)),W):=by
 refine sA avW ((awg ..).trans ?_);rw[apF (tS _),Gi];congr 1;obtain⟨a,b,c,d,t1,t2,t3,t4,p⟩:=x;obtain⟨a',b',c',d',Uz,TF,T8,Ud,p'⟩:=y;rw[uJ];simp only[dC,xy,mZ,bA,uW,ip,mK.mk.injEq];constructor
 ·rintro⟨⟨h1,h2,h3,h4⟩,⟨h5,h6,h7,h8⟩,h9⟩;exact⟨h1,h2,h3,h4,h5,h6,h7,h8,h9⟩
 ·rintro⟨h1,h2,h3,h4,h5,h6,h7,h8,h9⟩;exact⟨⟨h1,h2,h3,h4⟩,⟨h5,h6,h7,h8⟩,h9⟩
open Classical in
def ape(x y:jC)(c d:Bool)(W:AW):bO Tryz.prog .neq 48 c d (wa x) (wa y) W=some (.bool (!decide (x=y)),W):=by
 refine(aiY ..).trans ?_;congr 3;congr 1;obtain⟨k,ow,un,se,sc,n,to,t1,t2,t3,t4,nw⟩:=x;obtain⟨k',ow',un',se',sc',n',to',Uz,TF,T8,Ud,nw'⟩:=y;unfold amS;rw[uJ];simp only[dC,xy,mZ,bA,uW,ip,jC.mk.injEq];constructor
 ·rintro⟨⟨h1,h2,h3,h4,h5,h6,h7⟩,⟨h8,h9,Ks,Vh⟩,h12⟩;exact⟨h1,h2,h3,h4,h5,h6,h7,h8,h9,Ks,Vh,h12⟩
 ·rintro⟨h1,h2,h3,h4,h5,h6,h7,h8,h9,Ks,Vh,h12⟩;exact⟨⟨h1,h2,h3,h4,h5,h6,h7⟩,⟨h8,h9,Ks,Vh⟩,h12⟩
def Bp(o:jC):Int:=zH o.k o.ow o.un o.se o.sc o.n o.to o.t1 o.t2 o.t3 o.t4 o.nw
def MY(o:jC){W:AW}(h:GW W):ba (.func (.func 51) #[] #[]) [wa o] W=some (.ae (Bp o),W):=DJ _ _ _ _ _ _ _ _ _ _ _ _ h
def ZD(o:jC)(W:AW):ba (.func (.func 32) #[] #[]) [wa o] W=some (.ae (Bp o),W):=GY _ _ _ _ _ _ _ _ _ _ _ _ W
def gV:cU:=λc S=>gB (ajY (S 1)) λa=>bQ (S 11) a λb=>let T:=q S 44 [S 11,S 1,a,b];gI b (aN 7 (S 7) λd=>bH 12 (S 1) (S 11) λe=>aN 12 e λf=>aG 34 λg=>aG 50 λh=>bV c 13 [d,f] λi=>aq i 0 λj=>aq i 1 λk=>aq i 2 λl=>aA 7 g j λm=>aA 9 h k λn=>cy l (I 0) λo=>let U:=q (q (q (q (q (q (q T 51 [d,S 1,S 11,e,f]) 12 [g,h]) 56 [i]) 50 [i]) 57 [j,k,l]) 14 [l]) 60 [l,o];gI o (bK (S 11) (I 1) λp=>yN (q (q U 48 [S 11,p]) 11 [p])) (gQ (S 10) λp=>bK p (I 1) λr=>bu 28 1 [(0,r)] λs=>cd #[28,28] (S 10) s λt=>gB (apq (S 11) (I 64)) λu=>gB (arq (I 1) u) λv=>az 4 (S 9) λw=>aB w λx=>bH 12 (S 1) (S 11) λy=>aN 12 y λz=>aY 52 [(0,r),(1,v),(3,z)] λA=>aN 9 h λB=>aY 52 [(0,r),(1,v),(2,.bool true),(4,B)] λC=>bu 25 2 [(0,A),(1,C)] λD=>cd #[25,25] x D λE=>az 4 (S 9) λF=>aA 1 F E λG=>aN 7 g λH=>aA 7 (S 7) H λJ=>bK (S 11) (I 1) λK=>yN (q (q (q (q (q (q (q (q (q U 62 [S 10,p,r]) 15 [r]) 65 [S 10,r,s,t]) 10 [t]) 69 [S 11,u,v]) 16 [v]) 72 [w,x,r,v,S 1,S 11,y,z,A,r,v,B,C,D,E,F,H]) 48 [S 11,K]) 11 [K]))) (yE 0 T)
def tA:pD:=λc a b d=>aX a λe=>gB (ajY b) λf=>qI f (I 40) λg=>gF g (dJ 4 e) λh=>gF g (Ec 27 [(0,h)]) λi=>gF g (zc c 6 [i,I 80]) λj=>aT g (.bool true) j λk=>gI k (bV c 7 [] λl=>yO [(l,none)]) (aN 4 e λl=>bV c 12 [l] λm=>aq m 0 λn=>aq m 1 λo=>aG 34 λp=>aA 7 p n λr=>cy o (I 0) λs=>gI s (bV c 7 [] λt=>yO [(t,none)]) (aN 4 e λt=>aY 27 [(0,t)] λu=>aG 27 λv=>aA 5 v u λw=>gL (gV c) (q (q (q (q (q (q (q (q (q (q (cG 0 [a,b,d] ai.blank) 3 [e]) 6 [.bool false]) 25 [b,f,g,g,h,i,j,k]) 35 [l,m]) 34 [m]) 37 [n,o]) 7 [p,o]) 39 [o,s]) 42 [t,u]) 9 [v,.slice none 0 0,I 0]) λx S=>gX 0 x (aN 5 (S 9) λy=>bV c 8 [y,S 10] λz=>aq z 0 λA=>aq z 1 λB=>aq z 2 λC=>aG 34 λD=>aA 7 D A λE=>aN 5 (S 9) λF=>bV c 14 [F] λG=>aq G 0 λH=>aq G 1 λJ=>cy C (I 0) λK=>gF K (dS J) λL=>gF K (zb6 L (I 0)) λM=>aT K (.bool true) M λN=>gF N (dJ 7 (S 7)) λO=>gF N (dJ 7 D) λP=>gF N (zc c 10 [O,P]) λQ=>gF N (Ny .not Q) λa0=>aT N (.bool true) a0 λb0=>gF b0 (dS H) λd0=>gF b0 (dS (S 10)) λe0=>gF b0 (zt2 e0) λf0=>gF b0 (apr f0 (I 1)) λg0=>gF b0 (Ln d0 g0) λh0=>aT b0 (.bool true) h0 λi0=>gI i0 (yO [(.bool false,none)]) (gQ (S 10) λj0=>nL j0 (I 2) λk0=>gI k0 (bV c 7 [] λl0=>yO [(l0,none)]) (fe 42 3 (S 2) λl0=>gQ (S 10) λm0=>kw m0 (I 1) λn0=>gB (aoL l0 n0) λa1=>bK a1 (I 1) λb1=>bK a1 (I 1) λd1=>bH 1 (S 10) d1 λe1=>aB e1 λf1=>bH 1 (S 10) a1 λg1=>aB g1 λh1=>bH 1 (S 10) a1 λi1=>aA 1 i1 f1 λj1=>bH 1 (S 10) b1 λk1=>aA 1 k1 h1 λl1=>aN 5 (S 9) λm1=>bV c 8 [m1,S 10] λn1=>aq n1 0 λa2=>aq n1 1 λb2=>aq n1 2 λd2=>aG 34 λe2=>aA 7 e2 a2 λf2=>lZ d2 (I 9) λg2=>gT g2 (dS b2) λh2=>gT g2 (dS a1) λi2=>gT g2 (afO h2 i2) λj2=>aT g2 j2 (.bool false) λk2=>gT k2 (zc c 7 []) λl2=>aT k2 l2 (.bool false) λm2=>yO [(m2,none)]))) yZ))
def yv{x0 x1 x2 W r}(h:tA ba x0 x1 x2 W=some r):OG 5 #[] [x0,x1,x2] W r:=oM 163 h (by kernel_rfl)
def jR:cU:=λc S=>bQ (S 51) (S 50) λa=>gI a (bH 1 (S 49) (S 51) λb=>aB b λd=>aD (S 7) λe=>az 5 e λf=>aB f λg=>kw d (I 1) λh=>bH 25 g h λi=>aN 25 i λj=>aG 77 λk=>aA 25 k j λl=>aN 7 (S 11) λm=>az 4 k λn=>aN 12 n λo=>bV c 25 [m,o] λp=>aq p 0 λr=>aq p 1 λs=>aq p 2 λt=>aG 34 λu=>aG 50 λv=>aA 7 u r λw=>aA 9 v s λx=>aN 25 k λy=>bV c 26 [y] λz=>gT z (dJ 9 v) λA=>gT z (jp 16 k) λB=>gT z (dJ 9 B) λC=>gT z (akj A C) λD=>aT z D (.bool false) λE=>let T:=q (q (q (q (q (q (q (q (q S 52 [a,S 51,b,d]) 12 [S 51,d]) 56 [S 7,e,f,g,d,h,i,j]) 14 [k]) 65 [m,n,o,p]) 64 [p]) 69 [r,s,t]) 15 [u,v,t]) 72 [y,z,z,A,B,C,D,E];gI E (aN 7 (S 4) λF=>aA 7 (S 4) F λG=>yR (q (q T 80 [F,S 51]) 5 [S 51,I 6])) (aN 7 u λF=>aA 7 (S 11) F λG=>bK (S 51) (I 1) λH=>yN (q (q T 82 [F,H]) 51 [H]))) (yE 0 (q S 52 [a]))
def yc:dE:=λc a b=>aX a λd=>aG 34 λe=>aN 5 d λf=>bV c 22 [f] λg=>aq g 0 λh=>aq g 1 λi=>aq g 2 λj=>cy j (I 0) λk=>gI k (aN 7 e λl=>aA 7 e l λm=>yO [(e,some 34),(I 0,none),(j,none)]) (gQ b λl=>qI l (I 400) λm=>gI m (aN 7 e λn=>aA 7 e n λo=>yO [(e,some 34),(I 0,none),(I 3,none)]) (bV c 23 [h,b] λn=>aq n 0 λo=>aq n 1 λp=>cy p (I 0) λr=>gI r (aN 7 e λs=>aA 7 e s λt=>yO [(e,some 34),(o,none),(p,none)]) (az 0 d λs=>aN 4 s λt=>bV c 24 [t] λu=>aq u 0 λv=>aq u 1 λw=>aG 34 λx=>aA 7 x v λy=>gQ b λz=>gL (jR c) (q (q (q (q (q (q (q (q (q (q (q (q (q (q (q (q (q (q (q (q (cG 0 [a,b] ai.blank) 2 [d]) 4 [e,I 0,I 0]) 19 [f,g]) 18 [g]) 21 [h,i,j]) 7 [h,i]) 6 [j]) 24 [j,k]) 28 [b,l,m]) 33 [h,b,n]) 32 [n]) 36 [o,p]) 9 [o,p]) 38 [p,r]) 44 [s,t,u]) 43 [u]) 47 [v,w]) 11 [x]) 6 [w]) 49 [b,z,I 0]) λA S=>gX 0 A (aN 7 (S 11) λB=>aA 7 (S 4) B λC=>yO [(S 4,some 34),(I 0,none),(S 6,none)]) (gR A (yO [(S 4,some 34),(S 5,none),(S 6,none)])))))
def Cs{x0 x1 W r}(h:yc ba x0 x1 W=some r):OG 8 #[] [x0,x1] W r:=oM 86 h (by kernel_rfl)
def vt:cU:=λc S=>az 5 (S 2) λa=>aB a λb=>gB (EH b) λd=>bQ (S 5) d λe=>let T:=q S 39 [S 5,a,b,d,e];gI e (az 5 (S 2) λf=>aB f λg=>bH 5 g (S 5) λh=>aN 5 h λi=>az 5 (S 3) λj=>aB j λk=>bH 5 k (S 5) λl=>aN 5 l λm=>gB (aq8 i m) λn=>let U:=q T 46 [f,g,S 5,h,i,j,k,S 5,l,m,n];gI n (yR (q U 4 [.bool false])) (bK (S 5) (I 1) λo=>yN (q (q U 44 [S 5,o]) 5 [o]))) (yE 0 T)
def qe:cU:=λc S=>az 6 (S 2) λa=>aB a λb=>bH 1 b (S 6) λd=>aB d λe=>mo e λf=>bQ (S 7) f λg=>let T:=q S 77 [S 7,a,b,S 6,d,e,f,g];gI g (az 6 (S 2) λh=>aB h λi=>bH 1 i (S 6) λj=>aB j λk=>bH 1 k (S 7) λl=>aB l λm=>az 6 (S 3) λn=>aB n λo=>bH 1 o (S 6) λp=>aB p λr=>bH 1 r (S 7) λs=>aB s λt=>gB (Ub m t) λu=>let U:=q T 87 [h,i,S 6,j,k,S 7,l,m,n,o,S 6,p,r,S 7,s,t,u];gI u (yR (q U 4 [.bool false])) (bK (S 7) (I 1) λv=>yN (q (q U 85 [S 7,v]) 7 [v]))) (yE 4 T)
def vf:cU:=λc S=>az 6 (S 2) λa=>aB a λb=>gB (H8 b) λd=>bQ (S 6) d λe=>let T:=q S 57 [S 6,a,b,d,e];gI e (az 6 (S 2) λf=>aB f λg=>bH 1 g (S 6) λh=>aB h λi=>mo i λj=>az 6 (S 3) λk=>aB k λl=>bH 1 l (S 6) λm=>aB m λn=>mo n λo=>gB (Ln j o) λp=>let U:=q T 64 [f,g,S 6,h,i,j,k,l,S 6,m,n,o,p];gI p (yR (q U 4 [.bool false])) (gL (qe c) (q U 7 [I 0]) λr V=>gX 4 r (bK (V 6) (I 1) λs=>yN (q (q V 62 [V 6,s]) 6 [s])) (gR r (yR V)))) (yE 2 T)
def KR:dE:=λc a b=>aX a λd=>aX b λe=>az 0 d λf=>aN 4 f λg=>az 0 e λh=>aN 4 h λi=>bV c 29 [g,i] λj=>eJ .not j λk=>gF k (jp 4 d) λl=>gF k (bz l) λm=>gF k (jp 4 e) λn=>gF k (bz n) λo=>gF k (aeo m o) λp=>aT k (.bool true) p λr=>gF r (jp 5 d) λs=>gF r (bz s) λt=>gF r (EH t) λu=>gF r (jp 5 e) λv=>gF r (bz v) λw=>gF r (EH w) λx=>gF r (Ln u x) λy=>aT r (.bool true) y λz=>gF z (jp 6 d) λA=>gF z (bz A) λB=>gF z (H8 B) λC=>gF z (jp 6 e) λD=>gF z (bz D) λE=>gF z (H8 E) λF=>gF z (Ln C F) λG=>aT z (.bool true) G λH=>gI H (yO [(.bool false,none)]) (gL (vt c) (q (q (q (cG 0 [a,b] ai.blank) 2 [d,e,.bool false]) 8 [f,g,h,i,j,k,k,l,m,n,o,p,r,r,s,t,u,v,w,x,y,z,z,A,B,C,D,E,F,G,H]) 5 [I 0]) λJ S=>gX 0 J (gL (vf c) (q S 6 [I 0]) λK T=>gX 2 K (yO [(.bool true,none)]) (gR K (yO [(T 4,none)]))) (gR J (yO [(S 4,none)])))
def Lx{x0 x1 W r}(h:KR ba x0 x1 W=some r):OG 10 #[] [x0,x1] W r:=oM 104 h (by kernel_rfl)
def xC:cU:=λc S=>az 3 (S 1) λa=>aB a λb=>gB (Lp b) λd=>bQ (S 7) d λe=>let T:=q S 21 [S 7,a,b,d,e];gI e (az 6 (S 6) λf=>aB f λg=>bu 32 1 [(0,.slice none 0 0)] λh=>cd #[32,32] g h λi=>az 6 (S 6) λj=>aA 1 j i λk=>bK (S 7) (I 1) λl=>yN (q (q (q T 28 [f,g,h,i,j]) 26 [S 7,l]) 7 [l])) (yE 0 T)
def Az:fI:=λc a=>aX a λb=>aG 34 λd=>aN 4 b λe=>bV c 30 [e] λf=>aq f 0 λg=>aq f 1 λh=>cy h (I 0) λi=>gI i (aY 34 [] λj=>aA 7 d j λk=>yO [(d,some 34),(h,none)]) (aN 4 b λj=>gB (sD 31 g g) λk=>aY 34 [(0,j),(2,k)] λl=>aG 34 λm=>aA 7 m l λn=>gL (xC c) (q (q (q (q (q (q (q (q (cG 0 [a] ai.blank) 1 [b,d,I 0]) 9 [e,f]) 8 [f]) 11 [g,h]) 4 [g,h]) 13 [h,i]) 17 [j,g,k,l]) 6 [m,I 0]) λo S=>gX 0 o (aN 7 (S 6) λp=>aA 7 (S 2) p λr=>yO [(S 2,some 34),(I 0,none)]) yZ)
def DU{x0 W r}(h:Az ba x0 W=some r):OG 12 #[] [x0] W r:=oM 34 h (by kernel_rfl)
def jE:Mn:=λc a b d e f=>az 0 f λg=>aB g λh=>cy h (I 0) λi=>gI i (aN 7 a λj=>aN 9 f λk=>aA 7 b j λl=>gA (λW=>kA true (dJ 9 f W) k&&true) (aA 9 d k λm=>yO [(b,some 34),(d,some 50),(I 0,none)])) (aN 7 e λj=>aN 9 f λk=>aA 7 b j λl=>gA (λW=>kA true (dJ 9 f W) k&&true) (aA 9 d k λm=>yO [(b,some 34),(d,some 50),(I 0,none)]))
def qK:atk:=λc a b d e f g h=>gI h (aN 7 f λi=>aN 12 b λj=>bV c 38 [i,j] λk=>aq k 0 λl=>aq k 1 λm=>aA 7 f l λn=>aA 9 g m λo=>jE c a d e f g) (aN 7 f λi=>aN 12 b λj=>bV c 39 [i,j] λk=>aq k 0 λl=>aq k 1 λm=>aA 7 f l λn=>aA 9 g m λo=>jE c a d e f g)
def qR:Mn:=λc a b d e f=>cy f (I 0) λg=>gI g (aN 7 a λh=>aY 50 [] λi=>aA 7 d h λj=>aA 9 e i λk=>yO [(d,some 34),(e,some 50),(f,none)]) (aN 7 a λh=>aN 12 b λi=>bV c 33 [h,i] λj=>cy j (I 0) λk=>gI k (aN 7 a λl=>aY 50 [(0,j)] λm=>aA 7 d l λn=>aA 9 e m λo=>yO [(d,some 34),(e,some 50),(I 0,none)]) (aN 7 a λl=>bV c 34 [l] λm=>aG 34 λn=>aA 7 n m λo=>aG 50 λp=>az 0 b λr=>aB r λs=>bY s (I 1) λt=>gI t (aN 7 a λu=>az 0 a λv=>az 2 v λw=>aB w λx=>bV c 35 [u,x] λy=>az 3 p λz=>aA 1 z y λA=>jE c a d e n p) (bY s (I 12) λu=>gI u (az 11 b λv=>aB v λw=>az 4 a λx=>aB x λy=>gB (Zb w y) λz=>gI z (aN 7 a λA=>aY 50 [(0,I 18)] λB=>aA 7 d A λC=>aA 9 e B λD=>yO [(d,some 34),(e,some 50),(I 0,none)]) (aN 7 n λA=>az 11 b λB=>aB B λC=>bV c 36 [A,C] λD=>aA 7 n D λE=>jE c a d e n p)) (bY s (I 3) λv=>gI v (aN 7 n λw=>aN 12 b λx=>bV c 37 [w,x] λy=>aq y 0 λz=>aq y 1 λA=>aA 7 n z λB=>aA 9 p A λC=>jE c a d e n p) (bY s (I 10) λw=>gI w (qK c a b d e n p w) (bY s (I 11) λx=>qK c a b d e n p x))))))
def JM:dE:=λc a b=>aX a λd=>aX b λe=>aG 34 λf=>aG 50 λg=>aN 7 d λh=>bV c 31 [h] λi=>lZ i (I 0) λj=>gI j (aN 12 e λk=>bV c 32 [k] λl=>qR c d e f g l) (qR c d e f g i)
def QL{x0 x1 W r}(h:JM ba x0 x1 W=some r):OG 13 #[] [x0,x1] W r:=oM 84 h (by kernel_rfl)
def fD:dE:=λc a b=>bV c 121 [a,b] λd=>gB (O9 d (I 0)) λe=>yO [(e,none)]
def jQ{x0 x1 W r}(h:fD ba x0 x1 W=some r):OG 95 #[] [x0,x1] W r:=oM 9 h (by kernel_rfl)
def iF:fI:=λc a=>gB (aod a (.slice none 0 0)) λb=>gI b (yO [(.slice none 0 0,none)]) (bu 31 0 [] λd=>cd #[31,31] d a λe=>yO [(e,none)])
def mI{x0 W r}(h:iF ba x0 W=some r):OG 122 #[] [x0] W r:=oM 8 h (by kernel_rfl)
def gj:cU:=λc S=>bQ (S 16) (S 15) λa=>let T:=q S 17 [a];gI a (bH 1 (S 14) (S 16) λb=>aB b λd=>nL d (I 1) λe=>gF e (dS d) λf=>gF e (bz (S 2)) λg=>gF e (sQ g) λh=>gF e (jp 5 h) λi=>gF e (bz i) λj=>gF e (zt6 j) λk=>gF e (zb4 f k) λl=>aT e (.bool true) l λm=>let U:=q (q (q (q T 18 [S 16,b,d]) 7 [S 16,d]) 22 [d,e,e,f,g,h,i,j,k,l,m]) 21 [m];gI m (aA 1 (S 4) (S 16) λn=>aA 1 (S 5) (I 4) λo=>yR (q U 33 [S 16])) (aB (S 6) λn=>gB (zb 115 n d false) λo=>let V:=q (q U 35 [n,d,o]) 34 [o];gI o (aA 1 (S 4) (S 16) λp=>aA 1 (S 5) (I 8) λr=>yR (q V 38 [S 16])) (aB (S 6) λp=>gB (uB 115 p d (.bool true)) λr=>bK (S 16) (I 1) λs=>yN (q (q V 39 [p,d,s]) 16 [s])))) (yE 0 T)
def jV:cU:=λc S=>aG 77 λa=>aA 25 a (S 44) λb=>yN (q S 9 [a])
def pC(call:Eng.Callee)(R:Nat->ad)(W:AW):ga Tryz.prog call false 68 (BF [1,1,1,0,1,0,0] (Fz 23)) LT R W nG=jV call R W:=by kernel_rfl
def j5:cU:=λc S=>aB (S 6) λa=>az 0 (S 9) λb=>aB b λd=>gB (zb 115 a d false) λe=>eJ .not e λf=>let T:=q S 45 [a,b,d,e,f];gI f (aB (S 3) λg=>gQ g λh=>aA 1 (S 4) h λi=>aA 1 (S 5) (I 10) λj=>yR (q T 50 [g,h])) (yN T)
def pz(call:Eng.Callee)(R:Nat->ad)(W:AW):ga Tryz.prog call false 68 (BF [1,1,1,0,1,0,1] (Fz 23)) LT R W nG=j5 call R W:=by kernel_rfl
def gy:cU:=λc S=>bQ (S 54) (S 53) λa=>gI a (bH 1 (S 52) (S 54) λb=>aB b λd=>aG 3 λe=>aA 1 e d λf=>gB (uj (.func 53) #[] #[S 2,e]) λg=>aB (S 3) λh=>bK (S 54) (I 1) λi=>gB (oZ 28 h (some i) none none) λj=>bV c 54 [j,g] λk=>let T:=q (q (q (q (q (q S 55 [a,S 54,b,d]) 11 [e]) 10 [S 54]) 59 [g]) 12 [g]) 60 [h,S 54,i,j,g,k];gI k (aA 1 (S 4) (S 54) λl=>aA 1 (S 5) (I 9) λm=>yR (q T 66 [S 54])) (bK (S 54) (I 1) λl=>yN (q (q T 67 [l]) 54 [l]))) (yE 5 (q S 55 [a]))
def iT:dE:=λc a b=>aX a λd=>aX b λe=>aG 3 λf=>aG 35 λg=>gB (Il 115 none) λh=>aG 115 λi=>aA 1 i h λj=>aB e λk=>gQ k λl=>gL (gj c) (q (q (q (q (cG 0 [a,b] ai.blank) 2 [d,e,f,g]) 13 [h]) 6 [i]) 14 [k,l,I 0]) λm S=>gX 0 m (aB (S 2) λn=>bV c 52 [n,vX 26] λo=>gB (ll c o (.loop .ready none (q S 42 [n,o]) 68 #[44] (BF [1,1,1,0,1,0,0] (Fz 23)) (BF [1,1,1,0,1,0,1] (Fz 23)))) λp=>gM p (aB (S 3) λr=>gQ r λs=>gL (gy c) (q (q S 42 [n,o]) 52 [r,s,I 0]) λt T=>gX 5 t (aA 1 (T 4) (I 0) λu=>aA 1 (T 5) (I 0) λv=>yO [(T 4,some 3),(T 5,some 35)]) (gR t (yO [(T 4,some 3),(T 5,some 35)]))) (gR p (yO [(S 4,some 3),(S 5,some 35)]))) (gR m (yO [(S 4,some 3),(S 5,some 35)]))
def sr{x0 x1 W r}(h:iT ba x0 x1 W=some r):OG 23 #[] [x0,x1] W r:=oM 68 h (by kernel_rfl)
def Gq:fI:=λc a=>aX a λb=>aG 34 λd=>aN 4 b λe=>bV c 55 [e] λf=>aq f 0 λg=>aq f 1 λh=>cy h (I 0) λi=>gI i (aY 34 [] λj=>aA 7 d j λk=>yO [(d,some 34),(h,none)]) (aN 4 b λj=>gB (sD 31 g g) λk=>az 3 b λl=>aB l λm=>gB (Lp m) λn=>gB (sD 32 n n) λo=>aY 34 [(0,j),(2,k),(3,o)] λp=>aA 7 d p λr=>yO [(d,some 34),(I 0,none)])
def OY{x0 W r}(h:Gq ba x0 W=some r):OG 24 #[] [x0] W r:=oM 23 h (by kernel_rfl)
def IU:dE:=λc a b=>aX a λd=>aX b λe=>aG 34 λf=>aG 50 λg=>aN 7 d λh=>bV c 56 [h] λi=>cy i (I 0) λj=>gI j (aN 7 d λk=>aY 50 [] λl=>aA 7 f k λm=>aA 9 g l λn=>yO [(f,some 34),(g,some 50),(i,none)]) (aN 7 d λk=>aN 12 e λl=>bV c 57 [k,l] λm=>aq m 0 λn=>aq m 1 λo=>aq m 2 λp=>aA 7 f n λr=>aA 9 g o λs=>yO [(f,some 34),(g,some 50),(p,none)])
def RP{x0 x1 W r}(h:IU ba x0 x1 W=some r):OG 25 #[] [x0,x1] W r:=oM 21 h (by kernel_rfl)
def tO:cU:=λc S=>bQ (S 5) (S 3) λa=>let T:=q S 36 [S 5,S 3,a];gI a (az 5 (S 1) λb=>aB b λd=>bH 5 d (S 5) λe=>aN 5 e λf=>bV c 63 [f] λg=>cy g (I 0) λh=>let U:=q T 41 [b,d,S 5,e,f,g,h];gI h (yR (q U 2 [I 6])) (bK (S 5) (I 1) λi=>yN (q (q U 39 [S 5,i]) 5 [i]))) (yE 0 T)
def kK:cU:=λc S=>mo (S 7) λa=>bQ (S 8) a λb=>let T:=q S 70 [S 8,S 7,a,b];gI b (bH 1 (S 7) (S 8) λd=>aB d λe=>bV c 64 [S 7,e] λf=>bQ f (S 8) λg=>let U:=q T 76 [S 7,S 7,S 8,d,e,f,S 8,g];gI g (yR (q U 2 [I 8])) (bK (S 8) (I 1) λh=>yN (q (q U 74 [S 8,h]) 8 [h]))) (yE 4 T)
def tH:cU:=λc S=>az 6 (S 1) λa=>aB a λb=>gB (H8 b) λd=>bQ (S 6) d λe=>let T:=q S 48 [S 6,a,b,d,e];gI e (az 6 (S 1) λf=>aB f λg=>bH 1 g (S 6) λh=>aB h λi=>mo i λj=>az 0 (S 1) λk=>az 3 k λl=>aB l λm=>bH 3 m (S 6) λn=>az 2 n λo=>aB o λp=>gB (zb4 j p) λr=>let U:=q (q (q T 55 [f,g,S 6,h,i]) 7 [i]) 60 [i,j,k,l,m,S 6,n,o,p,r];gI r (yR (q U 2 [I 3])) (gL (kK c) (q U 8 [I 0]) λs V=>gX 4 s (bK (V 6) (I 1) λt=>yN (q (q V 53 [V 6,t]) 6 [t])) (gR s (yR V)))) (yE 2 T)
def G1:fI:=λc a=>aX a λb=>az 0 b λd=>aN 4 d λe=>bV c 30 [e] λf=>aq f 0 λg=>aq f 1 λh=>cy h (I 0) λi=>gI i (yO [(h,none)]) (az 4 b λj=>aB j λk=>gB (Ms k (I 0)) λl=>gI l (yO [(I 7,none)]) (az 5 b λm=>aB m λn=>gB (EH n) λo=>gB (Ln o g) λp=>gF p (jp 6 b) λr=>gF p (bz r) λs=>gF p (H8 s) λt=>gF p (jp 0 b) λu=>gF p (jp 3 u) λv=>gF p (bz v) λw=>gF p (Lp w) λx=>gF p (Ln t x) λy=>aT p (.bool true) y λz=>gI z (yO [(I 6,none)]) (gL (tO c) (q (q (q (q (q (q (q (q (cG 0 [a] ai.blank) 1 [b,I 0]) 10 [d,e,f]) 9 [f]) 13 [g,h]) 3 [g,h]) 15 [h,i]) 18 [j,k,l,m,n,o,g,p,p,r,s,t,u,v,w,x,y,z]) 5 [I 0]) λA S=>gX 0 A (gL (tH c) (q S 6 [I 0]) λB T=>gX 2 B (yO [(I 0,none)]) (gR B (yO [(T 2,none)]))) (gR A (yO [(S 2,none)])))))
def K9{x0 W r}(h:G1 ba x0 W=some r):OG 31 #[] [x0] W r:=oM 84 h (by kernel_rfl)
def lE:Mn:=λc a b d e f=>gI f (nL e (I 0) λg=>gF g (dS e) λh=>gF g (jp 0 a) λi=>gF g (jp 3 i) λj=>gF g (bz j) λk=>gF g (Lp k) λl=>gF g (Jn h l) λm=>aT g (.bool true) m λn=>gI n (yO [(I 4,none)]) (az 0 b λo=>aB o λp=>bY p (I 3) λr=>gT r (jp 5 b) λs=>gT r (bz s) λt=>gT r (zb1 t (I 1)) λu=>gT r (dS u) λv=>gF v (jp 5 b) λw=>gF v (bz w) λx=>gF v (zb2 x (I 8)) λy=>gT r (kH v (.bool true) y) λz=>aT r z (.bool false) λA=>gI A (yO [(I 7,none)]) (yO [(I 0,none)]))) (nL d (I 0) λg=>gF g (dS d) λh=>gF g (jp 5 a) λi=>gF g (bz i) λj=>gF g (EH j) λk=>gF g (Jn h k) λl=>aT g (.bool true) l λm=>gI m (yO [(I 4,none)]) (yO [(I 0,none)]))
def lh:alO:=λc a b d e f g=>gI g (yO [(I 0,none)]) (bY f (I 3) λh=>gI h (lE c a b d e h) (bY f (I 10) λi=>gI i (lE c a b d e i) (bY f (I 11) λj=>lE c a b d e j)))
def GX:dE:=λc a b=>aX a λd=>aX b λe=>az 0 e λf=>aB f λg=>bV c 65 [g] λh=>gT h (jp 2 e) λi=>gT h (bz i) λj=>gT h (jp 4 d) λk=>gT h (bz k) λl=>gT h (Zr j l) λm=>aT h m (.bool false) λn=>gI n (yO [(I 13,none)]) (az 0 e λo=>aB o λp=>bY p (I 8) λr=>gT r (jp 1 e) λs=>gT r (bz s) λt=>gT r (ags t (.int .u32 0)) λu=>aT r u (.bool false) λv=>gF v (jp 0 e) λw=>gF v (bz w) λx=>gF v (zb7 x (I 6)) λy=>gF v (dS y) λz=>gF z (jp 0 e) λA=>gF z (bz A) λB=>gF z (zb7 B (I 7)) λC=>gF v (kH z (.bool true) C) λD=>gF v (dS D) λE=>gT E (jp 7 e) λF=>gT E (jp 1 F) λG=>gT E (bz G) λH=>gT E (jp 1 e) λJ=>gT E (bz J) λK=>gT E (Ub H K) λL=>gF v (kH E L (.bool false)) λM=>aT v (.bool true) M λN=>gI N (yO [(I 14,none)]) (aN 12 e λO=>bV c 66 [O] λP=>aq P 0 λQ=>aq P 1 λa0=>aq P 2 λb0=>az 0 e λd0=>aB d0 λe0=>bY e0 (I 1) λf0=>gI f0 (lh c d e Q a0 e0 f0) (bY e0 (I 12) λg0=>lh c d e Q a0 e0 g0)))
def KQ{x0 x1 W r}(h:GX ba x0 x1 W=some r):OG 33 #[] [x0,x1] W r:=oM 91 h (by kernel_rfl)
def qo:cU:=λc S=>az 6 (S 1) λa=>aB a λb=>gB (H8 b) λd=>bQ (S 4) d λe=>let T:=q S 10 [S 4,a,b,d,e];gI e (bu 88 0 [] λf=>az 6 (S 1) λg=>aB g λh=>bH 1 h (S 4) λi=>aB i λj=>cd #[88,88] f j λk=>bu 32 1 [(0,k)] λl=>cd #[32,32] (S 3) l λm=>bK (S 4) (I 1) λn=>yN (q (q (q (q T 17 [S 3,f,g,h,S 4,i,j,k,l,m]) 3 [m]) 15 [S 4,n]) 4 [n])) (yE 0 T)
def CN:fI:=λc a=>aX a λb=>aG 34 λd=>bu 31 0 [] λe=>az 5 b λf=>aB f λg=>cd #[31,31] e g λh=>az 5 b λi=>aA 1 i h λj=>gL (qo c) (q (q (q (cG 0 [a] ai.blank) 1 [b,d]) 5 [e,f,g,h,i]) 3 [.slice none 0 0,I 0]) λk S=>gX 0 k (az 6 (S 1) λl=>aA 1 l (S 3) λm=>aN 7 (S 1) λn=>aA 7 (S 2) n λo=>yO [(S 2,some 34)]) yZ
def LY{x0 W r}(h:CN ba x0 W=some r):OG 34 #[] [x0] W r:=oM 30 h (by kernel_rfl)
def GH:dE:=λc a b=>aX a λd=>az 4 d λe=>aB e λf=>bV c 67 [f,b] λg=>aq g 0 λh=>aq g 1 λi=>yO [(h,none)]
def Jq{x0 x1 W r}(h:GH ba x0 x1 W=some r):OG 35 #[] [x0,x1] W r:=oM 15 h (by kernel_rfl)
def qu:cU:=λc S=>az 5 (S 2) λa=>aB a λb=>gB (EH b) λd=>bQ (S 6) d λe=>let T:=q S 14 [S 6,a,b,d,e];gI e (az 5 (S 2) λf=>aB f λg=>bH 5 g (S 6) λh=>az 2 h λi=>aB i λj=>bV c 68 [j,S 1] λk=>aq k 0 λl=>aq k 1 λm=>az 5 (S 2) λn=>aB n λo=>bH 5 o (S 6) λp=>az 0 p λr=>aB r λs=>bY s (I 1) λt=>gT t (dS l) λu=>aT t u (.bool false) λv=>let U:=q (q (q (q (q T 22 [f,g,S 6,h,i,j,S 1,k]) 21 [k]) 30 [l,m]) 7 [l,m]) 32 [n,o,S 6,p,r,s,t,t,u,v];gI v (bu 28 1 [(0,S 6)] λw=>cd #[28,28] (S 5) w λx=>bK (S 6) (I 1) λy=>yN (q (q (q (q U 42 [S 5,S 6,w,x]) 5 [x]) 19 [S 6,y]) 6 [y])) (bK (S 6) (I 1) λw=>yN (q (q U 19 [S 6,w]) 6 [w]))) (yE 0 T)
def lN:cU:=λc S=>gQ (S 5) λa=>bQ (S 10) a λb=>let T:=q S 49 [S 10,S 5,a,b];gI b (az 5 (S 2) λd=>aB d λe=>bH 1 (S 5) (S 10) λf=>aB f λg=>bH 5 e g λh=>az 2 h λi=>aB i λj=>az 5 (S 2) λk=>aB k λl=>bH 1 (S 5) (S 9) λm=>aB m λn=>bH 5 l n λo=>az 2 o λp=>aB p λr=>gB (Zb j r) λs=>let U:=q T 55 [d,e,S 5,S 10,f,g,h,i,j,k,l,S 5,S 9,m,n,o,p,r,s];gI s (bK (S 10) (I 1) λt=>yN (q (q (q (q U 74 [S 10]) 9 [S 10]) 53 [S 10,t]) 10 [t])) (bK (S 10) (I 1) λt=>yN (q (q U 53 [S 10,t]) 10 [t]))) (yE 4 T)
def qt:cU:=λc S=>gQ (S 5) λa=>qI a (I 0) λb=>let T:=q S 46 [S 5,a,b];gI b (gL (lN c) (q T 9 [I 0,I 0]) λd U=>gX 4 d (bH 1 (U 5) (U 9) λe=>aB e λf=>bu 28 0 [] λg=>gB (oZ 28 (U 5) none (some (U 9)) none) λh=>bK (U 9) (I 1) λi=>gB (oZ 28 (U 5) (some i) none none) λj=>cd #[28,28] g h λk=>cd #[28,28] k j λl=>az 5 (U 2) λm=>aB m λn=>az 5 (U 2) λo=>aB o λp=>bH 5 p f λr=>aN 5 r λs=>bV c 69 [s,U 1] λt=>gA (λW=>kA true (bz m W) n&&true) (aq t 0 λu=>aq t 1 λv=>bH 5 n f λw=>aA 5 w u λx=>aN 7 (U 2) λy=>bV c 70 [y,f] λz=>aA 7 (U 2) z λA=>yN (q (q (q (q (q (q (q (q (q (q U 75 [U 5,U 9,e,f]) 11 [f]) 79 [g,U 5,U 9,h]) 84 [U 5,U 9,i,j]) 83 [k]) 88 [l]) 5 [l]) 90 [m,n,f,o,p,f,r,s,U 1,t]) 89 [t]) 100 [u,v,w,y,f,z]))) yZ) (yE 2 T)
def Cj:dE:=λc a b=>aX a λd=>aG 34 λe=>az 4 d λf=>aA 1 f b λg=>gL (qu c) (q (q (q (q (cG 0 [a,b] ai.blank) 2 [d]) 4 [e]) 12 [b,f]) 5 [.slice none 0 0,I 0]) λh S=>gX 0 h (gL (qt c) S λi T=>gX 2 i (aN 7 (T 2) λj=>aA 7 (T 4) j λk=>yO [(T 4,some 34)]) yZ) yZ
def L3{x0 x1 W r}(h:Cj ba x0 x1 W=some r):OG 36 #[] [x0,x1] W r:=oM 107 h (by kernel_rfl)
def oI:cU:=λc S=>az 5 (S 2) λa=>aB a λb=>gB (EH b) λd=>bQ (S 7) d λe=>let T:=q S 12 [S 7,a,b,d,e];gI e (az 5 (S 2) λf=>aB f λg=>bH 5 g (S 7) λh=>az 0 h λi=>aB i λj=>bY j (I 0) λk=>bu 135 1 [(0,k)] λl=>cd #[135,135] (S 6) l λm=>bK (S 7) (I 1) λn=>yN (q (q (q (q T 19 [S 6,f,g,S 7,h,i,j,k,l,m]) 6 [m]) 17 [S 7,n]) 7 [n])) (yE 0 T)
def po:cU:=λc S=>az 5 (S 3) λa=>aB a λb=>dP (S 8) b λd=>bQ (S 11) d λe=>let T:=q S 51 [S 11,S 8,a,b,d,e];gI e (az 5 (S 2) λf=>aB f λg=>az 5 (S 2) λh=>aB h λi=>bH 5 i (S 11) λj=>aN 5 j λk=>az 1 (S 3) λl=>aB l λm=>bV c 72 [k,m,S 10] λn=>gA (λW=>kA true (bz f W) g&&true) (aq n 0 λo=>aq n 1 λp=>bH 5 g (S 11) λr=>aA 5 r o λs=>bK (S 11) (I 1) λt=>yN (q (q (q (q (q T 60 [f,g,S 11,h,i,S 11,j,k,l,m,S 10,n]) 59 [n]) 72 [o,p,r]) 57 [S 11,t]) 11 [t]))) (yE 2 T)
def zD:dE:=λc a b=>aX a λd=>aX b λe=>aG 34 λf=>aG 50 λg=>gL (oI c) (q (cG 0 [a,b] ai.blank) 2 [d,e,f,g,.slice none 0 0,I 0]) λh S=>gX 0 h (az 0 (S 2) λi=>aN 4 i λj=>az 4 (S 3) λk=>aB k λl=>az 5 (S 3) λm=>aB m λn=>bV c 71 [j,S 6,l,n] λo=>aq o 0 λp=>aq o 1 λr=>cy r (I 0) λs=>gI s (aN 7 (S 2) λt=>aY 50 [(0,r)] λu=>aA 7 (S 4) t λv=>aA 9 (S 5) u λw=>yO [(S 4,some 34),(S 5,some 50)]) (aN 7 (S 2) λt=>az 0 (S 2) λu=>az 1 u λv=>aB v λw=>bV c 35 [t,w] λx=>gL (po c) (q (q (q (q (q (q (q (q (q S 30 [i,j,S 6,k,l,m,n,o]) 29 [o]) 38 [p,r]) 8 [p,r]) 40 [r,s]) 45 [t,u,v,w,x]) 10 [x]) 50 [p]) 11 [p]) λy T=>gX 2 y (aN 7 (T 2) λz=>az 5 (T 3) λA=>aB A λB=>aY 50 [(1,T 8),(2,B),(3,T 10)] λC=>aA 7 (T 4) z λD=>gA (λW=>kA true (bz A W) B&&true) (aA 9 (T 5) C λE=>yO [(T 4,some 34),(T 5,some 50)])) yZ)) yZ
def K3{x0 x1 W r}(h:zD ba x0 x1 W=some r):OG 37 #[] [x0,x1] W r:=oM 81 h (by kernel_rfl)
def zX:dE:=λc a b=>aX a λd=>aX b λe=>aG 34 λf=>aG 50 λg=>az 6 d λh=>aB h λi=>az 4 e λj=>aB j λk=>bH 1 i k λl=>aB l λm=>az 1 e λn=>aB n λo=>bV c 64 [m,o] λp=>az 0 e λr=>aB r λs=>bY s (I 11) λt=>gI t (nL p (I 0) λu=>gI u (aN 7 d λv=>aY 50 [(0,I 4)] λw=>aA 7 f v λx=>aA 9 g w λy=>yO [(f,some 34),(g,some 50)]) (az 6 d λv=>aB v λw=>az 4 e λx=>aB x λy=>bu 88 0 [] λz=>gB (oZ 88 m none (some p) none) λA=>bK p (I 1) λB=>gB (oZ 88 m (some B) none none) λC=>cd #[88,88] z A λD=>gA (λW=>kA true (bz x W) y&&(kA true (bz v W) w&&true)) (cd #[88,88] D C λE=>gA (λW=>kA true (bz x W) y&&(kA true (bz v W) w&&true)) (bH 1 w y λF=>aA 1 F E λG=>aN 7 d λH=>aY 50 [] λJ=>aA 7 f H λK=>aA 9 g J λL=>yO [(f,some 34),(g,some 50)])))) (mo m λu=>az 0 d λv=>az 3 v λw=>aB w λx=>az 4 e λy=>aB y λz=>bH 3 x z λA=>az 2 A λB=>aB B λC=>gB (Jn u C) λD=>gI D (aN 7 d λE=>aY 50 [(0,I 5)] λF=>aA 7 f E λG=>aA 9 g F λH=>yO [(f,some 34),(g,some 50)]) (gB (O9 p (I 0)) λE=>gI E (aN 7 d λF=>aY 50 [(0,I 8)] λG=>aA 7 f F λH=>aA 9 g G λJ=>yO [(f,some 34),(g,some 50)]) (az 6 d λF=>aB F λG=>az 4 e λH=>aB H λJ=>bu 88 0 [] λK=>az 1 e λL=>aB L λM=>bu 88 1 [(0,M)] λN=>cd #[88,88] K m λO=>gA (λW=>kA true (bz L W) M&&(kA true (bz H W) J&&(kA true (bz F W) G&&true))) (cd #[88,88] O N λP=>gA (λW=>kA true (bz H W) J&&(kA true (bz F W) G&&true)) (bH 1 G J λQ=>aA 1 Q P λa0=>aN 7 d λb0=>mo m λd0=>bK d0 (I 1) λe0=>aY 50 [(5,e0)] λf0=>aA 7 f b0 λg0=>aA 9 g f0 λh0=>yO [(f,some 34),(g,some 50)])))))
def JG{x0 x1 W r}(h:zX ba x0 x1 W=some r):OG 38 #[] [x0,x1] W r:=oM 76 h (by kernel_rfl)
def fK:EZ:=λc a b d e=>aN 7 a λf=>aN 9 e λg=>aA 7 b f λh=>gA (λW=>kA true (dJ 9 e W) g&&true) (aA 9 d g λi=>yO [(b,some 34),(d,some 50)])
def qr:aoC:=λc a b d e f g h i=>gI i (aN 5 f λj=>fe 3 43 e λk=>bV c 79 [j,k] λl=>aq l 0 λm=>aq l 1 λn=>az 4 g λo=>aA 4 o m λp=>fK c a b d g) (bY h (I 4) λj=>gI j (gI j (aN 7 a λk=>bV c 70 [k,e] λl=>aA 7 a l λm=>fK c a b d g) (fK c a b d g)) (bY h (I 7) λk=>gI k (gI k (aN 7 a λl=>bV c 70 [l,e] λm=>aA 7 a m λn=>fK c a b d g) (fK c a b d g)) (bY h (I 8) λl=>gI l (aN 7 a λm=>bV c 70 [m,e] λn=>aA 7 a n λo=>fK c a b d g) (fK c a b d g))))
def fF:aoC:=λc a b d e f g h i=>cy h (I 0) λj=>gI j (aN 7 a λk=>aY 50 [(0,h)] λl=>aA 7 d k λm=>aA 9 e l λn=>yO [(d,some 34),(e,some 50)]) (az 5 a λk=>aB k λl=>aN 5 g λm=>bH 5 l f λn=>aA 5 n m λo=>az 0 b λp=>aB p λr=>bY r (I 5) λs=>gI s (qr c a d e f g i r s) (bY r (I 6) λt=>qr c a d e f g i r t))
def Cy:dE:=λc a b=>aX a λd=>aX b λe=>aG 34 λf=>aG 50 λg=>aN 12 e λh=>bV c 66 [h] λi=>aq i 0 λj=>aq i 1 λk=>aq i 2 λl=>az 5 d λm=>aB m λn=>bH 5 n j λo=>aN 5 o λp=>aG 87 λr=>aA 5 r p λs=>aG 50 λt=>az 0 e λu=>aB u λv=>bY v (I 2) λw=>gI w (aN 7 d λx=>az 0 d λy=>az 1 y λz=>aB z λA=>bV c 35 [x,A] λB=>az 3 t λC=>aA 1 C B λD=>aN 5 r λE=>az 1 e λF=>aB F λG=>az 3 t λH=>aB H λJ=>bV c 72 [E,G,J] λK=>aq K 0 λL=>aq K 1 λM=>aA 5 r L λN=>fF c d e f g j r M t) (bY v (I 4) λx=>gI x (aN 5 r λy=>az 1 e λz=>aB z λA=>bV c 73 [y,A] λB=>aq B 0 λC=>aq B 1 λD=>aA 5 r C λE=>fF c d e f g j r D t) (bY v (I 5) λy=>gI y (aN 5 r λz=>az 1 e λA=>aB A λB=>bV c 74 [z,B] λC=>aq C 0 λD=>aq C 1 λE=>aA 5 r D λF=>fF c d e f g j r E t) (bY v (I 6) λz=>gI z (aN 5 r λA=>az 7 e λB=>aN 4 B λC=>az 6 e λD=>aB D λE=>bV c 75 [A,C,E] λF=>aq F 0 λG=>aq F 1 λH=>aA 5 r G λJ=>fF c d e f g j r H t) (bY v (I 7) λA=>gI A (aN 5 r λB=>az 7 e λC=>aN 4 C λD=>bV c 76 [B,D] λE=>aq E 0 λF=>aq E 1 λG=>aA 5 r F λH=>fF c d e f g j r G t) (bY v (I 8) λB=>gI B (aN 5 r λC=>bV c 77 [C] λD=>aq D 0 λE=>aq D 1 λF=>aA 5 r E λG=>fF c d e f g j r F t) (aN 5 r λC=>az 7 e λD=>aN 4 D λE=>bV c 78 [C,E] λF=>fF c d e f g j r F t))))))
def LP{x0 x1 W r}(h:Cy ba x0 x1 W=some r):OG 39 #[] [x0,x1] W r:=oM 123 h (by kernel_rfl)
def dB:cU:=λc S=>bQ (S 8) (S 7) λa=>gI a (bH 5 (S 0) (S 8) λb=>aN 5 b λd=>gB (c (S 1) [d]) λe=>let T:=q (q (q S 9 [a,S 8]) 5 [S 8]) 11 [S 1,S 0,S 8,b,d,e];gI e (yR (q (q T 17 [S 8]) 4 [S 8])) (bK (S 8) (I 1) λf=>yN (q (q T 18 [f]) 8 [f]))) (yE 0 (q S 9 [a]))
def gg:dE:=λc a b=>gB (EH a) λd=>gL (dB c) (q (q (cG 0 [a,b] ai.blank) 4 [I 0]) 6 [a,d,I 0]) λe S=>gX 0 e (yO [(I (-1),none)]) (gR e (yO [(S 4,none)]))
def kQ{x0 x1 W r}(h:gg ba x0 x1 W=some r):OG 121 #[] [x0,x1] W r:=oM 19 h (by kernel_rfl)
def kY:pD:=λc a b d=>aB b λe=>aD e λf=>az 5 f λg=>aB g λh=>kw a (I 1) λi=>bH 25 h i λj=>aN 25 j λk=>aB b λl=>aD l λm=>az 5 m λn=>aB n λo=>aB d λp=>kw p (I 1) λr=>bH 25 o r λs=>aN 25 s λt=>bV c 42 [k,t] λu=>yO [(u,none)]
def rj{x0 x1 x2 W r}(h:kY ba x0 x1 x2 W=some r):OG 53 #[x1,x2] [x0] W r:=oM 22 h (by kernel_rfl)
def kM:cU:=λc S=>bQ (S 66) (S 65) λa=>gI a (bH 1 (S 64) (S 66) λb=>aB b λd=>gB (zb 166 (S 7) d false) λe=>let T:=q (q (q S 67 [a,b,d]) 9 [d]) 70 [S 7,d,e];gI e (yR (q T 2 [I 8])) (gB (uB 166 (S 7) d (.bool true)) λf=>bK (S 66) (I 1) λg=>yN (q (q T 73 [S 7,d,g]) 66 [g]))) (yE 3 (q S 67 [a]))
def ti:cU:=λc S=>bQ (S 48) (S 47) λa=>gI a (bH 1 (S 46) (S 48) λb=>aB b λd=>mo d λe=>az 0 (S 1) λf=>az 3 f λg=>aB g λh=>bH 3 h (S 48) λi=>az 2 i λj=>aB j λk=>gB (zb4 e k) λl=>let T:=q (q (q S 49 [a,S 48,b,d]) 5 [S 48,d]) 53 [d,e,f,g,h,S 48,i,j,k,l];gI l (yR (q T 2 [I 3])) (gB (Il 166 none) λm=>mo d λn=>gL (kM c) (q (q (q T 63 [m]) 7 [m]) 64 [d,n,I 0]) λo U=>gX 3 o (bK (U 48) (I 1) λp=>yN (q (q U 76 [p]) 48 [p])) (gR o (yR U)))) (yE 1 (q S 49 [a]))
def Gw:fI:=λc a=>aX a λb=>az 0 b λd=>aN 4 d λe=>bV c 55 [e] λf=>aq f 0 λg=>aq f 1 λh=>cy h (I 0) λi=>gI i (yO [(h,none)]) (az 4 b λj=>aB j λk=>gB (Ms k (I 0)) λl=>gI l (yO [(I 7,none)]) (az 5 b λm=>aB m λn=>gB (EH n) λo=>gB (Ln o g) λp=>gF p (jp 6 b) λr=>gF p (bz r) λs=>gF p (H8 s) λt=>gF p (jp 0 b) λu=>gF p (jp 3 u) λv=>gF p (bz v) λw=>gF p (Lp w) λx=>gF p (Ln t x) λy=>aT p (.bool true) y λz=>gF z (jp 5 b) λA=>gF z (bz A) λB=>gF z (zc c 95 [B,vX 96]) λC=>aT z (.bool true) C λD=>gI D (yO [(I 6,none)]) (az 6 b λE=>aB E λF=>gB (H8 F) λG=>gL (ti c) (q (q (q (q (q (q (q (q (q (q (q (q (cG 0 [a] ai.blank) 1 [b,I 0]) 11 [d,e,f]) 10 [f]) 14 [g,h]) 3 [g,h]) 17 [h,i]) 16 [i]) 21 [j,k,l]) 20 [l]) 25 [m,n,o,g,p,p,r,s,t,u,v,w,x,y,z,z,A,B,C,D]) 24 [D]) 45 [E,F,G,I 0]) λH S=>gX 1 H (yO [(I 0,none)]) (gR H (yO [(S 2,none)])))))
def Lf{x0 W r}(h:Gw ba x0 W=some r):OG 56 #[] [x0] W r:=oM 77 h (by kernel_rfl)
def Ki:dE:=λc a b=>aX a λd=>aX b λe=>aG 34 λf=>aG 50 λg=>aN 12 e λh=>bV c 98 [h] λi=>aq i 0 λj=>aq i 1 λk=>aq i 2 λl=>cy l (I 0) λm=>gI m (aN 7 d λn=>aY 50 [] λo=>aA 7 f n λp=>aA 9 g o λr=>yO [(f,some 34),(g,some 50),(l,none)]) (aN 7 d λn=>aN 12 e λo=>bV c 99 [n,o,j,k] λp=>cy p (I 0) λr=>gI r (aN 7 d λs=>aY 50 [(0,p)] λt=>aA 7 f s λu=>aA 9 g t λv=>yO [(f,some 34),(g,some 50),(I 0,none)]) (aN 7 d λs=>aN 12 e λt=>bV c 100 [s] λu=>gA (λW=>kA true (dJ 12 e W) t&&true) (aY 170 [(0,u),(1,t),(2,j)] λv=>aX v λw=>az 0 e λx=>aB x λy=>aG 50 λz=>bV c 101 [] λA=>gA (λW=>kA true (bz x W) y&&true) (gB (kL 172 A y) λB=>gB (c B [w]) λC=>aA 9 z C λD=>az 0 z λE=>aB E λF=>cy F (I 0) λG=>gI G (aN 7 d λH=>aN 9 z λJ=>aA 7 f H λK=>gA (λW=>kA true (dJ 9 z W) J&&true) (aA 9 g J λL=>yO [(f,some 34),(g,some 50),(I 0,none)])) (aD w λH=>az 0 H λJ=>aN 7 J λK=>aN 9 z λL=>aA 7 f K λM=>gA (λW=>kA true (dJ 9 z W) L&&true) (aA 9 g L λN=>yO [(f,some 34),(g,some 50),(I 0,none)]))))))
def SQ{x0 x1 W r}(h:Ki ba x0 x1 W=some r):OG 57 #[] [x0,x1] W r:=oM 56 h (by kernel_rfl)
def tr:cU:=λc S=>mo (S 0) λa=>bQ (S 5) a λb=>let T:=q S 6 [S 5,S 0,a,b];gI b (bH 1 (S 0) (S 5) λd=>aB d λe=>gB (amI e (S 1)) λf=>let U:=q T 12 [S 0,S 5,d,e,S 1,f];gI f (yR (q (q U 18 [S 5]) 4 [S 5])) (bK (S 5) (I 1) λg=>yN (q (q U 10 [S 5,g]) 5 [g]))) (yE 0 T)
def G7:dE:=λc a b=>gL (tr c) (q (cG 0 [a,b] ai.blank) 4 [I 0,I 0]) λd S=>gX 0 d (yO [(I (-1),none)]) (gR d (yO [(S 4,none)]))
def Js{x0 x1 W r}(h:G7 ba x0 x1 W=some r):OG 64 #[] [x0,x1] W r:=oM 19 h (by kernel_rfl)
def B6:fI:=λc a=>gB (Vf a (I 1)) λb=>gT b (dS a) λd=>gT b (Vf d (I 9)) λe=>aT b e (.bool false) λf=>gT f (dS a) λg=>gT f (Vf g (I 12)) λh=>aT f h (.bool false) λi=>yO [(i,none)]
def Fb{x0 W r}(h:B6 ba x0 W=some r):OG 65 #[] [x0] W r:=oM 13 h (by kernel_rfl)
def MA:dE:=λc a b=>bV c 104 [a,b] λd=>cy d (I 0) λe=>gI e (yO [(I 0,none),(d,none)]) (gB (ao1 (I 9223372036854775807) b) λf=>gB (ahq a f) λg=>gI g (yO [(I 9223372036854775807,none),(I 0,none)]) (gB (aqC a b) λh=>yO [(h,none),(I 0,none)]))
def OD{x0 x1 W r}(h:MA ba x0 x1 W=some r):OG 67 #[] [x0,x1] W r:=oM 20 h (by kernel_rfl)
def vQ:dE:=λc a b=>aX a λd=>aG 34 λe=>az 0 d λf=>aN 4 f λg=>bV c 107 [g,b] λh=>aq h 0 λi=>aq h 1 λj=>aG 177 λk=>aA 3 k i λl=>az 6 d λm=>aB m λn=>az 0 k λo=>aB o λp=>bH 1 n p λr=>aB r λs=>mo s λt=>bY t (I 0) λu=>gI u (aN 7 d λv=>aA 7 e v λw=>yO [(e,some 34)]) (az 5 d λv=>aB v λw=>az 5 d λx=>aB x λy=>bH 5 y b λz=>aN 5 z λA=>bH 1 s (I 0) λB=>aB B λC=>aN 7 d λD=>az 0 d λE=>az 1 E λF=>aB F λG=>bV c 35 [D,G] λH=>gA (λW=>kA true (bz B W) C&&(kA true (dJ 5 z W) A&&(kA true (bz x W) y&&(kA true (bz v W) w&&true)))) (bV c 72 [A,C,H] λJ=>gA (λW=>kA true (bz v W) w&&true) (aq J 0 λK=>aq J 1 λL=>bH 5 w b λM=>aA 5 M K λN=>az 6 d λO=>aB O λP=>az 0 k λQ=>aB Q λa0=>bu 88 0 [] λb0=>gB (oZ 88 s (some (I 1)) none none) λd0=>cd #[88,88] b0 d0 λe0=>gA (λW=>kA true (bz Q W) a0&&(kA true (bz O W) P&&true)) (bH 1 P a0 λf0=>aA 1 f0 e0 λg0=>aN 7 d λh0=>aA 7 e h0 λi0=>yO [(e,some 34)]))))
def Ge{x0 x1 W r}(h:vQ ba x0 x1 W=some r):OG 70 #[] [x0,x1] W r:=oM 56 h (by kernel_rfl)
def Lj:EZ:=λc a b d e=>aX a λf=>aN 4 f λg=>bV c 108 [g,b,d,e] λh=>aq h 0 λi=>aq h 1 λj=>cy j (I 0) λk=>gI k (yO [(I 0,none),(j,none)]) (aN 4 f λl=>bV c 109 [l,b,d,e] λm=>nL m (I 0) λn=>gI n (yO [(I 0,none),(I 15,none)]) (yO [(m,none),(I 0,none)]))
def LC{x0 x1 x2 x3 W r}(h:Lj ba x0 x1 x2 x3 W=some r):OG 71 #[] [x0,x1,x2,x3] W r:=oM 32 h (by kernel_rfl)
def vL:Mn:=λc a b d e f=>cy f (I 0) λg=>gI g (aN 5 d λh=>aA 5 e h λi=>yO [(e,some 87),(f,none)]) (az 0 d λh=>aA 1 h (I 1) λi=>az 1 d λj=>aA 1 j a λk=>az 2 d λl=>aA 1 l b λm=>aN 5 d λn=>aA 5 e n λo=>yO [(e,some 87),(I 0,none)])
def vH:Mn:=λc a b d e f=>lZ f (I 0) λg=>gI g (aN 5 d λh=>bV c 105 [h,I 0] λi=>vL c a b d e i) (vL c a b d e f)
def KO:pD:=λc a b d=>aX a λe=>aG 87 λf=>aN 5 e λg=>bV c 63 [g] λh=>lZ h (I 0) λi=>gT i (dS d) λj=>gT i (Ms j (I 0)) λk=>aT i k (.bool false) λl=>gI l (vH c b d e f (I 7)) (vH c b d e f h)
def Lw{x0 x1 x2 W r}(h:KO ba x0 x1 x2 W=some r):OG 72 #[] [x0,x1,x2] W r:=oM 31 h (by kernel_rfl)
def oY:EZ:=λc a b d e=>cy e (I 0) λf=>gI f (aN 5 b λg=>aA 5 d g λh=>yO [(d,some 87),(e,none)]) (az 3 b λg=>aB g λh=>gB (TQ h (.int .u64 1)) λi=>az 1 b λj=>aA 1 j a λk=>az 3 b λl=>aA 1 l i λm=>aN 5 b λn=>aA 5 d n λo=>yO [(d,some 87),(I 0,none)])
def Ab:pD:=λc a b d=>aX a λe=>aX b λf=>aG 87 λg=>aN 5 e λh=>aN 4 f λi=>bV c 78 [h,i] λj=>lZ j (I 0) λk=>gT k (jp 3 e) λl=>gT k (bz l) λm=>gT k (Up m (.int .u64 18446744073709551615)) λn=>aT k n (.bool false) λo=>gI o (oY c d e g (I 17)) (oY c d e g j)
def Ew{x0 x1 x2 W r}(h:Ab ba x0 x1 x2 W=some r):OG 75 #[] [x0,x1,x2] W r:=oM 30 h (by kernel_rfl)
def Dw:dE:=λc a b=>aX a λd=>aX b λe=>aG 87 λf=>aN 5 d λg=>aN 4 e λh=>bV c 78 [g,h] λi=>cy i (I 0) λj=>gI j (aN 5 d λk=>aA 5 f k λl=>yO [(f,some 87),(i,none)]) (aN 5 d λk=>bV c 106 [k] λl=>aA 5 f l λm=>yO [(f,some 87),(I 0,none)])
def HG{x0 x1 W r}(h:Dw ba x0 x1 W=some r):OG 76 #[] [x0,x1] W r:=oM 16 h (by kernel_rfl)
def rA:pD:=λc a b d=>cy d (I 0) λe=>gI e (aN 5 a λf=>aA 5 b f λg=>yO [(b,some 87),(d,none)]) (aN 5 a λf=>bV c 106 [f] λg=>aA 5 a g λh=>az 4 a λi=>aB i λj=>gB (TQ j (.int .u64 1)) λk=>az 4 a λl=>aA 1 l k λm=>aN 5 a λn=>aA 5 b n λo=>yO [(b,some 87),(I 0,none)])
def Ey:fI:=λc a=>aX a λb=>aG 87 λd=>aN 5 b λe=>bV c 105 [e,I 2] λf=>lZ f (I 0) λg=>gT g (jp 4 b) λh=>gT g (bz h) λi=>gT g (Up i (.int .u64 18446744073709551615)) λj=>aT g j (.bool false) λk=>gI k (rA c b d (I 17)) (rA c b d f)
def HL{x0 W r}(h:Ey ba x0 W=some r):OG 77 #[] [x0] W r:=oM 25 h (by kernel_rfl)
def Hf:dE:=λc a b=>aX a λd=>aX b λe=>aN 5 d λf=>bV c 105 [f,I 2] λg=>lZ g (I 0) λh=>gT h (jp 1 e) λi=>gT h (bz i) λj=>gT h (jp 1 d) λk=>gT h (bz k) λl=>gT h (Ub j l) λm=>gT h (dS m) λn=>gF n (jp 2 e) λo=>gF n (bz o) λp=>gF n (jp 3 d) λr=>gF n (bz r) λs=>gF n (ajJ p s) λt=>gT h (kH n (.bool true) t) λu=>gT h (dS u) λv=>gF v (jp 3 e) λw=>gF v (bz w) λx=>gF v (jp 4 d) λy=>gF v (bz y) λz=>gF v (ajJ x z) λA=>gT h (kH v (.bool true) A) λB=>aT h B (.bool false) λC=>gI C (yO [(I 16,none)]) (yO [(g,none)])
def KD{x0 x1 W r}(h:Hf ba x0 x1 W=some r):OG 78 #[] [x0,x1] W r:=oM 32 h (by kernel_rfl)
def Dn:dE:=λc a b=>aX a λd=>aG 46 λe=>aN 5 d λf=>bV c 105 [f,I 2] λg=>cy g (I 0) λh=>gI h (aY 46 [] λi=>aA 4 e i λj=>yO [(e,some 46),(g,none)]) (az 1 d λi=>aB i λj=>az 3 d λk=>aB k λl=>az 4 d λm=>aB m λn=>aY 46 [(0,b),(1,j),(2,l),(3,n)] λo=>aA 4 e o λp=>yO [(e,some 46),(I 0,none)])
def HP{x0 x1 W r}(h:Dn ba x0 x1 W=some r):OG 79 #[] [x0,x1] W r:=oM 21 h (by kernel_rfl)
def BW:fI:=λc a=>aX a λb=>aN 5 b λd=>bV c 97 [d] λe=>cy e (I 0) λf=>yO [(f,none)]
def FU{x0 W r}(h:BW ba x0 W=some r):OG 96 #[] [x0] W r:=oM 6 h (by kernel_rfl)
def jA:dE:=λc a b=>nL a (I 0) λd=>gF d (dS a) λe=>gF d (jp 5 b) λf=>gF d (bz f) λg=>gF d (EH g) λh=>gF d (Jn e h) λi=>aT d (.bool true) i λj=>gI j (yO [(I 4,none)]) (yO [(I 0,none)])
def jm:Mn:=λc a b d e f=>gI f (nL b (I 0) λg=>gF g (dS b) λh=>gF g (jp 6 d) λi=>gF g (bz i) λj=>gF g (H8 j) λk=>gF g (Jn h k) λl=>aT g (.bool true) l λm=>gI m (yO [(I 4,none)]) (az 0 e λn=>aB n λo=>bY o (I 3) λp=>gT p (jp 5 e) λr=>gT p (bz r) λs=>gT p (zb1 s (I 1)) λt=>gT p (dS t) λu=>gF u (jp 5 e) λv=>gF u (bz v) λw=>gF u (zb2 w (I 8)) λx=>gT p (kH u (.bool true) x) λy=>aT p y (.bool false) λz=>gI z (yO [(I 7,none)]) (yO [(I 0,none)]))) (jA c a d)
def lS:alO:=λc a b d e f g=>gI g (az 1 e λh=>aB h λi=>az 7 e λj=>az 1 j λk=>aB k λl=>gB (Ub i l) λm=>gI m (yO [(I 14,none)]) (jA c a d)) (bY f (I 3) λh=>gI h (jm c a b d e h) (bY f (I 10) λi=>gI i (jm c a b d e i) (bY f (I 11) λj=>jm c a b d e j)))
def lP:EZ:=λc a b d e=>az 0 e λf=>aB f λg=>bY g (I 8) λh=>gI h (az 1 e λi=>aB i λj=>gB (ags j (.int .u32 0)) λk=>gI k (yO [(I 14,none)]) (jA c a d)) (bY g (I 6) λi=>gI i (lS c a b d e g i) (bY g (I 7) λj=>lS c a b d e g j))
def lR:alO:=λc a b d e f g=>gI g (yO [(I 0,none)]) (bY f (I 9) λh=>gI h (lP c a b d e) (az 2 e λi=>aB i λj=>az 4 d λk=>aB k λl=>gB (Zr j l) λm=>gI m (yO [(I 13,none)]) (lP c a b d e)))
def B2:EZ:=λc a b d e=>aX a λf=>aX b λg=>az 0 g λh=>aB h λi=>bY i (I 1) λj=>gI j (lR c d e f g i j) (bY i (I 12) λk=>lR c d e f g i k)
def F2{x0 x1 x2 x3 W r}(h:B2 ba x0 x1 x2 x3 W=some r):OG 99 #[] [x0,x1,x2,x3] W r:=oM 74 h (by kernel_rfl)
def mX:cU:=λc S=>bQ (S 17) (S 16) λa=>gI a (bH 1 (S 15) (S 17) λb=>aB b λd=>bV c 123 [d] λe=>bH 1 (S 3) (S 17) λf=>aA 1 f e λg=>bK (S 17) (I 1) λh=>yN (q (q (q (q S 18 [a,S 17,b,d]) 4 [S 17,d]) 22 [S 3,S 17,d,e,f,h]) 17 [h])) (yE 0 (q S 18 [a]))
def xD:fI:=λc a=>aX a λb=>aG 34 λd=>az 5 b λe=>aB e λf=>bV c 122 [f] λg=>az 5 b λh=>aA 1 h g λi=>az 6 b λj=>aB j λk=>gB (H8 k) λl=>gB (sD 32 l l) λm=>az 6 b λn=>aB n λo=>gB (H8 o) λp=>gL (mX c) (q (q (q (q (cG 0 [a] ai.blank) 1 [b,d]) 6 [e,f,g,h,j,k,l,m]) 3 [m]) 14 [n,o,p,I 0]) λr S=>gX 0 r (az 6 (S 1) λs=>aA 1 s (S 3) λt=>aN 7 (S 1) λu=>aA 7 (S 2) u λv=>yO [(S 2,some 34)]) yZ
def HJ{x0 W r}(h:xD ba x0 W=some r):OG 100 #[] [x0] W r:=oM 31 h (by kernel_rfl)
def CF:asU:=λc=>aG 172 λa=>aY 172 [(1,vX 124),(2,vX 125),(3,vX 126),(4,vX 127),(5,vX 128),(6,vX 129),(7,vX 130),(8,vX 131),(9,vX 132),(10,vX 133),(11,vX 134),(12,vX 135)] λb=>aA 13 a b λd=>yO [(a,some 172)]
def LQ{W r}(h:CF ba W=some r):OG 101 #[] [] W r:=oM 2 h (by kernel_rfl)
def qf:Mn:=λc a b d e f=>cy f (I 0) λg=>gI g (yO [(.slice none 0 0,none),(f,none)]) (aN 4 e λh=>bV c 138 [h,a,b,d] λi=>yO [(i,none),(I 0,none)])
def B1:EZ:=λc a b d e=>aX a λf=>aN 4 f λg=>bV c 137 [g,b,d] λh=>lZ h (I 0) λi=>gT i (dS e) λj=>gT i (zb1 j (I 1)) λk=>gT i (dS k) λl=>gF l (dS e) λm=>gF l (zb2 m (I 8)) λn=>gT i (kH l (.bool true) n) λo=>aT i o (.bool false) λp=>gI p (qf c b d e f (I 7)) (qf c b d e f h)
def FY{x0 x1 x2 x3 W r}(h:B1 ba x0 x1 x2 x3 W=some r):OG 108 #[] [x0,x1,x2,x3] W r:=oM 33 h (by kernel_rfl)
def vh:cU:=λc S=>gQ (S 9) λa=>bQ (S 12) a λb=>let T:=q S 19 [S 12,S 9,a,b];gI b (aN 4 (S 4) λd=>bH 1 (S 9) (S 12) λe=>aB e λf=>bV c 140 [S 1,f,S 3] λg=>gA (λW=>kA true (dJ 4 (S 4) W) d&&true) (bV c 139 [d,g,S 2] λh=>nL (S 10) (I 0) λi=>gF i (dS h) λj=>gF i (dS (S 11)) λk=>gF i (Nc j k) λl=>aT i (.bool true) l λm=>let U:=q (q (q (q (q (q T 25 [d,S 1,S 9,S 12,e,f,S 3]) 33 [S 2]) 32 [g]) 34 [h]) 13 [h]) 35 [S 10,i,i,j,k,l,m];gI m (bH 1 (S 9) (S 12) λn=>aB n λo=>bK (S 12) (I 1) λp=>yN (q (q (q (q U 42 [S 9,S 12,n,o,h]) 10 [o,h]) 23 [S 12,p]) 12 [p])) (bK (S 12) (I 1) λn=>yN (q (q U 23 [S 12,n]) 12 [n])))) (yE 0 T)
def K5:EZ:=λc a b d e=>aX a λf=>aN 4 f λg=>bV c 138 [g,b,d,e] λh=>gL (vh c) (q (q (q (q (cG 0 [a,b,d,e] ai.blank) 4 [f]) 8 [I 0]) 14 [g,b,d,e,h]) 9 [h,I (-1),I 0,I 0]) λi S=>gX 0 i (yO [(S 10,none)]) yZ
def Mi{x0 x1 x2 x3 W r}(h:K5 ba x0 x1 x2 x3 W=some r):OG 109 #[] [x0,x1,x2,x3] W r:=oM 48 h (by kernel_rfl)
def mN:fI:=λc a=>gB (apw a (.slice none 0 0)) λb=>gI b (yO [(.slice none 0 0,none)]) (bu 88 0 [] λd=>cd #[88,88] d a λe=>yO [(e,none)])
def sj{x0 W r}(h:mN ba x0 W=some r):OG 123 #[] [x0] W r:=oM 8 h (by kernel_rfl)
def uG:fI:=λc a=>aG 50 λb=>aD a λd=>az 0 d λe=>az 0 e λf=>az 2 f λg=>aB g λh=>bV c 150 [a,h] λi=>aY 50 [(3,i)] λj=>aA 9 b j λk=>yO [(b,some 50)]
def zn{x0 W r}(h:uG ba x0 W=some r):OG 124 #[] [x0] W r:=oM 12 h (by kernel_rfl)
def uO:fI:=λc a=>aG 50 λb=>aD a λd=>az 0 d λe=>az 0 e λf=>az 1 f λg=>aB g λh=>bV c 150 [a,h] λi=>aD a λj=>az 0 j λk=>az 5 k λl=>aB l λm=>aD a λn=>az 19 n λo=>aB o λp=>bH 5 m p λr=>aN 5 r λs=>aD a λt=>az 7 t λu=>az 1 u λv=>aB v λw=>bV c 152 [s,w,i] λx=>aq x 0 λy=>aq x 1 λz=>bV c 151 [a,y,z] λA=>cy A (I 0) λB=>gI B (aY 50 [(0,A)] λC=>aA 9 b C λD=>yO [(b,some 50)]) (aY 50 [(3,i)] λC=>aA 9 b C λD=>yO [(b,some 50)])
def zU{x0 W r}(h:uO ba x0 W=some r):OG 125 #[] [x0] W r:=oM 41 h (by kernel_rfl)
def gU:cU:=λc S=>bQ (S 23) (S 22) λa=>gI a (bH 5 (S 21) (S 23) λb=>aN 5 b λd=>aG 87 λe=>aA 5 e d λf=>az 0 e λg=>aB g λh=>bY h (I 0) λi=>bH 1 (S 3) (S 23) λj=>aA 1 j i λk=>bK (S 23) (I 1) λl=>yN (q (q (q (q (q S 24 [a,S 23,b,d]) 5 [e]) 4 [S 23]) 28 [S 3,S 23,g,h,i,j,l]) 23 [l])) (yE 0 (q S 24 [a]))
def gY:cU:=λc S=>bQ (S 72) (S 71) λa=>gI a (aD (S 0) λb=>az 0 b λd=>az 5 d λe=>aB e λf=>dP (S 6) (S 72) λg=>aD (S 0) λh=>az 0 h λi=>az 5 i λj=>aB j λk=>dP (S 6) (S 72) λl=>bH 5 k l λm=>aN 5 m λn=>aD (S 0) λo=>az 7 o λp=>az 1 p λr=>aB r λs=>bV c 152 [n,s,S 8] λt=>gA (λW=>kA true (bz e W) f&&true) (aq t 0 λu=>aq t 1 λv=>bH 5 f g λw=>aA 5 w u λx=>bK (S 72) (I 1) λy=>yN (q (q (q (q (q (q S 73 [a,S 72]) 9 [S 72]) 76 [S 0,b,d,e,f,S 6,S 72,g,S 0,h,i,j,k,S 6,S 72,l,m,n,S 0,o,p,r,s,S 8,t]) 75 [t]) 101 [u,v,w,y]) 72 [y]))) (yE 2 (q S 73 [a]))
def tB:fI:=λc a=>aG 50 λb=>aD a λd=>az 0 d λe=>az 5 e λf=>aB f λg=>gB (EH g) λh=>gB (sD 135 h h) λi=>aD a λj=>az 0 j λk=>az 5 k λl=>aB l λm=>gB (EH m) λn=>gL (gU c) (q (q (q (q (cG 0 [a] ai.blank) 2 [b]) 10 [a,d,e,f,g,h,i]) 3 [i]) 17 [a,j,k,l,m,n,I 0]) λo S=>gX 0 o (aD (S 0) λp=>az 0 p λr=>az 0 r λs=>aN 4 s λt=>aD (S 0) λu=>az 7 u λv=>az 4 v λw=>aB w λx=>aD (S 0) λy=>az 7 y λz=>az 5 z λA=>aB A λB=>bV c 153 [t,S 3,x,B] λC=>aq C 0 λD=>aq C 1 λE=>cy E (I 0) λF=>gI F (aY 50 [(0,E)] λG=>aA 9 (S 2) G λH=>yO [(S 2,some 50)]) (aD (S 0) λG=>az 0 G λH=>az 0 H λJ=>az 1 J λK=>aB K λL=>bV c 150 [S 0,L] λM=>aD (S 0) λN=>az 7 N λO=>az 5 O λP=>aB P λQ=>gL (gY c) (q (q (q (q (q (q (q (q S 36 [S 0,p,r,s,t,S 3,S 0,u,v,w,x,S 0,y,z,A,B,C]) 35 [C]) 53 [D,E]) 6 [D,E]) 55 [E,F]) 59 [S 0,S 0,G,H,J,K,L,M]) 8 [M]) 67 [S 0,N,O,P,Q,I 0]) λa0 T=>gX 2 a0 (aD (T 0) λb0=>az 7 b0 λd0=>az 5 d0 λe0=>aB e0 λf0=>aY 50 [(1,T 6),(2,f0),(3,T 8)] λg0=>aA 9 (T 2) g0 λh0=>yO [(T 2,some 50)]) yZ)) yZ
def yD{x0 W r}(h:tB ba x0 W=some r):OG 126 #[] [x0] W r:=oM 113 h (by kernel_rfl)
def qP:fI:=λc a=>aG 50 λb=>aD a λd=>az 0 d λe=>az 5 e λf=>aB f λg=>aD a λh=>az 19 h λi=>aB i λj=>bH 5 g j λk=>aN 5 k λl=>aD a λm=>az 7 m λn=>az 1 n λo=>aB o λp=>bV c 155 [l,p] λr=>aq r 0 λs=>aq r 1 λt=>bV c 154 [a,s,t] λu=>aA 9 b u λv=>yO [(b,some 50)]
def we{x0 W r}(h:qP ba x0 W=some r):OG 127 #[] [x0] W r:=oM 24 h (by kernel_rfl)
def wG:fI:=λc a=>aG 50 λb=>aD a λd=>az 0 d λe=>az 5 e λf=>aB f λg=>aD a λh=>az 19 h λi=>aB i λj=>bH 5 g j λk=>aN 5 k λl=>aD a λm=>az 7 m λn=>az 1 n λo=>aB o λp=>bV c 157 [l,p] λr=>aq r 0 λs=>aq r 1 λt=>bV c 156 [a,s,t] λu=>aA 9 b u λv=>yO [(b,some 50)]
def Bu{x0 W r}(h:wG ba x0 W=some r):OG 128 #[] [x0] W r:=oM 24 h (by kernel_rfl)
def pK:fI:=λc a=>aG 50 λb=>aD a λd=>az 0 d λe=>az 5 e λf=>aB f λg=>aD a λh=>az 19 h λi=>aB i λj=>bH 5 g j λk=>aN 5 k λl=>aD a λm=>az 7 m λn=>az 7 n λo=>aN 4 o λp=>aD a λr=>az 7 r λs=>az 6 s λt=>aB t λu=>bV c 158 [l,p,u] λv=>aq v 0 λw=>aq v 1 λx=>bV c 156 [a,w,x] λy=>aA 9 b y λz=>yO [(b,some 50)]
def vG{x0 W r}(h:pK ba x0 W=some r):OG 129 #[] [x0] W r:=oM 29 h (by kernel_rfl)
def rV:fI:=λc a=>aG 50 λb=>aD a λd=>az 0 d λe=>az 5 e λf=>aB f λg=>aD a λh=>az 19 h λi=>aB i λj=>bH 5 g j λk=>aN 5 k λl=>aD a λm=>az 7 m λn=>az 7 n λo=>aN 4 o λp=>bV c 159 [l,p] λr=>aq r 0 λs=>aq r 1 λt=>bV c 154 [a,s,t] λu=>aA 9 b u λv=>yO [(b,some 50)]
def xe{x0 W r}(h:rV ba x0 W=some r):OG 130 #[] [x0] W r:=oM 24 h (by kernel_rfl)
def rU:fI:=λc a=>aG 50 λb=>aD a λd=>az 0 d λe=>az 5 e λf=>aB f λg=>aD a λh=>az 19 h λi=>aB i λj=>bH 5 g j λk=>aN 5 k λl=>bV c 160 [l] λm=>aq m 0 λn=>aq m 1 λo=>bV c 154 [a,n,o] λp=>aA 9 b p λr=>yO [(b,some 50)]
def wV{x0 W r}(h:rU ba x0 W=some r):OG 131 #[] [x0] W r:=oM 19 h (by kernel_rfl)
def pG:fI:=λc a=>aG 50 λb=>aD a λd=>az 0 d λe=>az 5 e λf=>aB f λg=>aD a λh=>az 19 h λi=>aB i λj=>bH 5 g j λk=>aN 5 k λl=>aD a λm=>az 7 m λn=>az 7 n λo=>aN 4 o λp=>bV c 161 [l,p] λr=>aY 50 [(0,r)] λs=>aA 9 b s λt=>yO [(b,some 50)]
def vB{x0 W r}(h:pG ba x0 W=some r):OG 132 #[] [x0] W r:=oM 21 h (by kernel_rfl)
def ge:fI:=λc a=>aG 50 λb=>aD a λd=>az 0 d λe=>az 6 e λf=>aB f λg=>aD a λh=>az 7 h λi=>az 4 i λj=>aB j λk=>bH 1 g k λl=>aD l λm=>aB m λn=>mo n λo=>aD a λp=>az 0 p λr=>az 0 r λs=>az 3 s λt=>aB t λu=>aD a λv=>az 7 v λw=>az 4 w λx=>aB x λy=>bH 3 u y λz=>az 2 z λA=>aB A λB=>gB (Jn o B) λC=>gI C (aY 50 [(0,I 5)] λD=>aA 9 b D λE=>yO [(b,some 50)]) (aD l λD=>aB D λE=>aD a λF=>az 7 F λG=>az 1 G λH=>aB H λJ=>bV c 162 [E,J] λK=>gI K (aY 50 [(0,I 8)] λL=>aA 9 b L λM=>yO [(b,some 50)]) (aD l λL=>aB L λM=>aD a λN=>az 7 N λO=>az 1 O λP=>aB P λQ=>bu 88 1 [(0,Q)] λa0=>cd #[88,88] M a0 λb0=>aD l λd0=>aA 1 d0 b0 λe0=>aD l λf0=>aB f0 λg0=>mo g0 λh0=>aY 50 [(5,h0)] λi0=>aA 9 b i0 λj0=>yO [(b,some 50)]))
def qZ{x0 W r}(h:ge ba x0 W=some r):OG 133 #[] [x0] W r:=oM 64 h (by kernel_rfl)
def nJ:fI:=λc a=>aG 50 λb=>aD a λd=>az 0 d λe=>az 6 e λf=>aB f λg=>aD a λh=>az 7 h λi=>az 4 i λj=>aB j λk=>bH 1 g k λl=>aD l λm=>aB m λn=>aD a λo=>az 7 o λp=>az 1 p λr=>aB r λs=>bV c 163 [n,s] λt=>nL t (I 0) λu=>gI u (aY 50 [(0,I 4)] λv=>aA 9 b v λw=>yO [(b,some 50)]) (aD l λv=>aB v λw=>bK t (I 1) λx=>bV c 164 [w,t,x] λy=>aD l λz=>aA 1 z y λA=>aY 50 [] λB=>aA 9 b B λC=>yO [(b,some 50)])
def pJ{x0 W r}(h:nJ ba x0 W=some r):OG 134 #[] [x0] W r:=oM 38 h (by kernel_rfl)
def iH:cU:=λc S=>bQ (S 37) (S 36) λa=>gI a (bH 5 (S 35) (S 37) λb=>aN 5 b λd=>aG 87 λe=>aA 5 e d λf=>az 2 e λg=>aB g λh=>aB (S 1) λi=>aD i λj=>az 0 j λk=>az 4 k λl=>aB l λm=>bV c 165 [h,m] λn=>aq n 0 λo=>aq n 1 λp=>gT o (jp 0 e) λr=>gT o (bz r) λs=>gT o (zb7 s (I 1)) λt=>aT o t (.bool false) λu=>let T:=q (q (q (q (q (q (q (q S 38 [a,S 37,b,d]) 5 [e]) 4 [S 37]) 43 [g,h,i,j,k,l,m,n]) 42 [n]) 51 [o,p]) 6 [o,p]) 53 [o,o,r,s,t,u];gI u (bu 28 1 [(0,S 37)] λv=>cd #[28,28] (S 3) v λw=>bK (S 37) (I 1) λx=>yN (q (q (q (q T 59 [S 3,S 37,v,w]) 3 [w]) 63 [x]) 37 [x])) (bK (S 37) (I 1) λv=>yN (q (q T 63 [v]) 37 [v]))) (yE 0 (q S 38 [a]))
def fO:cU:=λc S=>bQ (S 69) (S 68) λa=>gI a (bH 1 (S 67) (S 69) λb=>aB b λd=>aB (S 1) λe=>aD e λf=>az 0 f λg=>az 5 g λh=>aB h λi=>aB (S 1) λj=>aD j λk=>az 0 k λl=>az 5 l λm=>aB m λn=>bH 5 n d λo=>aN 5 o λp=>aB (S 1) λr=>aD r λs=>az 0 s λt=>az 4 t λu=>aB u λv=>bV c 169 [p,v] λw=>gA (λW=>kA true (bz h W) i&&(kA true (bz (S 1) W) e&&true)) (aq w 0 λx=>aq w 1 λy=>bH 5 i d λz=>aA 5 z x λA=>aB (S 1) λB=>bV c 170 [B,d] λC=>bK (S 69) (I 1) λD=>yN (q (q (q (q (q (q S 70 [a,b,d]) 9 [d]) 74 [e,f,g,h,i,d,j,k,l,m,n,d,o,p,r,s,t,u,v,w]) 73 [w]) 94 [x,y,z,B,d,C,D]) 69 [D]))) (yE 2 (q S 70 [a]))
def iz:fI:=λc a=>aX a λb=>aG 50 λd=>aB b λe=>aD e λf=>az 7 f λg=>az 11 g λh=>aB h λi=>aB b λj=>aD j λk=>az 0 k λl=>az 4 l λm=>aB m λn=>gB (Zb i n) λo=>gI o (aY 50 [(0,I 18)] λp=>aA 9 d p λr=>yO [(d,some 50)]) (aB b λp=>aB b λr=>aD r λs=>az 7 s λt=>az 11 t λu=>aB u λv=>aD p λw=>az 0 w λx=>az 4 x λy=>aA 1 y v λz=>aB b λA=>aD A λB=>az 0 B λC=>az 5 C λD=>aB D λE=>gB (EH E) λF=>gL (iH c) (q (q (q (q (q (cG 0 [a] ai.blank) 1 [b,d]) 10 [e,f,g,h,i,j,k,l,m,n,o]) 22 [p,r,s,t,u,v,w,x,y]) 3 [.slice none 0 0]) 31 [A,B,C,D,E,F,I 0]) λG S=>gX 0 G (gB (uj (.func 167) #[] #[S 1]) λH=>bV c 166 [S 3,H] λJ=>gQ (S 3) λK=>gL (fO c) (q S 64 [S 3,H,J,S 3,K,I 0]) λL T=>gX 2 L (aY 50 [] λM=>aA 9 (T 2) M λN=>yO [(T 2,some 50)]) yZ) yZ)
def qW{x0 W r}(h:iz ba x0 W=some r):OG 135 #[] [x0] W r:=oM 102 h (by kernel_rfl)
def tu:pD:=λc a b d=>lZ d (I 0) λe=>gT e (dS a) λf=>gT e (zb1 f (I 0)) λg=>gT e (dS g) λh=>gF h (dS a) λi=>gF h (jp 3 b) λj=>gF h (bz j) λk=>gF h (Lp k) λl=>gF h (Jn i l) λm=>gT e (kH h (.bool true) m) λn=>aT e n (.bool false) λo=>gI o (yO [(I 4,none)]) (yO [(d,none)])
def Gz:pD:=λc a b d=>aX a λe=>aN 4 e λf=>bV c 30 [f] λg=>aq g 0 λh=>aq g 1 λi=>lZ i (I 0) λj=>gT j (dS b) λk=>gT j (ajv k) λl=>gT j (dS h) λm=>gT j (Ln l m) λn=>aT j n (.bool false) λo=>gI o (tu c d e (I 6)) (tu c d e i)
def Kj{x0 x1 x2 W r}(h:Gz ba x0 x1 x2 W=some r):OG 137 #[] [x0,x1,x2] W r:=oM 36 h (by kernel_rfl)
def mz:cU:=λc S=>dP (S 12) (S 3) λa=>bH 3 (S 9) (S 11) λb=>az 2 b λd=>aB d λe=>gB (aak a e) λf=>let T:=q S 23 [S 12,S 3,a,S 9,S 11,b,d,e,f];gI f (bH 3 (S 9) (S 11) λg=>az 1 g λh=>aB h λi=>dP i (S 12) λj=>bu 28 1 [(0,j)] λk=>cd #[28,28] (S 10) k λl=>bK (S 12) (I 1) λm=>yN (q (q (q (q T 34 [S 10,S 9,S 11,g,h,i,S 12,j,k,l]) 10 [l]) 32 [S 12,m]) 12 [m])) (yE 2 T)
def pU:cU:=λc S=>gB (adB (S 9)) λa=>bQ (S 11) a λb=>let T:=q S 17 [S 11,S 9,a,b];gI b (gL (mz c) (q T 12 [I 0]) λd U=>gX 2 d (bK (U 11) (I 1) λe=>yN (q (q U 21 [U 11,e]) 11 [e])) yZ) (yE 0 T)
def BR:EZ:=λc a b d e=>aX a λf=>aN 4 f λg=>bV c 171 [g,b,d] λh=>gL (pU c) (q (q (q (q (cG 0 [a,b,d,e] ai.blank) 4 [f]) 8 [.slice none 0 0]) 13 [g,b,d,h]) 9 [h,.slice none 0 0,I 0]) λi S=>gX 0 i (yO [(S 10,none)]) yZ
def EW{x0 x1 x2 x3 W r}(h:BR ba x0 x1 x2 x3 W=some r):OG 138 #[] [x0,x1,x2,x3] W r:=oM 45 h (by kernel_rfl)
def tV:cU:=λc S=>gB (adB (S 7)) λa=>bQ (S 9) a λb=>let T:=q S 14 [S 9,S 7,a,b];gI b (bH 3 (S 7) (S 9) λd=>az 2 d λe=>aB e λf=>bY f (I 1) λg=>let U:=q T 20 [S 7,S 9,d,e,f,g];gI g (bK (S 8) (I 1) λh=>bK (S 9) (I 1) λi=>yN (q (q (q (q U 26 [S 8,h]) 8 [h]) 18 [S 9,i]) 9 [i])) (bK (S 9) (I 1) λh=>yN (q (q U 18 [S 9,h]) 9 [h]))) (yE 0 T)
def Hl:pD:=λc a b d=>aX a λe=>aN 4 e λf=>bV c 171 [f,b,d] λg=>gL (tV c) (q (q (q (q (cG 0 [a,b,d] ai.blank) 3 [e]) 6 [I 0]) 10 [f,b,d,g]) 7 [g,I 0,I 0]) λh S=>gX 0 h (yO [(S 8,none)]) yZ
def IX{x0 x1 x2 W r}(h:Hl ba x0 x1 x2 W=some r):OG 139 #[] [x0,x1,x2] W r:=oM 29 h (by kernel_rfl)
def qj:cU:=λc S=>dP (S 1) (S 2) λa=>bQ (S 8) a λb=>let T:=q S 13 [S 8,S 1,S 2,a,b];gI b (bH 1 (S 7) (S 8) λd=>aA 1 d (.bool false) λe=>bK (S 8) (I 1) λf=>yN (q (q (q T 20 [S 7,S 8,d]) 18 [S 8,f]) 8 [f])) (yE 0 T)
def B0:pD:=λc a b d=>bu 135 0 [] λe=>cd #[135,135] e a λf=>gL (qj c) (q (q (q (q (q (cG 0 [a,b,d] ai.blank) 6 [.slice none 0 0]) 9 [e,a,f]) 7 [f]) 12 [b]) 8 [b]) λg S=>gX 0 g (yO [(S 7,none)]) yZ
def Fy{x0 x1 x2 W r}(h:B0 ba x0 x1 x2 W=some r):OG 140 #[] [x0,x1,x2] W r:=oM 24 h (by kernel_rfl)
def tw:dE:=λc a b=>aD a λd=>az 0 d λe=>az 4 e λf=>aB f λg=>bV c 185 [g,b] λh=>aq h 0 λi=>aq h 1 λj=>yO [(i,none)]
def yF{x0 x1 W r}(h:tw ba x0 x1 W=some r):OG 150 #[] [x0,x1] W r:=oM 18 h (by kernel_rfl)
def mE:pD:=λc a b d=>aX b λe=>lZ d (I 0) λf=>gI f (aD a λg=>az 0 g λh=>az 5 h λi=>aB i λj=>aD a λk=>az 19 k λl=>aB l λm=>aN 5 e λn=>bH 5 j m λo=>aA 5 o n λp=>yO [(d,none)]) (yO [(d,none)])
def xm{x0 x1 x2 W r}(h:mE ba x0 x1 x2 W=some r):OG 151 #[] [x0,x1,x2] W r:=oM 21 h (by kernel_rfl)
def Jt:pD:=λc a b d=>aX a λe=>aG 87 λf=>aN 5 e λg=>aN 5 e λh=>bV c 187 [g,d] λi=>gA (λW=>kA true (dJ 5 e W) h&&true) (bV c 188 [h,I 0] λj=>bu 251 2 [(0,i),(1,j)] λk=>bV c 186 [k] λl=>cy l (I 0) λm=>gI m (aN 5 e λn=>aA 5 f n λo=>yO [(f,some 87),(l,none)]) (az 0 e λn=>aA 1 n (I 1) λo=>az 1 e λp=>aA 1 p b λr=>az 2 e λs=>aA 1 s d λt=>aN 5 e λu=>aA 5 f u λv=>yO [(f,some 87),(I 0,none)]))
def LN{x0 x1 x2 W r}(h:Jt ba x0 x1 x2 W=some r):OG 152 #[] [x0,x1,x2] W r:=oM 26 h (by kernel_rfl)
def B3:EZ:=λc a b d e=>aX a λf=>aN 4 f λg=>bV c 189 [g,b,d] λh=>cy h (I 0) λi=>gI i (yO [(I 0,none),(h,none)]) (bV c 190 [e] λj=>eJ .not j λk=>gI k (yO [(I 0,none),(I 7,none)]) (aN 4 f λl=>bV c 192 [l,b,d] λm=>bV c 191 [m,e] λn=>aq n 0 λo=>aq n 1 λp=>aG 240 λr=>aA 5 r o λs=>eJ .not p λt=>gI t (yO [(I 0,none),(I 15,none)]) (az 0 r λu=>az 1 u λv=>aB v λw=>az 3 r λx=>aB x λy=>dP w y λz=>yO [(z,none),(I 0,none)])))
def Fk{x0 x1 x2 x3 W r}(h:B3 ba x0 x1 x2 x3 W=some r):OG 153 #[] [x0,x1,x2,x3] W r:=oM 40 h (by kernel_rfl)
def ny:pD:=λc a b d=>aX b λe=>aG 50 λf=>aN 5 e λg=>bV c 151 [a,g,d] λh=>lZ h (I 0) λi=>gI i (aD a λj=>az 19 j λk=>aB k λl=>bV c 170 [a,l] λm=>aY 50 [(0,h)] λn=>aA 9 f n λo=>yO [(f,some 50)]) (aY 50 [(0,h)] λj=>aA 9 f j λk=>yO [(f,some 50)])
def yL{x0 x1 x2 W r}(h:ny ba x0 x1 x2 W=some r):OG 154 #[] [x0,x1,x2] W r:=oM 21 h (by kernel_rfl)
def oO:pD:=λc a b d=>aX b λe=>aG 50 λf=>aN 5 e λg=>bV c 151 [a,g,d] λh=>cy h (I 0) λi=>gI i (aY 50 [(0,h)] λj=>aA 9 f j λk=>yO [(f,some 50)]) (aN 5 e λj=>aD a λk=>az 19 k λl=>aB l λm=>fe 3 43 m λn=>aG 46 λo=>bV c 195 [j,n] λp=>aq p 0 λr=>aq p 1 λs=>aA 4 o r λt=>aN 4 o λu=>aY 50 [(4,u)] λv=>aA 9 f v λw=>yO [(f,some 50)])
def zt{x0 x1 x2 W r}(h:oO ba x0 x1 x2 W=some r):OG 156 #[] [x0,x1,x2] W r:=oM 29 h (by kernel_rfl)
def Ai:pD:=λc a b d=>aX a λe=>aX b λf=>aG 87 λg=>aN 5 e λh=>aN 4 f λi=>bV c 161 [h,i] λj=>cy j (I 0) λk=>gI k (aN 5 e λl=>aA 5 g l λm=>yO [(g,some 87),(j,none)]) (aN 5 e λl=>bV c 196 [l,d] λm=>aq m 0 λn=>aq m 1 λo=>aA 5 g n λp=>yO [(g,some 87),(o,none)])
def Db{x0 x1 x2 W r}(h:Ai ba x0 x1 x2 W=some r):OG 158 #[] [x0,x1,x2] W r:=oM 21 h (by kernel_rfl)
def Dj:dE:=λc a b=>aX a λd=>aX b λe=>aG 87 λf=>aN 5 d λg=>aN 4 e λh=>bV c 161 [g,h] λi=>cy i (I 0) λj=>gI j (aN 5 d λk=>aA 5 f k λl=>yO [(f,some 87),(i,none)]) (aN 5 d λk=>bV c 194 [k] λl=>aA 5 f l λm=>yO [(f,some 87),(I 0,none)])
def HK{x0 x1 W r}(h:Dj ba x0 x1 W=some r):OG 159 #[] [x0,x1] W r:=oM 16 h (by kernel_rfl)
def C4:fI:=λc a=>aX a λb=>aG 87 λd=>aN 5 b λe=>bV c 188 [e,I 2] λf=>cy f (I 0) λg=>gI g (aN 5 b λh=>aA 5 d h λi=>yO [(d,some 87),(f,none)]) (az 4 b λh=>aB h λi=>gB (Up i (.int .u64 18446744073709551615)) λj=>gI j (aN 5 b λk=>aA 5 d k λl=>yO [(d,some 87),(I 17,none)]) (az 4 b λk=>aB k λl=>gB (TQ l (.int .u64 1)) λm=>az 4 b λn=>aA 1 n m λo=>aN 5 b λp=>bV c 194 [p] λr=>aA 5 d r λs=>yO [(d,some 87),(I 0,none)]))
def Hy{x0 W r}(h:C4 ba x0 W=some r):OG 160 #[] [x0] W r:=oM 21 h (by kernel_rfl)
def Hi:dE:=λc a b=>aX a λd=>aX b λe=>aN 5 d λf=>az 0 e λg=>aB g λh=>bV c 195 [f,h] λi=>aq i 0 λj=>aq i 1 λk=>aG 46 λl=>aA 4 l j λm=>cy k (I 0) λn=>gI n (yO [(k,none)]) (aN 4 l λo=>aN 4 e λp=>gB (apY o p) λr=>gI r (yO [(I 16,none)]) (yO [(I 0,none)]))
def JA{x0 x1 W r}(h:Hi ba x0 x1 W=some r):OG 161 #[] [x0,x1] W r:=oM 22 h (by kernel_rfl)
def kG:dE:=λc a b=>bV c 163 [a,b] λd=>gB (O9 d (I 0)) λe=>yO [(e,none)]
def pN{x0 x1 W r}(h:kG ba x0 x1 W=some r):OG 162 #[] [x0,x1] W r:=oM 9 h (by kernel_rfl)
def gD:cU:=λc S=>bQ (S 8) (S 7) λa=>gI a (bH 1 (S 0) (S 8) λb=>aB b λd=>gB (amI (S 1) d) λe=>let T:=q (q (q S 9 [a,S 8]) 5 [S 8]) 11 [S 1,S 0,S 8,b,d,e];gI e (yR (q (q T 17 [S 8]) 4 [S 8])) (bK (S 8) (I 1) λf=>yN (q (q T 18 [f]) 8 [f]))) (yE 0 (q S 9 [a]))
def mP:dE:=λc a b=>mo a λd=>gL (gD c) (q (q (cG 0 [a,b] ai.blank) 4 [I 0]) 6 [a,d,I 0]) λe S=>gX 0 e (yO [(I (-1),none)]) (gR e (yO [(S 4,none)]))
def sd{x0 x1 W r}(h:mP ba x0 x1 W=some r):OG 163 #[] [x0,x1] W r:=oM 19 h (by kernel_rfl)
def rT:pD:=λc a b d=>aB d λe=>aD e λf=>az 0 f λg=>az 5 g λh=>aB h λi=>bH 5 i a λj=>az 2 j λk=>aB k λl=>aB d λm=>aD m λn=>az 0 n λo=>az 5 o λp=>aB p λr=>bH 5 r b λs=>az 2 s λt=>aB t λu=>bV c 168 [l,u] λv=>yO [(v,none)]
def xP{x0 x1 x2 W r}(h:rT ba x0 x1 x2 W=some r):OG 167 #[x2] [x0,x1] W r:=oM 25 h (by kernel_rfl)
def nD:dE:=λc a b=>aD a λd=>az 0 d λe=>az 0 e λf=>aN 4 f λg=>bV c 200 [g,b] λh=>aq h 0 λi=>aq h 1 λj=>aG 177 λk=>aA 3 k i λl=>aD a λm=>az 0 m λn=>az 6 n λo=>aB o λp=>az 0 k λr=>aB r λs=>bH 1 p s λt=>aB t λu=>mo u λv=>qI v (I 0) λw=>gI w (aD a λx=>az 0 x λy=>az 5 y λz=>aB z λA=>aD a λB=>az 0 B λC=>az 5 C λD=>aB D λE=>bH 5 E b λF=>aN 5 F λG=>bH 1 u (I 0) λH=>aB H λJ=>aD a λK=>az 0 K λL=>az 0 L λM=>az 1 M λN=>aB N λO=>bV c 150 [a,O] λP=>gA (λW=>kA true (bz H W) J&&(kA true (dJ 5 F W) G&&(kA true (bz D W) E&&(kA true (bz z W) A&&true)))) (bV c 152 [G,J,P] λQ=>gA (λW=>kA true (bz z W) A&&true) (aq Q 0 λa0=>aq Q 1 λb0=>bH 5 A b λd0=>aA 5 d0 a0 λe0=>aD a λf0=>az 0 f0 λg0=>az 6 g0 λh0=>aB h0 λi0=>az 0 k λj0=>aB j0 λk0=>gB (oZ 88 u (some (I 1)) none none) λl0=>bH 1 i0 k0 λm0=>aA 1 m0 l0 λn0=>yO []))) (yO [])
def yu{x0 x1 W r}(h:nD ba x0 x1 W=some r):OG 170 #[] [x0,x1] W r:=oM 69 h (by kernel_rfl)
def i7:asG:=λc S a b=>gB (adB a) λd=>kw d (I 1) λe=>bH 3 a e λf=>az 2 f λg=>aB g λh=>bK h (I 1) λi=>bH 3 a e λj=>az 2 j λk=>aA 1 k i λl=>bK b (I 1) λm=>yN (q (q (q S 54 [a,a,d,e,f,g,h,i,j,k]) 39 [b,m]) 13 [m])
def lM:cU:=λc S=>dP (S 9) (S 10) λa=>bQ (S 13) a λb=>let T:=q S 34 [S 13,S 9,S 10,a,b];gI b (bH 1 (S 1) (S 13) λd=>aB d λe=>eJ .not e λf=>let U:=q T 41 [S 1,S 13,d,e,f];gI f (bK (S 13) (I 1) λg=>yN (q (q (q U 12 [.bool false]) 39 [S 13,g]) 13 [g])) (eJ .not (S 12) λg=>gI g (aY 222 [(0,S 8),(1,S 13)] λh=>bu 219 1 [(0,h)] λi=>cd #[219,219] (S 7) i λj=>i7 c (q (q (q U 46 [S 12,g,S 7,S 8,S 13,h,i,j]) 7 [j]) 12 [.bool true]) j (S 13)) (i7 c (q U 46 [S 12,g]) (S 7) (S 13)))) (yE 2 T)
def vI:cU:=λc S=>az 3 (S 3) λa=>aB a λb=>bH 3 b (S 2) λd=>az 1 d λe=>aB e λf=>gQ f λg=>bQ (S 8) g λh=>let T:=q S 14 [S 8,a,b,S 2,d,e,f,g,h];gI h (aN 4 (S 3) λi=>bV c 201 [i,S 2,S 8] λj=>aq j 0 λk=>aq j 1 λl=>aq j 2 λm=>gL (lM c) (q (q (q (q (q (q T 26 [i,S 2,S 8,j]) 25 [j]) 30 [k,l,m]) 9 [k,l,m,.bool false]) 33 [k]) 13 [k]) λn U=>gX 2 n (bK (U 8) (I 1) λo=>yN (q (q U 23 [U 8,o]) 8 [o])) yZ) (yE 0 T)
def Ja:pD:=λc a b d=>aX a λe=>gL (vI c) (q (q (cG 0 [a,b,d] ai.blank) 3 [e]) 6 [.slice none 0 0,.slice none 0 0,I 0]) λf S=>gX 0 f (yO [(S 7,none)]) yZ
def L6{x0 x1 x2 W r}(h:Ja ba x0 x1 x2 W=some r):OG 171 #[] [x0,x1,x2] W r:=oM 65 h (by kernel_rfl)
def M4:dE:=λc a b=>bu 150 2 [(0,a),(1,b)] λd=>bV c 197 [d] λe=>gI e (yO [(I 0,none),(I 7,none)]) (fe 2 44 a λf=>fe 2 44 b λg=>gB (aqD f g) λh=>gB (apK h (.int .u64 63)) λi=>gB (Up i (.int .u64 0)) λj=>gI j (fe 44 2 h λk=>yO [(k,none),(I 0,none)]) (yO [(I 9223372036854775807,none),(I 0,none)]))
def NQ{x0 x1 W r}(h:M4 ba x0 x1 W=some r):OG 185 #[] [x0,x1] W r:=oM 21 h (by kernel_rfl)
def zW:pD:=λc a b d=>aX a λe=>aN 4 e λf=>bV c 55 [f] λg=>aq g 0 λh=>aq g 1 λi=>cy i (I 0) λj=>gI j (yO [(i,none)]) (gB (ajv b) λk=>gB (Ln k h) λl=>gI l (yO [(I 6,none)]) (nL d (I 0) λm=>gF m (dS d) λn=>gF m (jp 3 e) λo=>gF m (bz o) λp=>gF m (Lp p) λr=>gF m (Jn n r) λs=>aT m (.bool true) s λt=>gI t (yO [(I 4,none)]) (yO [(I 0,none)])))
def DW{x0 x1 x2 W r}(h:zW ba x0 x1 x2 W=some r):OG 189 #[] [x0,x1,x2] W r:=oM 33 h (by kernel_rfl)
def zM:fI:=λc a=>gB (O9 a (I 1)) λb=>gT b (dS a) λd=>gT b (zb5 d (I 8)) λe=>aT b e (.bool false) λf=>yO [(f,none)]
def DG{x0 W r}(h:zM ba x0 W=some r):OG 190 #[] [x0] W r:=oM 9 h (by kernel_rfl)
def ui:cU:=λc S=>aG 240 λa=>aA 5 a (S 11) λb=>yN (q S 7 [a])
def y6(call:Eng.Callee)(R:Nat->ad)(W:AW):ga Tryz.prog call false 26 (BF [1,1,0,1,0,0] (Fz 191)) LT R W nG=ui call R W:=by kernel_rfl
def oP:cU:=λc S=>aB (S 5) λa=>eJ .not a λb=>gF b (bz (S 6)) λd=>gF b (dJ 5 (S 7)) λe=>gF b (bz (S 6)) λf=>gF b (dJ 5 (S 4)) λg=>gF b (c d [e]) λh=>gA (λW=>kA (tn b false) (dJ 5 (S 4) W) g&&(kA (tn b false) (bz (S 6) W) f&&true)) (gF b (c f [g]) λi=>gF b (Nc h i) λj=>aT b (.bool true) j λk=>let T:=q (q (q (q S 12 [a,b,b,d,e]) 18 [f,g]) 17 [h]) 20 [i,j,k];gI k (aN 5 (S 7) λl=>aA 5 (S 4) l λm=>aA 1 (S 5) (.bool true) λn=>yN (q T 23 [l])) (yN T))
def zh(call:Eng.Callee)(R:Nat->ad)(W:AW):ga Tryz.prog call false 26 (BF [1,1,0,1,0,1] (Fz 191)) LT R W nG=oP call R W:=by kernel_rfl
def BL:dE:=λc a b=>aG 240 λd=>aG 4 λe=>aG 252 λf=>aA 1 f (vX 208) λg=>bV c 210 [a,b] λh=>gB (ll c h (.loop .ready none (q (q (cG 0 [a,b] ai.blank) 4 [d,e,f]) 8 [a,b,h]) 26 #[11] (BF [1,1,0,1,0,0] (Fz 191)) (BF [1,1,0,1,0,1] (Fz 191)))) λi=>gM i (aN 5 d λj=>aB e λk=>aA 5 d j λl=>gA (λW=>kA true (bz e W) k&&true) (aA 1 e k λm=>yO [(d,some 240),(e,some 4)])) yZ
def Gp{x0 x1 W r}(h:BL ba x0 x1 W=some r):OG 191 #[] [x0,x1] W r:=oM 26 h (by kernel_rfl)
def gz:au6:=λc S a b d=>bK d (I 1) λe=>aY 222 [(0,a),(1,e)] λf=>aA 3 b f λg=>bK d (I 1) λh=>yN (q (q (q S 67 [a,d,e,f]) 43 [d,h]) 14 [h])
def i9:cU:=λc S=>dP (S 8) (S 12) λa=>gB (aak (S 14) a) λb=>let T:=q S 38 [S 14,S 8,S 12,a,b];gI b (dP (S 8) (S 12) λd=>bQ (S 14) d λe=>gT e (dS (S 1)) λf=>gT e (dS (S 14)) λg=>gT e (pc 1 f g) λh=>gT e (bz h) λi=>aT e i (.bool false) λj=>let U:=q T 45 [S 14,S 8,S 12,d,e,e,f,g,h,i,j];gI j (az 2 (S 13) λk=>aB k λl=>bK l (I 1) λm=>az 2 (S 13) λn=>aA 1 n m λo=>bK (S 14) (I 1) λp=>yN (q (q (q U 56 [k,l,m,n]) 43 [S 14,p]) 14 [p])) (az 2 (S 13) λk=>aB k λl=>qI l (I 0) λm=>let V:=q U 60 [k,l,m];gI m (aN 3 (S 13) λn=>bu 219 1 [(0,n)] λo=>cd #[219,219] (S 7) o λp=>gz c (q (q V 63 [S 7,n,o,p]) 7 [p]) (S 11) (S 13) (S 14)) (gz c V (S 11) (S 13) (S 14)))) (yE 2 T)
def pT:cU:=λc S=>bQ (S 29) (S 28) λa=>gI a (bH 1 (S 27) (S 29) λb=>aB b λd=>aY 222 [(0,S 29),(1,S 8)] λe=>aG 222 λf=>aA 3 f e λg=>gL (i9 c) (q (q (q (q (q (q S 30 [a,S 29,b,d]) 11 [S 29,d]) 34 [S 29,S 8,e]) 13 [f]) 37 [S 8]) 14 [S 8]) λh T=>gX 2 h (dP (T 8) (T 12) λi=>bK (T 29) (I 1) λj=>yN (q (q (q (q T 71 [T 8,T 12,i]) 8 [i]) 74 [j]) 29 [j])) yZ) (yE 0 (q S 30 [a]))
def B8:pD:=λc a b d=>aX a λe=>aN 4 e λf=>bV c 211 [f,d] λg=>aq g 0 λh=>aq g 1 λi=>aq g 2 λj=>az 3 e λk=>aB k λl=>bH 3 l d λm=>az 1 m λn=>aB n λo=>gQ o λp=>gL (pT c) (q (q (q (q (q (q (q (cG 0 [a,b,d] ai.blank) 3 [e]) 6 [.slice none 0 0,.slice none 0 0]) 16 [f,d,g]) 15 [g]) 19 [h,i,j]) 8 [h,i,j]) 22 [k,l,d,m,n,o,p,I 0]) λr S=>gX 0 r (yO [(S 7,none)]) yZ
def Fw{x0 x1 x2 W r}(h:B8 ba x0 x1 x2 W=some r):OG 192 #[] [x0,x1,x2] W r:=oM 76 h (by kernel_rfl)
def Da:dE:=λc a b=>aX a λd=>aG 46 λe=>aN 5 d λf=>bV c 188 [f,I 2] λg=>cy g (I 0) λh=>gI h (aY 46 [] λi=>aA 4 e i λj=>yO [(e,some 46),(g,none)]) (az 1 d λi=>aB i λj=>az 3 d λk=>aB k λl=>az 4 d λm=>aB m λn=>aY 46 [(0,b),(1,j),(2,l),(3,n)] λo=>aA 4 e o λp=>yO [(e,some 46),(I 0,none)])
def HM{x0 x1 W r}(h:Da ba x0 x1 W=some r):OG 195 #[] [x0,x1] W r:=oM 21 h (by kernel_rfl)
def yd:fI:=λc a=>aX a λb=>az 3 b λd=>aB d λe=>az 4 b λf=>aB f λg=>az 0 b λh=>az 2 h λi=>aB i λj=>bV c 209 [e] λk=>gA (λW=>kA true (bz i W) j&&(kA true (bz f W) g&&true)) (bV c 209 [g] λl=>gA (λW=>kA true (bz i W) j&&true) (dP k l λm=>bV c 209 [j] λn=>iP m n λo=>yO [(o,none)]))
def CL{x0 W r}(h:yd ba x0 W=some r):OG 208 #[] [x0] W r:=oM 15 h (by kernel_rfl)
def zi:fI:=λc a=>bY a (I 1) λb=>gI b (yO [(I 1,none)]) (yO [(I 0,none)])
def C8{x0 W r}(h:zi ba x0 W=some r):OG 209 #[] [x0] W r:=oM 5 h (by kernel_rfl)
def qg:dE:=λc a b=>aX a λd=>aX b λe=>gB (uj (.func 220) #[] #[d,e]) λf=>yO [(f,none)]
def Bv{x0 x1 W r}(h:qg ba x0 x1 W=some r):OG 210 #[] [x0,x1] W r:=oM 6 h (by kernel_rfl)
def iM:cU:=λc S=>bQ (S 19) (S 18) λa=>gI a (aN 3 (S 5) λb=>az 2 (S 5) λd=>aB d λe=>aB (S 2) λf=>iP e f λg=>iP g (S 19) λh=>aY 240 [(0,b),(1,S 19),(2,h)] λi=>gB (c (S 0) [i]) λj=>eJ .not j λk=>let T:=q (q (q S 20 [a,S 19]) 6 [S 19]) 22 [S 0,b,S 19,d,e,f,g,S 19,h,i,j,k];gI k (yR T) (bK (S 19) (I 1) λl=>yN (q (q T 34 [l]) 19 [l]))) (yE 2 (q S 20 [a]))
def kD:cU:=λc S=>bQ (S 9) (S 8) λa=>gI a (bH 3 (S 7) (S 9) λb=>aN 3 b λd=>aG 222 λe=>aA 3 e d λf=>az 2 e λg=>aB g λh=>aB (S 2) λi=>iP h i λj=>bK j (I 1) λk=>gB (aoa k (I 0)) λl=>gL (iM c) (q (q (q S 10 [a,b,d]) 5 [e]) 13 [g,h,i,j,k,l,I 0]) λm T=>gX 2 m (bK (T 9) (I 1) λn=>yN (q (q T 35 [n]) 9 [n])) (gR m (yR T))) (yE 0 (q S 10 [a]))
def nC:pD:=λc a b d=>aB b λe=>gB (adB e) λf=>gL (kD c) (q (cG 0 [a,b,d] ai.blank) 7 [e,f,I 0]) λg S=>gX 0 g (yO []) (gR g (yO []))
def yI{x0 x1 x2 W r}(h:nC ba x0 x1 x2 W=some r):OG 220 #[x1,x2] [x0] W r:=oM 36 h (by kernel_rfl)
end Go.Proofs.YtmaoneengdafhaaGreatDoor
