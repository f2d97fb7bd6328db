/- A part: contracts and laws. -/
import Derived.Test.YtmaoneengdafhaaGreatDoorPartD
set_option linter.unusedVariables false
set_option linter.unusedSimpArgs false
set_option linter.unusedSectionVars false
set_option linter.defProp false
noncomputable section
open Go renaming TypeId->af,Value->ad,undef->aj
set_option maxRecDepth 100000
namespace Go.Proofs.YtmaoneengdafhaaGreatDoor
open Go Go.Eng
structure Lr where
 a:Int
 b:Int
 c:Int
 d:Int
def ti0:Lr:=⟨0,0,0,0⟩
abbrev tiC(t:Lr):List ad:=[.int .u32 t.a,.int .u32 t.b,.int .u64 t.c,.int .u64 t.d]
abbrev SL(t:Lr):ad:=.agg #[.int .u32 t.a,.int .u32 t.b,.int .u64 t.c,.int .u64 t.d]
def JC(W:AW):dm Tryz.prog 46 W=some (.pointer (some ⟨W.next,0,none⟩),W.add (.cells (tiC ti0))):=aS (by kernel_rfl) rfl
def aii(a b c d:Int)(W:AW):dU Tryz.prog 46 [(0,.int .u32 a),(1,.int .u32 b),(2,.int .u64 c),(3,.int .u64 d)] W=some (SL ⟨a,b,c,d⟩,W):=aS (by kernel_rfl) rfl
def acP(W:AW):dU Tryz.prog 46 [] W=some (SL ti0,W):=aS (by kernel_rfl) rfl
def Xp(x:ad)(W:AW):jx Tryz.prog 46 x W=dJ 4 x W:=by kernel_rfl
def asC:Tryz.prog.eqGuardType Tryz.prog.depth 46=false:=by kernel_rfl
def awG(a b c d a' b' c' d':Int):NC Tryz.prog 8 46 (.agg #[.int .u32 a,.int .u32 b,.int .u64 c,.int .u64 d]) (.agg #[.int .u32 a',.int .u32 b',.int .u64 c',.int .u64 d'])=yl [(a,a'),(b,b'),(c,c'),(d,d')]:=by kernel_rfl
def aon(a b c d a' b' c' d':Int)(k l:Bool)(W:AW):bO Tryz.prog .neq 46 k l (.agg #[.int .u32 a,.int .u32 b,.int .u64 c,.int .u64 d]) (.agg #[.int .u32 a',.int .u32 b',.int .u64 c',.int .u64 d']) W=some (.bool (!(decide (a=a')&&(decide (b=b')&&(decide (c=c')&&decide (d=d'))))),W):=by refine sA asC ((awG ..).trans ?_);rw[tS];simp only[dC,xy,mZ];rfl
def P2(x:fx)(n:Int):Lr:=if wj x 2=0 then⟨n,x.ow,x.se,x.ep⟩else ti0
def Ar(x:fx)(n:Int)(W:AW):ba (.func (.func 195) #[] #[]) [iZ x,.int .u32 n] W=some (.tuple #[SL (P2 x n),.ae (wj x 2)],W):=by
 refine aP rfl ?_ HM;unfold Da P2;by_cases c:wj x 2=0
 ·simp(maxDischargeDepth:=9) only[SX,MX,HX,Nat.reduceAdd,JC,fc,c,aii,bC,Xp]
 ·simp(maxDischargeDepth:=9) only[SX,MX,HX,Nat.reduceAdd,JC,fc,aL c,acP,bC,Xp,ap c]
def Ci(x:fx)(t:Lr):Int:=if wj x 2=0 then bif decide (x.ow=t.b)&&(decide (x.se=t.c)&&decide (x.ep=t.d))then 0 else 16 else wj x 2
def tR(x:fx)(t:Lr)(W:AW):ba (.func (.func 161) #[] #[]) [iZ x,SL t] W=some (.ae (Ci x t),W):=by
 refine aP rfl ?_ JA;unfold Hi Ci;by_cases c:wj x 2=0
 ·have e:P2 x t.a=⟨t.a,x.ow,x.se,x.ep⟩:=an c;cases d:(decide (x.ow=t.b)&&(decide (x.se=t.c)&&decide (x.ep=t.d)))<;>simp(maxDischargeDepth:=9) only[SX,MX,HX,Nat.reduceAdd,Nat.reduceEqDiff,JC,Ar,e,c,aon,d,eU,gw]
 ·have e:P2 x t.a=ti0:=ap c;simp(maxDischargeDepth:=9) only[SX,MX,HX,Nat.reduceAdd,Nat.reduceEqDiff,JC,Ar,e,aL c,ap c]
def Ov(x:fx)(n:Int)(W:AW):ba (.func (.func 79) #[] #[]) [iZ x,.int .u32 n] W=some (.tuple #[SL (P2 x n),.ae (wj x 2)],W):=by
 refine aP rfl ?_ HP;unfold Dn P2;by_cases c:wj x 2=0
 ·simp(maxDischargeDepth:=9) only[SX,MX,HX,Nat.reduceAdd,JC,jy,c,aii,bC,Xp]
 ·simp(maxDischargeDepth:=9) only[SX,MX,HX,Nat.reduceAdd,JC,jy,aL c,acP,bC,Xp,ap c]
def nZ(x:fx)(t:Lr)(W:AW):ba (.func (.func 78) #[] #[]) [iZ x,SL t] W=some (.ae (Ci x t),W):=by
 refine aP rfl ?_ KD;unfold Hf Ci;rw[decide_eq_decide.2 (@eq_comm _ x.ow t.b),decide_eq_decide.2 (@eq_comm _ x.se t.c),decide_eq_decide.2 (@eq_comm _ x.ep t.d)];by_cases c:wj x 2=0
 ·cases d1:decide (t.b=x.ow)<;>cases d2:decide (t.c=x.se)<;>cases d3:decide (t.d=x.ep)<;>simp(maxDischargeDepth:=9) only[SX,MX,HX,Nat.reduceAdd,jy,c,d1,d2,d3,eU,gw]
 ·simp(maxDischargeDepth:=9) only[SX,MX,HX,Nat.reduceAdd,jy,aL c,ap c]
def Yh(x:fx)(t:Lr):Int:=if Ci x t=0 then HV x else Ci x t
def Y2(x:fx)(t:Lr)(o:Int):fx:=if Ci x t=0 then EX x o else x
def Mg(x:fx)(t:Lr)(o:Int)(W:AW):ba (.func (.func 158) #[] #[]) [iZ x,SL t,.int .u32 o] W=some (.tuple #[iZ (Y2 x t o),.ae (Yh x t)],W):=by
 refine aP rfl ?_ Db;unfold Ai Y2 Yh;by_cases c:Ci x t=0
 ·simp(maxDischargeDepth:=9) only[SX,MX,HX,Nat.reduceAdd,Nat.reduceEqDiff,qd,tR,RO,c,bC,iQ]
 ·simp(maxDischargeDepth:=9) only[SX,MX,HX,Nat.reduceAdd,Nat.reduceEqDiff,qd,tR,aL c,bC,iQ,ap c]
def agX{x:fx}(h:wj x 2=0):x.st=2/\x.dl=0:=by
 unfold wj DE at h;repeat' split at h
 all_goals first|omega|exact⟨by omega,by omega⟩
def afn{x:fx}{t:Lr}(h:Ci x t=0):x.st=2/\x.dl=0:=by
 unfold Ci at h;split at h
 ·exact agX ‹_›
 ·omega
def JY(x:fx)(t:Lr)(o:Int)(W:AW):ba (.func (.func 75) #[] #[]) [iZ x,SL t,.int .u32 o] W=some (.tuple #[iZ (Y2 x t o),.ae (Yh x t)],W):=by
 refine aP rfl ?_ Ew;unfold Ab oY Y2 Yh EX HV;by_cases c:Ci x t=0
 ·obtain⟨h1,h2⟩:=afn c;by_cases k:x.se=18446744073709551615
  ·have k2:=aK k;simp(maxDischargeDepth:=9) only[SX,MX,HX,Nat.reduceAdd,Nat.reduceEqDiff,qd,nZ,c,k2,bC,iQ,an k,Int.reduceEq]
  ·have k2:=aL k;simp(maxDischargeDepth:=9) only[SX,MX,HX,Nat.reduceAdd,Nat.reduceEqDiff,Nat.reduceLT,qd,nZ,c,k2,TZ,bC,iQ,ap k];rw[h1,h2]
 ·simp(maxDischargeDepth:=9) only[SX,MX,HX,Nat.reduceAdd,Nat.reduceEqDiff,qd,nZ,aL c,bC,iQ,ap c]
def rfS(x:fx)(t:Lr):fx:=if Ci x t=0 then mM x else x
def QC(x:fx)(t:Lr)(W:AW):ba (.func (.func 159) #[] #[]) [iZ x,SL t] W=some (.tuple #[iZ (rfS x t),.ae (Ci x t)],W):=by
 refine aP rfl ?_ HK;unfold Dj rfS;by_cases c:Ci x t=0
 ·simp(maxDischargeDepth:=9) only[SX,MX,HX,Nat.reduceAdd,Nat.reduceEqDiff,qd,tR,AY,c,bC,iQ]
 ·simp(maxDischargeDepth:=9) only[SX,MX,HX,Nat.reduceAdd,Nat.reduceEqDiff,qd,tR,aL c,bC,iQ,ap c]
def Pn(x:fx)(t:Lr)(W:AW):ba (.func (.func 76) #[] #[]) [iZ x,SL t] W=some (.tuple #[iZ (rfS x t),.ae (Ci x t)],W):=by
 refine aP rfl ?_ HG;unfold Dw rfS;by_cases c:Ci x t=0
 ·simp(maxDischargeDepth:=9) only[SX,MX,HX,Nat.reduceAdd,Nat.reduceEqDiff,qd,nZ,xd,c,bC,iQ]
 ·simp(maxDischargeDepth:=9) only[SX,MX,HX,Nat.reduceAdd,Nat.reduceEqDiff,qd,nZ,aL c,bC,iQ,ap c]
def Zu(x:fx):Int:=if wj x 2=0 then(if x.ep=18446744073709551615 then 17 else 0)else wj x 2
def rvS(x:fx):fx:=if wj x 2=0 then(if x.ep=18446744073709551615 then x else⟨0,0,0,x.se,IntKind.u64.wrap (x.ep+1)⟩)else x
def ahz(a b c d e:Int)(W:AW):ba (.func (.func 194) #[] #[]) [.agg #[.ae a,.int .u32 b,.ae c,.int .u64 d,.int .u64 e]] W=some (iZ ⟨0,0,0,d,e⟩,W):=AY ⟨a,b,c,d,e⟩ W
def Qw(x:fx)(W:AW):ba (.func (.func 160) #[] #[]) [iZ x] W=some (.tuple #[iZ (rvS x),.ae (Zu x)],W):=by
 refine aP rfl ?_ Hy;unfold C4 rvS Zu;by_cases c:wj x 2=0
 ·by_cases k:x.ep=18446744073709551615
  ·have k2:=aK k;simp(maxDischargeDepth:=9) only[SX,MX,HX,Nat.reduceAdd,qd,fc,c,k2,bC,iQ,an k]
  ·have k2:=aL k;simp(maxDischargeDepth:=9) only[SX,MX,HX,Nat.reduceAdd,Nat.reduceLT,qd,fc,c,k2,TZ,ahz,bC,iQ,ap k]
 ·simp(maxDischargeDepth:=9) only[SX,MX,HX,Nat.reduceAdd,qd,fc,aL c,bC,iQ,ap c]
def acs(a b c d e:Int)(W:AW):ba (.func (.func 106) #[] #[]) [.agg #[.ae a,.int .u32 b,.ae c,.int .u64 d,.int .u64 e]] W=some (iZ ⟨0,0,0,d,e⟩,W):=xd ⟨a,b,c,d,e⟩ W
def N8(x:fx)(W:AW):ba (.func (.func 77) #[] #[]) [iZ x] W=some (.tuple #[iZ (rvS x),.ae (Zu x)],W):=by
 refine aP rfl ?_ HL;unfold Ey rA rvS Zu;by_cases c:wj x 2=0
 ·by_cases k:x.ep=18446744073709551615
  ·have k2:=aK k;simp(maxDischargeDepth:=9) only[SX,MX,HX,Nat.reduceAdd,qd,jy,c,k2,bC,iQ,an k,Int.reduceEq]
  ·have k2:=aL k;simp(maxDischargeDepth:=9) only[SX,MX,HX,Nat.reduceAdd,Nat.reduceLT,qd,jy,c,k2,TZ,acs,bC,iQ,ap k]
 ·simp(maxDischargeDepth:=9) only[SX,MX,HX,Nat.reduceAdd,qd,jy,aL c,bC,iQ,ap c]
def NU(x:fx)(t:Int):Int:=if Im x t=0 then wj x 0 else Im x t
def ML(x:fx)(o t:Int):fx:=if NU x t=0 then⟨1,o,t,x.se,x.ep⟩else x
def aqG(W:AW)(B:Nat)(a b:Int)(h:aH W B=some [.ae a,.ae b])(hB:B<W.next):ba (.func (.func 186) #[] #[]) [.slice (some ⟨B,0,none⟩) 2 2] W=some (.ae (if a=0 then b else a),W):=
 ad3 ⟨_,_,rfl,.inr ⟨B,0,_,rfl,hB,h,λi hi=>by rcases(show i=0\/i=1 by simp at hi;omega)with rfl|rfl<;>rfl⟩⟩
def Bm(x:fx)(o t:Int)(W:AW):ba (.func (.func 152) #[] #[]) [iZ x,.int .u32 o,.ae t] W=some (.tuple #[iZ (ML x o t),.ae (NU x t)],W):=by
 refine aP rfl ?_ LN;unfold Jt ML;have h:=aqG (((W.add (.cells (dK x))).add (.cells (dK CO))).add (.cells [.ae (Im x t),.ae (wj x 0)])) (W.next+2) (Im x t) (wj x 0) (bF) (by simp only[AW.av];omega);rw[show(if Im x t=0 then wj x 0 else Im x t)=NU x t from rfl]at h;by_cases c:NU x t=0
 ·simp(maxDischargeDepth:=9) only[SX,MX,HX,Nat.reduceAdd,Nat.reduceEqDiff,Nat.reduceLT,qd,sO,fc,qX,MF,h,c,bC,iQ]
 ·simp(maxDischargeDepth:=9) only[SX,MX,HX,Nat.reduceAdd,Nat.reduceEqDiff,Nat.reduceLT,qd,sO,fc,qX,MF,h,aL c,bC,iQ,ap c]
def Cv(x:fx)(o t:Int)(W:AW):ba (.func (.func 72) #[] #[]) [iZ x,.int .u32 o,.ae t] W=some (.tuple #[iZ (ML x o t),.ae (NU x t)],W):=by
 refine aP rfl ?_ Lw;unfold KO vH vL ML NU Im;by_cases c:DE x=0
 ·by_cases k:t<0
  ·have k2:=aK k;simp(maxDischargeDepth:=9) only[SX,MX,HX,Nat.reduceAdd,Nat.reduceLT,qd,iJ,c,k2,an k,bC,iQ,Int.reduceEq]
  ·have k2:=aL k;by_cases i:wj x 0=0
   ·simp(maxDischargeDepth:=9) only[SX,MX,HX,Nat.reduceAdd,Nat.reduceLT,qd,iJ,c,k2,ap k,jy,i,bC,iQ]
   ·simp(maxDischargeDepth:=9) only[SX,MX,HX,Nat.reduceAdd,Nat.reduceLT,qd,iJ,c,k2,ap k,jy,aL i,ap i,bC,iQ]
 ·simp(maxDischargeDepth:=9) only[SX,MX,HX,Nat.reduceAdd,Nat.reduceLT,qd,iJ,aL c,bC,iQ,ap c]
def dY(a b:Int):Int:=if a<0\/b<0 then 0 else min (a+b) 9223372036854775807
def acJ(n:Int)(W:AW):tY Tryz.prog 2 44 (.ae n) W=some (.int .u64 (IntKind.u64.wrap n),W):=aS (by kernel_rfl) rfl
def ajx(n:Int)(W:AW):tY Tryz.prog 44 2 (.int .u64 n) W=some (.ae (IntKind.i64.wrap n),W):=aS (by kernel_rfl) rfl
def anX(n:Int)(c d:Bool)(W:AW):bO Tryz.prog .shr 44 c d (.int .u64 n) (.int .u64 63) W=some (.int .u64 (n.fdiv 9223372036854775808),W):=by refine sC (by simp[rP,Gn]) rfl rfl rfl ?_;simp[eqGuard,binOp,Op.shift];rfl
def Dq{n:Int}(h1:0<=n)(h2:n<18446744073709551616):IntKind.u64.wrap n=n:=by unfold IntKind.wrap;simp only[IntKind.bits,IntKind.signed];simp;omega
def amA{a b:Int}(ha:a<9223372036854775808)(hb:b<9223372036854775808)(W:AW):ba (.func (.func 185) #[] #[]) [.ae a,.ae b] W=some (.tuple #[.ae (dY a b),.ae (if a<0\/b<0 then 7 else 0)],W):=by
 refine aP rfl ?_ NQ;unfold M4 dY;have hI:gG (W.add (.cells [.ae a,.ae b])) (.slice (some ⟨W.next,0,none⟩) 2 2) [a,b]:=Sc [a,b] 2 W;have hm:=Ho.SO hI;by_cases c:a<0\/b<0
 ·rw[aK (show min a b<0 by omega)]at hm;simp(maxDischargeDepth:=9) only[SX,MX,HX,Ho.af6,hm,an c]
 ·rw[aL (show¬min a b<0 by omega)]at hm;have w1:=Dq (n:=a) (by omega) (by omega);have w2:=Dq (n:=b) (by omega) (by omega);have w3:=Dq (n:=a+b) (by omega) (by omega);by_cases k:a+b<9223372036854775808
  ·have k2:decide ((a+b).fdiv 9223372036854775808=0)=true:=aK (by rw[OK _ (by omega)];omega);have w4:=wm (n:=a+b) (by omega) (by omega);simp(maxDischargeDepth:=9) only[SX,MX,HX,Ho.af6,hm,acJ,w1,w2,TZ,w3,anX,k2,ajx,w4,ap c,Int.min_eq_left (show a+b<=9223372036854775807 by omega)]
  ·have k2:decide ((a+b).fdiv 9223372036854775808=0)=false:=aL (by rw[OK _ (by omega)];omega);simp(maxDischargeDepth:=9) only[SX,MX,HX,Ho.af6,hm,acJ,w1,w2,TZ,w3,anX,k2,ap c,Int.min_eq_right (show 9223372036854775807<=a+b by omega)]
def Pv(a b:Int)(W:AW):ba (.func (.func 104) #[] #[]) [.ae a,.ae b] W=some (.ae (if a<0\/b<0 then 7 else 0),W):=by
 refine aP rfl ?_ B7;unfold Cz;by_cases c:a<0
 ·have c2:=aK c;simp(maxDischargeDepth:=9) only[SX,MX,HX,c2,an (Or.inl c)]
 ·have c2:=aL c;by_cases k:b<0
  ·have k2:=aK k;simp(maxDischargeDepth:=9) only[SX,MX,HX,c2,k2,an (Or.inr k)]
  ·have k2:=aL k;simp(maxDischargeDepth:=9) only[SX,MX,HX,c2,k2,ap (show¬(a<0\/b<0)by omega)]
def Yl{a b:Int}(ha:a<9223372036854775808)(hb:b<9223372036854775808)(W:AW):ba (.func (.func 67) #[] #[]) [.ae a,.ae b] W=some (.tuple #[.ae (dY a b),.ae (if a<0\/b<0 then 7 else 0)],W):=by
 refine aP rfl ?_ OD;unfold MA dY;by_cases c:a<0\/b<0
 ·simp(maxDischargeDepth:=9) only[SX,MX,HX,Pv,an c,Int.reduceEq]
 ·have s1:=λW'=>tJ (P:=Tryz.prog) (W:=W') (t:=2) (c:=true) (d:=false) (a:=9223372036854775807) (b:=b) (by omega) (by omega)
  by_cases k:9223372036854775807-b<a
  ·have k2:=aK k;simp(maxDischargeDepth:=9) only[SX,MX,HX,Pv,ap c,s1,k2,Int.min_eq_right (show 9223372036854775807<=a+b by omega)]
  ·have k2:=aL k;have s2:=λW'=>kU (P:=Tryz.prog) (W:=W') (t:=2) (c:=false) (d:=false) (a:=a) (b:=b) (by omega) (by omega)
   simp(maxDischargeDepth:=9) only[SX,MX,HX,Pv,ap c,s1,s2,k2,Int.min_eq_left (show a+b<=9223372036854775807 by omega)]
def Fs{α:Type}{W:AW}{z:Nat}{f:α->List ad}(hf:∀a,(f a).length=z){v:ad}{l:List α}(h:Rd W z f v l):Row W z (vl z f) v l:=by
 obtain⟨a,c,rfl,h⟩:=h;refine⟨a,c,rfl,?_⟩;rcases h with h|⟨b,o,cs,h1,h2,h3,h4⟩
 ·exact .inl h
 ·refine .inr ⟨b,o,cs,h1,h2,h3,λi hi=>?_⟩;unfold vl;have e0:l.flatMap f=(l.take i).flatMap f++(f l[i]++(l.drop (i+1)).flatMap f):=by rw[<-fy,<-rC hi,<-iS,vu]
  have e1:((l.take i).flatMap f).length=i*z:=by rw[bZ hf,cX,pg (by omega)]
  have e2:(((cs.drop o).take (l.length*z)).drop (i*z)).take z=f l[i]:=by rw[h4,e0,<-e1,xx,<-hf l[i],xN]
  have e3:i*z+z<=l.length*z:=by rw[<-Nat.succ_mul];exact mB z hi
  rw[List.drop_take,xu,List.take_take,pg (by omega)]at e2;exact e2
def ni(x:fx):(dK x).length=5:=rfl
def VX(x:fx):(dK x).all Eng.one=true:=rfl
def qQ(n:Int):List ad:=[.int .u32 n]
def iA(n:Int):(qQ n).length=1:=rfl
def pr(n:Int):(qQ n).all Eng.one=true:=rfl
def oy(l:List Int):l.flatMap qQ=l.map (Value.int .u32):=by
 induction l with
 |nil=>rfl
 |cons a l ih=>rw[fy,ih];rfl
abbrev PL(W:AW)(v:ad)(l:List fx):Prop:=Rd W 5 dK v l
abbrev PH(W:AW)(v:ad)(l:List Int):Prop:=Rd W 1 qQ v l
def aoE:kZ Tryz.prog #[31,31] 5 40=true:=by kernel_rfl
def BQ:kZ Tryz.prog #[88,88] 1 4=true:=by kernel_rfl
def aeg(W:AW):cJ Tryz.prog 31 0 [] W=some (.slice (some ⟨W.next,0,none⟩) 0 0,W.add (.cells [])):=aS (by kernel_rfl) rfl
def D8(W:AW):cJ Tryz.prog 88 0 [] W=some (.slice (some ⟨W.next,0,none⟩) 0 0,W.add (.cells [])):=aS (by kernel_rfl) rfl
def u25:Tryz.prog.underlying 31=some (.slice 87):=by kernel_rfl
def alr:Tryz.prog.underlying 88=some (.slice 43):=by kernel_rfl
def uS:((#[31]:Array af)[0]?).bind Tryz.prog.underlying=some (.slice 87):=by kernel_rfl
def ph:((#[88]:Array af)[0]?).bind Tryz.prog.underlying=some (.slice 43):=by kernel_rfl
def Xi{t e:af}(hu:Tryz.prog.underlying t=some (.slice e))(a:Option Addr)(c d:Bool)(l k:Nat)(W:AW):bO Tryz.prog .eql t c d (.slice a l k) (.slice none 0 0) W=some (.bool a.isNone,W):=by
 cases a with
 |none=>unfold bO rP pB;simp only[hu,Option.isNone_none]
 |some a=>unfold bO rP pB;simp only[hu,Option.isNone_some]
def zB{α:Type}{t:af}{z bytes:Nat}{f:α->List ad}(hk:kZ Tryz.prog #[t,t] z bytes=true)(hf:∀a,(f a).length=z)(h1:∀a,(f a).all Eng.one=true){W:AW}{v:ad}{l:List α}(h:Rd W z f v l)
 (hb:l.length<1099511627776)(lF:(2*l.length+192)*bytes<=281474976710656):
 ∃u W',dn Tryz.prog (W.add (.cells [])) #[t,t] (.slice (some ⟨W.next,0,none⟩) 0 0) v=some (u,W')/\Le W W'/\EL W.next W' z f u l:=by
 have hE:EL W.next (W.add (.cells [])) z f (.slice (some ⟨W.next,0,none⟩) 0 0) []:=EL.aqv _ _ _ _ _;obtain⟨u,W',k1,k2,k3,k4⟩:=hE.app hk hf h1 (h.keep ((Le.refl W).add (.cells []))) (by simpa using hb) (by simpa using lF) (by rw[AW.av];omega);rw[jF]at k2;exact⟨u,W',k1,⟨by rw[AW.av]at k3;omega,λb hb=>(k4 b hb).trans (AW.aE _ _ (by omega))⟩,k2⟩
def adX{α:Type}{z:Nat}{f:α->List ad}{W:AW}{l:List α}{n c:Nat}(h:Rd W z f (.slice none n c) l):l=[]:=by
 obtain⟨a,c',e,h⟩:=h;injection e with e1 e2 e3;rcases h with h|⟨b,o,cs,e,-⟩
 ·exact h
 ·rw[<-e1]at e;cases e
def jk{α:Type}{z:Nat}{f:α->List ad}{W:AW}{v:ad}{l:List α}(h:Rd W z f v l){ts:Array af}{e:af}(ht:(ts[0]?).bind Tryz.prog.underlying=some (.slice e))(W':AW)(ty:af)(cf:Array Bool):aV Tryz.prog .len ts ty cf [v] W'=some (.ae (l.length:Int),W'):=by obtain⟨a,c,rfl,-⟩:=h;exact dg ht _ _ _
def PH.get{W:AW}{v:ad}{l:List Int}(h:PH W v l){i:Nat}(hi:i<l.length):∃b o,(∀W' k,pc 1 v (.int k (i:Int)) W'=some (.pointer (some ⟨b,o,none⟩),W'))/\b<W.next/\∀W',W'.get b=W.get b->bz (.pointer (some ⟨b,o,none⟩)) W'=some (.int .u32 l[i],W'):=by obtain⟨b,o,cs,h1,h2,h3,h4⟩:=(Fs iA h).elem hi;exact⟨b,o,h1,h2,λW' hg=>aO (by unfold aH at h3|-;rw[hg];exact h3) ((gf h4 (j:=0) (by omega)).trans rfl)⟩
def PL.get{W:AW}{v:ad}{l:List fx}(h:PL W v l){i:Nat}(hi:i<l.length):∃b o,(∀W' k,pc 5 v (.int k (i:Int)) W'=some (.pointer (some ⟨b,o,none⟩),W'))/\b<W.next/\∀W',W'.get b=W.get b->dJ 5 (.pointer (some ⟨b,o,none⟩)) W'=some (iZ l[i],W'):=by
 obtain⟨b,o,cs,h1,h2,h3,h4⟩:=(Fs ni h).elem hi;refine⟨b,o,h1,h2,λW' hg=>?_⟩;have hc:aH W' b=some cs:=by unfold aH at h3|-;rw[hg];exact h3
 have e0:(cs.drop o).take 5=dK l[i]:=h4;have:=bB (n:=5) (o:=o) hc (by rw[e0];rfl);rw[e0]at this;exact this
def Qg{W:AW}{v:ad}{l:List Int}(h:PH W v l)(hl:l.length<=10000)(x:Int):ba (.func (.func 163) #[] #[]) [v,.int .u32 x] W=some (.ae (nl (λy=>decide (x=y)) l),W):=by
 refine aP rfl ?_ sd;unfold mP;simp only[SX,jk h ph];refine bh l.length (by omega) (λk R W'=>W'=W/\R 0=v/\R 1=.int .u32 x/\R 7=.ae (l.length:Int)/\R 8=.ae (k:Int)/\(l.take k).any (λy=>decide (x=y))=false)
  (λr=>r.2.2=W/\((r.1=.exit 0/\nl (λy=>decide (x=y)) l= -1)\/(r.1=.ret/\r.2.1 4=.ae (nl (λy=>decide (x=y)) l)))) ⟨rfl,rfl,rfl,rfl,rfl,rfl⟩ ?_ ?_ ?_
 ·rintro k R W' hk ⟨rfl,h0,h1,h7,h8,ha⟩;unfold gD;obtain⟨b,o,g1,-,g2⟩:=h.get hk;have e1:((k:Int)<(l.length:Int)):=by omega
  have e2:(k:Int)+1=((k+1:Nat):Int):=by omega
  have ea:=bm W' k 1;simp only[SX,h0,h1,h7,h8,e1,g1,g2 _ rfl];cases hx:decide (x=l[k])
  ·simp only[SX,ea,ah];exact .inl ⟨ak,ak,h0,h1,h7,by rw[<-e2];rfl,rm hk hx ha⟩
  ·simp only[SX,ah];exact .inr ⟨by simp,ak,.inr ⟨ak,by rw[ws hk hx ha];rfl⟩⟩
 ·rintro R W' ⟨rfl,h0,h1,h7,h8,ha⟩;unfold gD;have e1:¬((l.length:Int)<(l.length:Int)):=by omega
  rw[cM]at ha;simp only[SX,h7,h8,e1,ah];exact⟨by simp,ak,.inl ⟨ak,wC ha⟩⟩
 ·rintro⟨y,R,W'⟩ ⟨hW,hq⟩;simp only at hW hq;subst hW;rcases hq with⟨rfl,hq⟩|⟨rfl,h4⟩
  ·simp(maxDischargeDepth:=9) only[SX,MX,HX,hq]
  ·simp(maxDischargeDepth:=9) only[SX,MX,HX,h4]
def Hq{W:AW}{v:ad}{l:List Int}(h:PH W v l)(hl:l.length<=10000)(x:Int):ba (.func (.func 162) #[] #[]) [v,.int .u32 x] W=some (.bool (l.any λy=>decide (x=y)),W):=by refine aP rfl ?_ pN;unfold kG;simp(maxDischargeDepth:=9) only[SX,MX,HX,Qg h hl,zm]
section
variable {α:Type} {z:Nat} {f:α->List ad}
def IV(hf:∀a,(f a).length=z){xs:List α}{j:Nat}{x:α}(h:xs[j]? =some x):xs.flatMap f=(xs.take j).flatMap f++(f x++(xs.drop (j+1)).flatMap f)/\((xs.take j).flatMap f).length=j*z:=by obtain⟨hi,e⟩:=dh.1 h;refine⟨?_,by rw[bZ hf,cX,pg (by omega)]⟩;rw[<-e,<-fy,<-rC hi,<-iS,vu]
def E4(hf:∀a,(f a).length=z){xs:List α}{j:Nat}{x:α}(h:xs[j]? =some x):((xs.flatMap f).drop (j*z)).take z=f x:=by obtain⟨e1,e2⟩:=IV hf h;rw[e1,<-e2,xx,<-hf x,xN]
def acg(hf:∀a,(f a).length=z){xs:List α}{j:Nat}{x:α}(h:xs[j]? =some x)(y:α):iG (xs.flatMap f) (j*z) (f y)=(xs.set j y).flatMap f:=by obtain⟨e1,e2⟩:=IV hf h;obtain⟨hi,-⟩:=dh.1 h;have e3:xs.set j y=xs.take j++y::xs.drop (j+1):=Ie.trans (an hi);unfold iG;rw[e3,iS,fy,e1,<-e2,xN,hf y,<-hf x,<-xu,xx,xx,iR]
end
def AB{W V:AW}{v:ad}{Q:AW->Prop}(hq:Q V)(hb:Le W V->Q W):∃W',gc W (v,V)=(v,W')/\Q W':=by
 unfold gc;split
 ·rename_i h;exact⟨W,rfl,hb h.2⟩
 ·exact⟨V,rfl,hq⟩
structure cI where
 v:fo
 now:Int
 st:List fx
 qs:List (List Int)
abbrev AJ(o:jC):List ad:=[.ae o.k,.int .u32 o.ow,.ae o.un,.ae o.se,.ae o.sc,.ae o.n,.int .u32 o.to,.int .u32 o.t1,.int .u32 o.t2,.int .u64 o.t3,.int .u64 o.t4,.ae o.nw]
abbrev Pa(v:fo)(sv:ad)(now:Int)(sq qq:ad)(o:jC)(s:Int):List ad:=[.ae v.sh,.ae v.cT,.ae v.fm,sv,.ae now,sq,qq,
 .ae o.k,.int .u32 o.ow,.ae o.un,.ae o.se,.ae o.sc,.ae o.n,.int .u32 o.to,.int .u32 o.t1,.int .u32 o.t2,.int .u64 o.t3,.int .u64 o.t4,.ae o.nw,.ae s]
abbrev aZ(b:Nat):ad:=.pointer (some ⟨b,0,none⟩)
abbrev fL(b n:Nat):ad:=.slice (some ⟨b,0,none⟩) n (eG+5)
abbrev oh(b n:Nat):ad:=.slice (some ⟨b,0,none⟩) n n
def QA(W:AW)(u:ad)(l:List Int)(B:Nat):Prop:=(l=[]/\(u=.slice none 0 0\/∃a,u=.slice (some a) 0 0))\/∃o cs,u=.slice (some ⟨B,o,none⟩) l.length (eG+1)/\W.get B=some (.cells cs)/\(cs.drop o).take l.length=l.map (Value.int .u32)
def QA.keep{W W':AW}{u:ad}{l:List Int}{B:Nat}(h:QA W u l B)(hg:W'.get B=W.get B):QA W' u l B:=by
 rcases h with h|⟨o,cs,h1,h2,h3⟩
 ·exact .inl h
 ·exact .inr ⟨o,cs,h1,by rw[hg];exact h2,h3⟩
def QA.slice{W:AW}{u:ad}{l:List Int}{B:Nat}(h:QA W u l B):∃a c,u=.slice a l.length c:=by
 rcases h with⟨rfl,rfl|⟨a,rfl⟩⟩|⟨o,cs,h1,h2,h3⟩
 ·exact⟨_,_,rfl⟩
 ·exact⟨_,_,rfl⟩
 ·exact⟨_,_,h1⟩
def QsA(W:AW)(qb:Nat)(bq:Nat->Nat)(qs:List (List Int)):Prop:=∃qv,W.get qb=some (.cells qv)/\qv.length=qs.length/\∀k (h:k<qs.length),∃u,qv[k]? =some u/\QA W u qs[k] (bq k)
structure fA (W0 W:AW) (ob sb qb:Nat) (bq:Nat->Nat) (x:cI) (sv:ad) (o:jC) (s:Int):Prop where
 le:Le W0 W
 lo:W0.next<=ob/\W0.next<=sb/\W0.next<=qb
 hi:ob<W.next/\sb<W.next/\qb<W.next
 ne:ob≠sb/\ob≠qb/\sb≠qb
 nq:∀k,W0.next<=bq k/\bq k<W.next/\bq k≠ob/\bq k≠sb/\bq k≠qb
 sec:eW W0 sv x.v.ax
 go:W.get ob=some (.cells (Pa x.v sv x.now (fL sb x.st.length) (oh qb x.qs.length) o s))
 gs:W.get sb=some (.cells (x.st.flatMap dK))
 gq:QsA W qb bq x.qs
section
variable {W0 W W':AW} {ob sb qb:Nat} {bq:Nat->Nat} {x x':cI} {sv:ad} {o:jC} {s:Int}
def QsA.keep{qs:List (List Int)}(h:QsA W qb bq qs)(h1:W'.get qb=W.get qb)(h2:∀k,W'.get (bq k)=W.get (bq k)):QsA W' qb bq qs:=by obtain⟨qv,a,b,c⟩:=h;refine⟨qv,by rw[h1];exact a,b,λk hk=>?_⟩;obtain⟨u,c1,c2⟩:=c k hk;exact⟨u,c1,c2.keep (h2 k)⟩
def Fr(W W':AW)(sb qb:Nat):Prop:=W.next<=W'.next/\∀b,b<W.next->b≠sb->b≠qb->W'.get b=W.get b
def Fr.refl(W:AW)(sb qb:Nat):Fr W W sb qb:=⟨aQ _,λ_ _ _ _=>rfl⟩
def Fr.trans{A B C:AW}(h:Fr A B sb qb)(k:Fr B C sb qb):Fr A C sb qb:=⟨eS h.1 k.1,λb hb h1 h2=>(k.2 b (ff hb h.1) h1 h2).trans (h.2 b hb h1 h2)⟩
def Fr.of_le{A B:AW}(h:Le A B):Fr A B sb qb:=⟨h.next,λb hb _ _=>h.get b hb⟩
def fA.step(h:fA W0 W ob sb qb bq x sv o s)(hf:Fr W W' sb qb)(e1:x'.v=x.v)(e2:x'.now=x.now)(e3:x'.st.length=x.st.length)(e4:x'.qs.length=x.qs.length)
 (gs:W'.get sb=some (.cells (x'.st.flatMap dK)))(gq:QsA W' qb bq x'.qs):fA W0 W' ob sb qb bq x' sv o s where
 le:=⟨eS h.le.next hf.1,λb hb=>(hf.2 b (ff hb h.le.next) (by have:=h.lo;omega) (by have:=h.lo;omega)).trans (h.le.get b hb)⟩
 lo:=h.lo
 hi:=by have:=h.hi;have:=hf.1;omega
 ne:=h.ne
 nq:=λk=>by have:=h.nq k;have:=hf.1;omega
 sec:=by rw[e1];exact h.sec
 go:=by rw[hf.2 ob h.hi.1 h.ne.1 h.ne.2.1,e1,e2,e3,e4];exact h.go
 gs:=gs
 gq:=gq
def fA.mono(h:fA W0 W ob sb qb bq x sv o s)(aM:Le W W'):fA W0 W' ob sb qb bq x sv o s:=
 h.step (.of_le aM) rfl rfl rfl rfl (by rw[aM.get _ h.hi.2.1];exact h.gs) (h.gq.keep (aM.get _ h.hi.2.2) λk=>aM.get _ (h.nq k).2.1)
def fA.back(h:fA W0 W ob sb qb bq x sv o s)(h2:fA W0 W' ob sb qb bq x' sv o s)(aM:Le W W'):fA W0 W ob sb qb bq x' sv o s where
 le:=h.le
 lo:=h.lo
 hi:=h.hi
 ne:=h.ne
 nq:=h.nq
 sec:=h2.sec
 go:=by rw[<-aM.get _ h.hi.1];exact h2.go
 gs:=by rw[<-aM.get _ h.hi.2.1];exact h2.gs
 gq:=h2.gq.keep (aM.get _ h.hi.2.2).symm λk=>(aM.get _ (h.nq k).2.1).symm
def fA.other(h:fA W0 W ob sb qb bq x sv o s){b:Nat}{c:dI}(h1:W0.next<=b)(h2:b≠ob)(h3:b≠sb)(h4:b≠qb)(h5:∀k,b≠bq k):fA W0 (W.put b c) ob sb qb bq x sv o s where
 le:=h.le.put h1 _
 lo:=h.lo
 hi:=h.hi
 ne:=h.ne
 nq:=h.nq
 sec:=h.sec
 go:=by rw[AW.ay _ _ h2];exact h.go
 gs:=by rw[AW.ay _ _ h3];exact h.gs
 gq:=h.gq.keep (AW.ay _ _ h4) λk=>AW.ay _ _ (h5 k)
def fA.c(h:fA W0 W ob sb qb bq x sv o s):aH W ob=some (Pa x.v sv x.now (fL sb x.st.length) (oh qb x.qs.length) o (s:Int)):=ao h.go
def rJ{s n b:Nat}(hs:s<n)(W':AW):pc 5 (fL b n) (.ae (s:Int)) W'=some (.pointer (some ⟨b,s*5,none⟩),W'):=by have:=oq (z:=5) (b:=b) (o:=0) (c:=eG+5) (W:=W') (k:=.i64) hs;rwa [aJ]at this
def FC{l:List fx}{y:fx}{b s:Nat}{W:AW}(hb:W.get b=some (.cells (l.flatMap dK)))(h:l[s]? =some y):dJ 5 (.pointer (some ⟨b,s*5,none⟩)) W=some (iZ y,W):=by have e:=E4 ni h;have:=bB (W:=W) (n:=5) (o:=s*5) (ao hb) (by rw[e];rfl);rw[e]at this;exact this
def zI{l:List fx}{y z:fx}{b s:Nat}{W:AW}(hb:W.get b=some (.cells (l.flatMap dK)))(h:l[s]? =some y):eZ 5 (.pointer (some ⟨b,s*5,none⟩)) (iZ z) W=some (aj,W.put b (.cells ((l.set s z).flatMap dK))):=by
 have hl:s*5+5<=(l.flatMap dK).length:=by rw[bZ ni];have:=(dh.1 h).1;omega
 refine(CA (n:=5) (o:=s*5) (v:=iZ z) hb rfl hl rfl).trans ?_;rw[<-acg ni h z];rfl
def fA.ld(h:fA W0 W ob sb qb bq x sv o s){i:Nat}{u:ad}(hi:(Pa x.v sv x.now (fL sb x.st.length) (oh qb x.qs.length) o (s:Int))[i]? =some u):bz (.pointer (some ⟨ob,i,none⟩)) W=some (u,W):=aO h.c hi
def fA.l5(h:fA W0 W ob sb qb bq x sv o s):bz (.pointer (some ⟨ob,5,none⟩)) W=some (fL sb x.st.length,W):=h.ld rfl
def fA.l6(h:fA W0 W ob sb qb bq x sv o s):bz (.pointer (some ⟨ob,6,none⟩)) W=some (oh qb x.qs.length,W):=h.ld rfl
def fA.l19(h:fA W0 W ob sb qb bq x sv o s):bz (.pointer (some ⟨ob,19,none⟩)) W=some (.ae (s:Int),W):=h.ld rfl
def zC(h:fA W0 W ob sb qb bq x sv o s){more:Int}(h1:x.now<9223372036854775808)(h2:more<9223372036854775808):ba (.func (.func 150) #[] #[]) [aZ ob,.ae more] W=some (.ae (dY x.now more),W):=by refine aP rfl ?_ yF;unfold tw;simp(maxDischargeDepth:=9) only[SX,MX,HX,aR,h.c,amA h1 h2]
def Nu(x:cI)(s:Nat)(y:fx)(e:Int):cI:=if e=0 then{x with st:=x.st.set s y}else x
def FL{s:Nat}(h:fA W0 W ob sb qb bq x sv o s)(hs:s<x.st.length)(y:fx)(e:Int):∃W',ba (.func (.func 151) #[] #[]) [aZ ob,iZ y,.ae e] W=some (.ae e,W')/\fA W0 W' ob sb qb bq (Nu x s y e) sv o s/\Fr W W' sb qb:=by
 have hq:Ok (mE ba (aZ ob) (iZ y) (.ae e) W) λr=>r.1=.ae e/\fA W0 r.2 ob sb qb bq (Nu x s y e) sv o s/\Fr W r.2 sb qb:=by
  unfold mE Nu;have aM:Le W (W.add (.cells (dK y))):=(Le.refl W).add _;have h1:=h.mono aM;have g1:(W.add (.cells (dK y))).get W.next=some (.cells (dK y)):=AW.aI _ _;have n1:=AW.av W (.cells (dK y));simp only[SX];generalize W.add (.cells (dK y))=W1 at *;by_cases c:e=0
  ·have st:=zI (z:=y) h1.gs (bN hs);simp only[SX,c,aR,aJ,h1.l5,h1.l19,bS g1,rJ hs,st,bi,ah];have hf:Fr W (W1.put sb (.cells ((x.st.set s y).flatMap dK))) sb qb:=⟨by rw[AW.bG];omega,λb hb b1 b2=>by rw[AW.ay _ _ (bc b1)];exact aM.get b hb⟩;refine⟨ak,h.step (x':={x with st:=x.st.set s y}) hf rfl rfl (by simp) rfl (AW.aW _ _ _) (h.gq.keep ?_ λk=>?_),hf⟩
   ·exact(AW.ay _ _ h.ne.2.2).trans (aM.get _ h.hi.2.2)
   ·exact(AW.ay _ _ (bc (h.nq k).2.2.2.1)).trans (aM.get _ (h.nq k).2.1)
  ·have d:=aL c;simp only[SX,d,ap c,ah];exact⟨ak,h1,.of_le aM⟩
 obtain⟨⟨v,V⟩,k1,rfl,k2⟩:=hq;have hg:=xm k1;obtain⟨V2,e',q⟩:=AB (v:=.ae e) (Q:=λV=>fA W0 V ob sb qb bq (Nu x s y e) sv o s/\Fr W V sb qb) k2 λhp=>⟨h.back k2.1 hp,.refl _ _ _⟩
 exact⟨V2,by rw[hg,e'],q⟩
end
def tZ(v:fo)(s:Nat):Nat:=(dF v s).1.1
def mF(x:cI)(s:Nat)(a:Int):fx:=ML (x.st.getD s CO) a (dY x.now x.v.cT)
def lG(x:cI)(s:Nat):cI:=match x.qs[tZ x.v s]? with
 |some (a::t)=>{x with st:=x.st.set s (mF x s a),qs:=x.qs.set (tZ x.v s) t}
 |_=>x
def aow:oD Tryz.prog 43=some 1:=by kernel_rfl
def akE{B o n:Nat}(h:0<n)(W:AW):ft Tryz.prog 88 (.slice (some ⟨B,o,none⟩) n (eG+1)) (some (.ae 1)) none none W=some (.slice (some ⟨B,o+1,none⟩) (n-1) (eG+1),W):=by
 unfold ft nH;have e1:lY (.ae 1)=some 1:=rfl;have e2:((⟨B,o,none⟩:Addr).add (1*1))=⟨B,o+1,none⟩:=by rw[dH]
 simp only[alr,aow,fW,e1,an (show 1<=n by omega),uL,Nat.zero_lt_one,bi,aQ,e2]
def QA.tail{W:AW}{a:Int}{t:List Int}{B o:Nat}{cs:List ad}(h2:W.get B=some (.cells cs))(h3:(cs.drop o).take (a::t).length=(a::t).map (Value.int .u32)):QA W (.slice (some ⟨B,o+1,none⟩) ((a::t).length-1) (eG+1)) t B:=by rw[show(a::t).length-1=t.length from rfl];refine .inr ⟨o+1,cs,rfl,h2,?_⟩;have e:=gO (List.drop 1) h3;rw[List.drop_take,xu]at e;exact e
section
variable {W0 W W':AW} {ob sb qb:Nat} {bq:Nat->Nat} {x x':cI} {sv:ad} {o:jC} {s:Int}
def fA.l4(h:fA W0 W ob sb qb bq x sv o s):dJ 4 (.pointer (some ⟨ob,0,none⟩)) W=some (eQ x.v sv,W):=bB h.c rfl
def fA.l1(h:fA W0 W ob sb qb bq x sv o s):bz (.pointer (some ⟨ob,1,none⟩)) W=some (.ae x.v.cT,W):=h.ld rfl
def aam(W:AW):∃W1,dm Tryz.prog 177 W=some (.pointer (some ⟨W.next,0,none⟩),W1)/\W1.next=W.next+1/\Le W W1/\aU W1 W.next=some [.ae 0,.ae 0,.ae 0]:=abq W
def QE(h:fA W0 W ob sb qb bq x sv o s){i:Nat}(hs:i<x.st.length)(hk:tZ x.v i<x.qs.length)(hv:x.v.ax.length<1000)(h1:x.now<9223372036854775808)(h2:x.v.cT<9223372036854775808):
 ∃W',ba (.func (.func 170) #[] #[]) [aZ ob,.ae (i:Int)] W=some (.tuple #[],W')/\fA W0 W' ob sb qb bq (lG x i) sv o s/\Fr W W' sb qb:=by
 have hq:Ok (nD ba (aZ ob) (.ae (i:Int)) W) λr=>r.1=.tuple #[]/\fA W0 r.2 ob sb qb bq (lG x i) sv o s/\Fr W r.2 sb qb:=by
  unfold nD;have qk:=aem (v:=x.v) (sv:=sv) (W:=W) (bP:=(i:Int)) (h.sec.mono h.le) hv;obtain⟨V1,a1,n1,l1,r1⟩:=aam W;have b1:=Hm (a:=((dF x.v i).1.1:Int)) (c:=((dF x.v i).1.2.1:Int)) (d:=((dF x.v i).1.2.2:Int)) r1;have gb:(V1.put W.next (.cells [.ae ((dF x.v i).1.1:Int),.ae ((dF x.v i).1.2.1:Int),.ae ((dF x.v i).1.2.2:Int)])).get W.next=some (.cells [.ae ((dF x.v i).1.1:Int),.ae ((dF x.v i).1.2.1:Int),.ae ((dF x.v i).1.2.2:Int)]):=AW.aW _ _ _;have l2:=l1.put (aQ _) (.cells [.ae ((dF x.v i).1.1:Int),.ae ((dF x.v i).1.2.1:Int),.ae ((dF x.v i).1.2.2:Int)]);have n2:(V1.put W.next (.cells [.ae ((dF x.v i).1.1:Int),.ae ((dF x.v i).1.2.1:Int),.ae ((dF x.v i).1.2.2:Int)])).next=W.next+1:=n1;simp only[SX,aR,aJ,h.l4,qk,a1,b1];generalize V1.put W.next (.cells [.ae ((dF x.v i).1.1:Int),.ae ((dF x.v i).1.2.1:Int),.ae ((dF x.v i).1.2.2:Int)])=W1 at *;have h':=h.mono l2;have gi:∀V:AW,V.get W.next=W1.get W.next->bz (.pointer (some ⟨W.next,0,none⟩)) V=some (.ae (tZ x.v i:Int),V):=λV hV=>aO (ao (hV.trans gb)) rfl
  obtain⟨qv,q1,q2,q3⟩:=h'.gq;obtain⟨u,u1,u2⟩:=q3 _ hk;have ix:∀V:AW,pc 1 (oh qb x.qs.length) (.ae (tZ x.v i:Int)) V=some (.pointer (some ⟨qb,tZ x.v i,none⟩),V):=λV=>by have:=oq (z:=1) (b:=qb) (o:=0) (c:=x.qs.length) (W:=V) (k:=.i64) hk;rwa [aJ,gK]at this
  have lu:bz (.pointer (some ⟨qb,tZ x.v i,none⟩)) W1=some (u,W1):=aO (ao q1) u1;obtain⟨ua,uc,ue⟩:=u2.slice;have ul:∀V:AW,aV Tryz.prog .len #[88] 3 #[false] [u] V=some (.ae ((x.qs[tZ x.v i]).length:Int),V):=λV=>by rw[ue];exact dg ph _ _ _
  simp only[SX,gi W1 rfl,h'.l6,ix,lu,ul];cases he:x.qs[tZ x.v i]with
  |nil=>
   have e0:lG x i=x:=by unfold lG;rw[bN hk,he]
   rw[e0];simp only[SX,qB,Int.lt_irrefl,ah,show((0:Nat):Int)=0 from rfl];exact⟨ak,h',.of_le l2⟩
  |cons a t=>
   have e0:lG x i={x with st:=x.st.set i (mF x i a),qs:=x.qs.set (tZ x.v i) t}:=by unfold lG;rw[bN hk,he]
   rw[e0];rw[he]at u2;rcases u2 with⟨hx,_⟩|⟨oo,cs,rfl,u3,u4⟩
   ·cases hx
   have pF:decide ((0:Int)<(((a::t).length:Nat):Int))=true:=aK (by rw[cQ];omega);have Ye:=bN hs;have hg0:x.st.getD i CO=x.st[i]:=by simp[List.getD,Ye]
   have Lq:=FC (W:=W1) h'.gs Ye;have ix0:∀V:AW,pc 1 (.slice (some ⟨bq (tZ x.v i),oo,none⟩) (a::t).length (eG+1)) (.ae 0) V=some (.pointer (some ⟨bq (tZ x.v i),oo,none⟩),V):=λV=>by have:=oq (z:=1) (b:=bq (tZ x.v i)) (o:=oo) (l:=(a::t).length) (i:=0) (c:=eG+1) (W:=V) (k:=.i64) (by rw[cQ];omega);rwa [um,gv]at this
   have la:bz (.pointer (some ⟨bq (tZ x.v i),oo,none⟩)) W1=some (.int .u32 a,W1):=aO (ao u3) (by have:=gO (λl:List ad=>l[0]?) u4;simp only[mm,p9,cQ,gv,Nat.zero_lt_succ,bi,lj,Fj]at this;exact this);have st:=zI (z:=mF x i a) h'.gs Ye;have hho:ML x.st[i] a (dY x.now x.v.cT)=mF x i a:=by unfold mF;rw[hg0]
   simp only[SX,pF,h'.l5,rJ hs,Lq,ix0,la,h'.l1,zC h' h1 h2,dd,lK,qX,fQ,fN,Bm,hho,st];have HN:fA W0 (W1.put sb (.cells ((x.st.set i (mF x i a)).flatMap dK))) ob sb qb bq {x with st:=x.st.set i (mF x i a)} sv o s:=
    h'.step ⟨by rw[AW.bG];omega,λb _ b1 _=>AW.ay _ _ (bc b1)⟩ rfl rfl (by simp) rfl (AW.aW _ _ _) (h'.gq.keep (AW.ay _ _ h.ne.2.2) λk=>AW.ay _ _ (bc (h.nq k).2.2.2.1))
   have gi2:=gi (W1.put sb (.cells ((x.st.set i (mF x i a)).flatMap dK))) (AW.ay _ _ (by have:=h.hi.2.1;omega));have q1':aU (W1.put sb (.cells ((x.st.set i (mF x i a)).flatMap dK))) qb=some qv:=cR ((AW.ay _ _ h.ne.2.2).trans q1);have gsb:=AW.aW W1 sb (.cells ((x.st.set i (mF x i a)).flatMap dK));have Wc:∀b,b≠sb->(W1.put sb (.cells ((x.st.set i (mF x i a)).flatMap dK))).get b=W1.get b:=λb hb=>AW.ay _ _ (bc hb)
   have nn:(W1.put sb (.cells ((x.st.set i (mF x i a)).flatMap dK))).next=W1.next:=rfl;generalize W1.put sb (.cells ((x.st.set i (mF x i a)).flatMap dK))=W2 at *;have l6:bz (.pointer (some ⟨ob,6,none⟩)) W2=some (oh qb x.qs.length,W2):=HN.l6;have M5:tZ x.v i<qv.length:=by omega
   have sq:eZ 1 (.pointer (some ⟨qb,tZ x.v i,none⟩)) (.slice (some ⟨bq (tZ x.v i),oo+1,none⟩) ((a::t).length-1) (eG+1)) W2=some (aj,W2.put qb (.cells (qv.set (tZ x.v i) (.slice (some ⟨bq (tZ x.v i),oo+1,none⟩) ((a::t).length-1) (eG+1))))):=by rw[js,q1',bJ,an M5]
   simp only[SX,l6,gi2,akE (show 0<(a::t).length by rw[cQ];omega),ix,sq,ah];have hf:Fr W (W2.put qb (.cells (qv.set (tZ x.v i) (.slice (some ⟨bq (tZ x.v i),oo+1,none⟩) ((a::t).length-1) (eG+1))))) sb qb:=
    ⟨by rw[AW.bG];omega,λb hb b1 b2=>(AW.ay _ _ (bc b2)).trans ((Wc b b1).trans (l2.get b hb))⟩
   refine⟨ak,h.step (x':={x with st:=x.st.set i (mF x i a),qs:=x.qs.set (tZ x.v i) t}) hf rfl rfl (by simp) (by simp) ((AW.ay _ _ (bc h.ne.2.2)).trans gsb) ?_,hf⟩;have gk:∀k,(W2.put qb (.cells (qv.set (tZ x.v i) (.slice (some ⟨bq (tZ x.v i),oo+1,none⟩) ((a::t).length-1) (eG+1))))).get (bq k)=W1.get (bq k):=λk=>(AW.ay _ _ (bc (h.nq k).2.2.2.2)).trans (Wc _ (h.nq k).2.2.2.1)
   refine⟨_,AW.aW _ _ _,by simp[q2],λk CZ=>?_⟩;have Xq:k<x.qs.length:=by simpa using CZ
   by_cases VT:tZ x.v i=k
   ·subst VT;refine⟨_,by rw[vK M5],?_⟩;rw[AH];exact QA.tail ((gk _).trans u3) u4
   ·obtain⟨u',v1,v2⟩:=q3 k Xq;refine⟨u',by rw[vw VT];exact v1,?_⟩;rw[C2 VT];exact v2.keep (gk k)
 obtain⟨⟨v,V⟩,k1,rfl,k2⟩:=hq;have hg:=yu k1;obtain⟨V2,e,q⟩:=AB (v:=.tuple #[]) (Q:=λV=>fA W0 V ob sb qb bq (lG x i) sv o s/\Fr W V sb qb) k2 λhp=>⟨h.back k2.1 hp,.refl _ _ _⟩
 exact⟨V2,by rw[hg,e],q⟩
end
abbrev ig(r:mK):List ad:=[.ae r.er,.ae r.se,.ae r.n,.ae r.dl,.int .u32 r.t1,.int .u32 r.t2,.int .u64 r.t3,.int .u64 r.t4,.ae r.pl]
def B9(W:AW):dm Tryz.prog 50 W=some (aZ W.next,W.add (.cells (ig fw))):=aS (by kernel_rfl) rfl
def adH(x:ad)(W:AW):jx Tryz.prog 50 x W=dJ 9 x W:=by kernel_rfl
def pW(e:Int):mK:={fw with er:=e}
def T6(d:Int):mK:={fw with dl:=d}
def rpT(t:Lr):mK:={fw with t1:=t.a,t2:=t.b,t3:=t.c,t4:=t.d}
def ks(e:Int)(W:AW):dU Tryz.prog 50 [(0,.ae e)] W=some (gt (pW e),W):=aS (by kernel_rfl) rfl
def aaI(e:Int)(W:AW):dU Tryz.prog 50 [(3,.ae e)] W=some (gt (T6 e),W):=aS (by kernel_rfl) rfl
def akK(t:Lr)(W:AW):dU Tryz.prog 50 [(4,SL t)] W=some (gt (rpT t),W):=aS (by kernel_rfl) rfl
def nB(W:AW):∃V,dm Tryz.prog 50 W=some (aZ W.next,V)/\Le W V/\V.next=W.next+1/\V.get W.next=some (.cells (ig fw)):=⟨_,B9 W,(Le.refl _).add _,AW.av _ _,AW.aI _ _⟩
section
variable {W0 W V:AW} {ob sb qb:Nat} {bq:Nat->Nat} {x x':cI} {sv:ad} {o:jC} {s:Int}
def uf{b:Nat}{r0:mK}(hg:V.get b=some (.cells (ig r0)))(r:mK):eZ 9 (aZ b) (gt r) V=some (aj,V.put b (.cells (ig r)))/\iX Tryz.prog [(aZ b,some 50)] (V.put b (.cells (ig r)))=some (gt r,V.put b (.cells (ig r))):=by refine⟨gE (vs:=(ig r).toArray) hg rfl rfl rfl,?_⟩;rw[sB,adH,bB (cs:=ig r) (ao (AW.aW _ _ _)) rfl];rfl
def gp{b:Nat}(h:fA W0 W ob sb qb bq x sv o s)(h2:fA W0 V ob sb qb bq x' sv o s)(hf:Fr W V sb qb)(hb:W.next<=b)(c:dI):fA W0 (V.put b c) ob sb qb bq x' sv o s/\Fr W (V.put b c) sb qb:=
 ⟨h2.other (by have:=h.le.next;omega) (by have:=h.hi;omega) (by have:=h.hi;omega) (by have:=h.hi;omega) (λk=>by have:=h.nq k;omega),
   by rw[AW.bG];exact hf.1,λi hi i1 i2=>(AW.ay _ _ (by omega)).trans (hf.2 i hi i1 i2)⟩
def S1(x:cI)(s:Nat)(y:fx)(e:Int):cI:=if e=0 then lG {x with st:=x.st.set s y} s else x
structure Bd (x:cI) (s:Nat):Prop where
 i:s<x.st.length
 k:tZ x.v s<x.qs.length
 v:x.v.ax.length<1000
 now:x.now<9223372036854775808
 cT:x.v.cT<9223372036854775808
 fm:x.v.fm<9223372036854775808
def Bd.ch{s:Nat}(h:Bd x s)(y:fx):Bd {x with st:=x.st.set s y} s:=⟨by simpa using h.i,h.k,h.v,h.now,h.cT,h.fm⟩
def J6{s:Nat}(h:fA W0 W ob sb qb bq x sv o s)(hb:Bd x s)(y:fx)(e:Int):∃W',ba (.func (.func 154) #[] #[]) [aZ ob,iZ y,.ae e] W=some (gt (pW e),W')/\fA W0 W' ob sb qb bq (S1 x s y e) sv o s/\Fr W W' sb qb:=by
 have hq:Ok (ny ba (aZ ob) (iZ y) (.ae e) W) λr=>r.1=gt (pW e)/\fA W0 r.2 ob sb qb bq (S1 x s y e) sv o s/\Fr W r.2 sb qb:=by
  unfold ny;have LZ:Le W (W.add (.cells (dK y))):=(Le.refl W).add _;obtain⟨V,al,hZ,n2,g2⟩:=nB (W.add (.cells (dK y)));have g1:V.get W.next=some (.cells (dK y)):=(hZ.get _ (by rw[AW.av];omega)).trans (AW.aI _ _);have aM:=LZ.trans hZ;rw[AW.av]at n2 g2;simp only[SX];rw[al];simp only[SX,AW.av,bS g1];obtain⟨V2,k1,k2,k3⟩:=FL (h.mono aM) hb.i y e;have g3:V2.get (W.next+1)=some (.cells (ig fw)):=(k3.2 _ (by omega) (by have:=h.hi;omega) (by have:=h.hi;omega)).trans g2;have f3:Fr W V2 sb qb:=(Fr.of_le aM).trans k3;by_cases c:e=0
  ·have e1:Nu x s y e={x with st:=x.st.set s y}:=an c;have e2:S1 x s y e=lG {x with st:=x.st.set s y} s:=an c;rw[e1]at k2;rw[e2];have Kf:=hb.ch y;obtain⟨V3,m1,m2,m3⟩:=QE k2 Kf.i Kf.k Kf.v Kf.now Kf.cT;have g4:V3.get (W.next+1)=some (.cells (ig fw)):=(m3.2 _ (by have:=k3.1;omega) (by have:=h.hi;omega) (by have:=h.hi;omega)).trans g3;obtain⟨p1,p2⟩:=uf g4 (pW e);have d:=aK c;simp only[SX,k1,d,aR,k2.l19,aJ,m1,ks,p1,p2,ah];exact⟨ak,gp h m2 (f3.trans m3) (by omega) _⟩
  ·have e1:Nu x s y e=x:=ap c;have e2:S1 x s y e=x:=ap c;rw[e1]at k2;rw[e2];obtain⟨p1,p2⟩:=uf g3 (pW e);have d:=aL c;simp only[SX,k1,d,ks,p1,p2,ah];exact⟨ak,gp h k2 f3 (by omega) _⟩
 obtain⟨⟨v,V⟩,k1,rfl,k2⟩:=hq;have hg:=yL k1;obtain⟨V2,e',q⟩:=AB (v:=gt (pW e)) (Q:=λV=>fA W0 V ob sb qb bq (S1 x s y e) sv o s/\Fr W V sb qb) k2 λhp=>⟨h.back k2.1 hp,.refl _ _ _⟩
 exact⟨V2,by rw[hg,e'],q⟩
def ZL(s:Nat)(y:fx)(e:Int):mK:=if e=0 then rpT (P2 y s)else pW e
def acR{n:Nat}(h:n<4294967296)(W:AW):tY Tryz.prog 3 43 (.ae (n:Int)) W=some (.int .u32 (n:Int),W):=by
 have e:IntKind.u32.wrap (n:Int)=n:=by unfold IntKind.wrap;simp only[IntKind.bits,IntKind.signed];simp;omega
 have:=(aS (by kernel_rfl) rfl:tY Tryz.prog 3 43 (.ae (n:Int)) W=some (.int .u32 (IntKind.u32.wrap (n:Int)),W));rw[e]at this;exact this
def akG(W:AW):∃V,dm Tryz.prog 46 W=some (aZ W.next,V)/\Le W V/\V.next=W.next+1/\V.get W.next=some (.cells (tiC ti0)):=⟨_,JC W,(Le.refl _).add _,AW.av _ _,AW.aI _ _⟩
def avD{b:Nat}{t0:Lr}(hg:V.get b=some (.cells (tiC t0)))(t:Lr):eZ 4 (aZ b) (SL t) V=some (aj,V.put b (.cells (tiC t)))/\dJ 4 (aZ b) (V.put b (.cells (tiC t)))=some (SL t,V.put b (.cells (tiC t))):=
 ⟨gE (vs:=(tiC t).toArray) hg rfl rfl rfl,bB (cs:=tiC t) (ao (AW.aW _ _ _)) rfl⟩
def Ww{s:Nat}(h:fA W0 W ob sb qb bq x sv o s)(hb:Bd x s)(hs:s<4294967296)(y:fx)(e:Int):∃W',ba (.func (.func 156) #[] #[]) [aZ ob,iZ y,.ae e] W=some (gt (ZL s y e),W')/\fA W0 W' ob sb qb bq (Nu x s y e) sv o s/\Fr W W' sb qb:=by
 have hq:Ok (oO ba (aZ ob) (iZ y) (.ae e) W) λr=>r.1=gt (ZL s y e)/\fA W0 r.2 ob sb qb bq (Nu x s y e) sv o s/\Fr W r.2 sb qb:=by
  unfold oO;have LZ:Le W (W.add (.cells (dK y))):=(Le.refl W).add _;obtain⟨V,al,hZ,n2,g2⟩:=nB (W.add (.cells (dK y)));have g1:V.get W.next=some (.cells (dK y)):=(hZ.get _ (by rw[AW.av];omega)).trans (AW.aI _ _);have aM:=LZ.trans hZ;rw[AW.av]at n2 g2;simp only[SX];rw[al];simp only[SX,AW.av,bS g1];obtain⟨V2,k1,k2,k3⟩:=FL (h.mono aM) hb.i y e;have g3:V2.get (W.next+1)=some (.cells (ig fw)):=(k3.2 _ (by omega) (by have:=h.hi;omega) (by have:=h.hi;omega)).trans g2;have g3':V2.get W.next=some (.cells (dK y)):=(k3.2 _ (by omega) (by have:=h.hi;omega) (by have:=h.hi;omega)).trans g1;have f3:Fr W V2 sb qb:=(Fr.of_le aM).trans k3;by_cases c:e=0
  ·have e2:ZL s y e=rpT (P2 y s):=an c;rw[e2];have d:=aK c;obtain⟨V3,m1,m2,m3,m4⟩:=akG V2;obtain⟨p1,p2⟩:=avD m4 (P2 y s);have alL:Le V2 (V3.put V2.next (.cells (tiC (P2 y s)))):=m2.put (aQ _) _;have hn4:(V3.put V2.next (.cells (tiC (P2 y s)))).next=V2.next+1:=m3;have g4:(V3.put V2.next (.cells (tiC (P2 y s)))).get (W.next+1)=some (.cells (ig fw)):=(alL.get _ (by have:=k3.1;omega)).trans g3;obtain⟨p3,p4⟩:=uf g4 (rpT (P2 y s));simp only[SX,k1,d,bS g3',aR,k2.l19,aJ,acR hs,m1,Ar,p1,p2,akK,p3,p4,ah];exact⟨ak,gp h (k2.mono alL) (f3.trans (.of_le alL)) (by omega) _⟩
  ·have e2:ZL s y e=pW e:=ap c;rw[e2];obtain⟨p1,p2⟩:=uf g3 (pW e);have d:=aL c;simp only[SX,k1,d,ks,p1,p2,ah];exact⟨ak,gp h k2 f3 (by omega) _⟩
 obtain⟨⟨v,V⟩,k1,rfl,k2⟩:=hq;have hg:=zt k1;obtain⟨V2,e',q⟩:=AB (v:=gt (ZL s y e)) (Q:=λV=>fA W0 V ob sb qb bq (Nu x s y e) sv o s/\Fr W V sb qb) k2 λhp=>⟨h.back k2.1 hp,.refl _ _ _⟩
 exact⟨V2,by rw[hg,e'],q⟩
def lO(W0 W:AW)(ob sb qb:Nat)(bq:Nat->Nat)(sv:ad)(o:jC)(s:Int)(F:Nat)(x':cI)(r:mK):Prop:=∃W' bq',ba (.func (.func F) #[] #[]) [aZ ob] W=some (gt r,W')/\fA W0 W' ob sb qb bq' x' sv o s/\W.next<=W'.next/\(∀b,ob<b->b<W.next->W'.get b=W.get b)/\∀k,bq' k=bq k\/W.next<=bq' k
def nf(h:fA W0 W ob sb qb bq x sv o s)(yQ:sb<ob/\qb<ob){F:Nat}{t:Option (ad×AW)}{r:mK}(Nr:∀{r},t=some r->ba (.func (.func F) #[] #[]) [aZ ob] W=some (gc W r))
 (ht:Ok t λq=>q.1=gt r/\fA W0 q.2 ob sb qb bq x' sv o s/\Fr W q.2 sb qb):lO W0 W ob sb qb bq sv o s F x' r:=by
 obtain⟨⟨v,V⟩,k1,rfl,k2⟩:=ht;obtain⟨V2,e',q1,q2,q3⟩:=AB (v:=gt r) (Q:=λV=>fA W0 V ob sb qb bq x' sv o s/\Fr W V sb qb) k2 λhp=>⟨h.back k2.1 hp,.refl _ _ _⟩
 exact⟨V2,bq,by rw[Nr k1,e'],q1,q2,λb b1 b2=>q3 b b2 (by omega) (by omega),λ_=>.inl rfl⟩
def fA.l8(h:fA W0 W ob sb qb bq x sv o s):bz (.pointer (some ⟨ob,8,none⟩)) W=some (.int .u32 o.ow,W):=h.ld rfl
def fA.l13(h:fA W0 W ob sb qb bq x sv o s):bz (.pointer (some ⟨ob,13,none⟩)) W=some (.int .u32 o.to,W):=h.ld rfl
def fA.l2(h:fA W0 W ob sb qb bq x sv o s):bz (.pointer (some ⟨ob,2,none⟩)) W=some (.ae x.v.fm,W):=h.ld rfl
abbrev wI(o:jC):Lr:=⟨o.t1,o.t2,o.t3,o.t4⟩
def fA.l14(h:fA W0 W ob sb qb bq x sv o s):dJ 4 (.pointer (some ⟨ob,14,none⟩)) W=some (SL (wI o),W):=bB h.c rfl
abbrev cr(x:cI)(s:Nat):fx:=x.st.getD s CO
def fA.ls{s:Nat}(h:fA W0 W ob sb qb bq x sv o s)(hs:s<x.st.length):dJ 5 (.pointer (some ⟨sb,s*5,none⟩)) W=some (iZ (cr x s),W):=by
 have e:x.st[s]? =some (cr x s):=by rw[bN hs];simp[cr,bN hs]
 exact FC h.gs e
def YN(h:fA W0 W ob sb qb bq x sv o s)(yQ:sb<ob/\qb<ob)(h1n:x.now<9223372036854775808)(h2n:x.v.fm<9223372036854775808):lO W0 W ob sb qb bq sv o s 124 x (T6 (dY x.now x.v.fm)):=by refine nf h yQ zn ?_;unfold uG;obtain⟨V,al,aM,n2,g2⟩:=nB W;have h1:=h.mono aM;obtain⟨p1,p2⟩:=uf g2 (T6 (dY x.now x.v.fm));simp only[SX,al,aR,aJ,h1.l2,zC h1 h1n h2n,aaI,p1,p2,ah];exact⟨ak,gp h h1 (.of_le aM) (aQ _) _⟩
def O8{s:Nat}(h:fA W0 W ob sb qb bq x sv o s)(yQ:sb<ob/\qb<ob)(hb:Bd x s):lO W0 W ob sb qb bq sv o s 127 (S1 x s (LJ (cr x s) o.ow) (mf (cr x s) o.ow)) (pW (mf (cr x s) o.ow)):=by refine nf h yQ we ?_;unfold qP;obtain⟨V,al,aM,n2,g2⟩:=nB W;have h1:=h.mono aM;obtain⟨V2,c1,c2,c3⟩:=J6 h1 hb (LJ (cr x s) o.ow) (mf (cr x s) o.ow);obtain⟨p1,p2⟩:=uf ((c3.2 _ (by omega) (by have:=h.hi;omega) (by have:=h.hi;omega)).trans g2) (pW (mf (cr x s) o.ow));simp only[SX,al,aR,aJ,h1.l5,h1.l19,rJ hb.i,h1.ls hb.i,h1.l8,OQ,c1,p1,p2,ah];exact⟨ak,gp h c2 ((Fr.of_le aM).trans c3) (aQ _) _⟩
def QM{s:Nat}(h:fA W0 W ob sb qb bq x sv o s)(yQ:sb<ob/\qb<ob)(hb:Bd x s):lO W0 W ob sb qb bq sv o s 130 (S1 x s (rfS (cr x s) (wI o)) (Ci (cr x s) (wI o))) (pW (Ci (cr x s) (wI o))):=by refine nf h yQ xe ?_;unfold rV;obtain⟨V,al,aM,n2,g2⟩:=nB W;have h1:=h.mono aM;obtain⟨V2,c1,c2,c3⟩:=J6 h1 hb (rfS (cr x s) (wI o)) (Ci (cr x s) (wI o));obtain⟨p1,p2⟩:=uf ((c3.2 _ (by omega) (by have:=h.hi;omega) (by have:=h.hi;omega)).trans g2) (pW (Ci (cr x s) (wI o)));simp only[SX,al,aR,aJ,Nat.reduceAdd,h1.l5,h1.l19,rJ hb.i,h1.ls hb.i,h1.l14,QC,c1,p1,p2,ah];exact⟨ak,gp h c2 ((Fr.of_le aM).trans c3) (aQ _) _⟩
def Rj{s:Nat}(h:fA W0 W ob sb qb bq x sv o s)(yQ:sb<ob/\qb<ob)(hb:Bd x s):lO W0 W ob sb qb bq sv o s 131 (S1 x s (rvS (cr x s)) (Zu (cr x s))) (pW (Zu (cr x s))):=by refine nf h yQ wV ?_;unfold rU;obtain⟨V,al,aM,n2,g2⟩:=nB W;have h1:=h.mono aM;obtain⟨V2,c1,c2,c3⟩:=J6 h1 hb (rvS (cr x s)) (Zu (cr x s));obtain⟨p1,p2⟩:=uf ((c3.2 _ (by omega) (by have:=h.hi;omega) (by have:=h.hi;omega)).trans g2) (pW (Zu (cr x s)));simp only[SX,al,aR,aJ,h1.l5,h1.l19,rJ hb.i,h1.ls hb.i,Qw,c1,p1,p2,ah];exact⟨ak,gp h c2 ((Fr.of_le aM).trans c3) (aQ _) _⟩
def adb{s:Nat}(h:fA W0 W ob sb qb bq x sv o s)(yQ:sb<ob/\qb<ob)(hb:Bd x s)(hs:s<4294967296):lO W0 W ob sb qb bq sv o s 128 (Nu x s (Fa (cr x s) o.ow) (Dt (cr x s) o.ow)) (ZL s (Fa (cr x s) o.ow) (Dt (cr x s) o.ow)):=by refine nf h yQ Bu ?_;unfold wG;obtain⟨V,al,aM,n2,g2⟩:=nB W;have h1:=h.mono aM;obtain⟨V2,c1,c2,c3⟩:=Ww h1 hb hs (Fa (cr x s) o.ow) (Dt (cr x s) o.ow);obtain⟨p1,p2⟩:=uf ((c3.2 _ (by omega) (by have:=h.hi;omega) (by have:=h.hi;omega)).trans g2) (ZL s (Fa (cr x s) o.ow) (Dt (cr x s) o.ow));simp only[SX,al,aR,aJ,Nat.reduceAdd,h1.l5,h1.l19,rJ hb.i,h1.ls hb.i,h1.l8,aeL,c1,p1,p2,ah];exact⟨ak,gp h c2 ((Fr.of_le aM).trans c3) (aQ _) _⟩
def Mr{s:Nat}(h:fA W0 W ob sb qb bq x sv o s)(yQ:sb<ob/\qb<ob)(hb:Bd x s)(hs:s<4294967296):lO W0 W ob sb qb bq sv o s 129 (Nu x s (Y2 (cr x s) (wI o) o.to) (Yh (cr x s) (wI o))) (ZL s (Y2 (cr x s) (wI o) o.to) (Yh (cr x s) (wI o))):=by refine nf h yQ vG ?_;unfold pK;obtain⟨V,al,aM,n2,g2⟩:=nB W;have h1:=h.mono aM;obtain⟨V2,c1,c2,c3⟩:=Ww h1 hb hs (Y2 (cr x s) (wI o) o.to) (Yh (cr x s) (wI o));obtain⟨p1,p2⟩:=uf ((c3.2 _ (by omega) (by have:=h.hi;omega) (by have:=h.hi;omega)).trans g2) (ZL s (Y2 (cr x s) (wI o) o.to) (Yh (cr x s) (wI o)));simp only[SX,al,aR,aJ,Nat.reduceAdd,h1.l5,h1.l19,rJ hb.i,h1.ls hb.i,h1.l14,h1.l13,Mg,c1,p1,p2,ah];exact⟨ak,gp h c2 ((Fr.of_le aM).trans c3) (aQ _) _⟩
def Tq{s:Nat}(h:fA W0 W ob sb qb bq x sv o s)(yQ:sb<ob/\qb<ob)(hb:Bd x s):lO W0 W ob sb qb bq sv o s 132 x (pW (Ci (cr x s) (wI o))):=by refine nf h yQ vB ?_;unfold pG;obtain⟨V,al,aM,n2,g2⟩:=nB W;have h1:=h.mono aM;obtain⟨p1,p2⟩:=uf g2 (pW (Ci (cr x s) (wI o)));simp only[SX,al,aR,aJ,Nat.reduceAdd,h1.l5,h1.l19,rJ hb.i,h1.ls hb.i,h1.l14,tR,ks,p1,p2,ah];exact⟨ak,gp h h1 (.of_le aM) (aQ _) _⟩
def hoR(e d:Int):mK:=if e=0 then T6 d else pW e
def Zf{s:Nat}(h:fA W0 W ob sb qb bq x sv o s)(yQ:sb<ob/\qb<ob)(hb:Bd x s):lO W0 W ob sb qb bq sv o s 125 (Nu x s (ML (cr x s) o.ow (dY x.now x.v.cT)) (NU (cr x s) (dY x.now x.v.cT))) (hoR (NU (cr x s) (dY x.now x.v.cT)) (dY x.now x.v.cT)):=by
 refine nf h yQ zU ?_;unfold uO;obtain⟨V,al,aM,n2,g2⟩:=nB W;have h1:=h.mono aM;obtain⟨V2,c1,c2,c3⟩:=FL h1 hb.i (ML (cr x s) o.ow (dY x.now x.v.cT)) (NU (cr x s) (dY x.now x.v.cT));have g3:=(c3.2 _ (by omega) (by have:=h.hi;omega) (by have:=h.hi;omega)).trans g2;have hf:=(Fr.of_le aM).trans c3;by_cases c:NU (cr x s) (dY x.now x.v.cT)=0
 ·have e1:hoR (NU (cr x s) (dY x.now x.v.cT)) (dY x.now x.v.cT)=T6 (dY x.now x.v.cT):=an c;rw[e1];obtain⟨p1,p2⟩:=uf g3 (T6 (dY x.now x.v.cT));have d:=aK c;simp only[SX,al,aR,aJ,Nat.reduceAdd,h1.l1,zC h1 hb.now hb.cT,h1.l5,h1.l19,rJ hb.i,h1.ls hb.i,h1.l8,Bm,c1,d,aaI,p1,p2,ah];exact⟨ak,gp h c2 hf (aQ _) _⟩
 ·have e1:hoR (NU (cr x s) (dY x.now x.v.cT)) (dY x.now x.v.cT)=pW (NU (cr x s) (dY x.now x.v.cT)):=ap c;rw[e1];obtain⟨p1,p2⟩:=uf g3 (pW (NU (cr x s) (dY x.now x.v.cT)));have d:=aL c;simp only[SX,al,aR,aJ,Nat.reduceAdd,h1.l1,zC h1 hb.now hb.cT,h1.l5,h1.l19,rJ hb.i,h1.ls hb.i,h1.l8,Bm,c1,d,ks,p1,p2,ah];exact⟨ak,gp h c2 hf (aQ _) _⟩
end
def QX(W:AW)(u:ad)(l:List Int)(B:Nat):Prop:=(l=[]/\(u=.slice none 0 0\/∃a,u=.slice (some a) 0 0))\/(l≠[]/\B<W.next/\u=.slice (some ⟨B,0,none⟩) l.length (eG+1)/\W.get B=some (.cells (l.map (Value.int .u32))))
def QsX(W:AW)(qb:Nat)(bq:Nat->Nat)(qs:List (List Int)):Prop:=∃qv,W.get qb=some (.cells qv)/\qv.length=qs.length/\(∀k (h:k<qs.length),∃u,qv[k]? =some u/\QX W u qs[k] (bq k))/\∀k k' (h:k<qs.length) (h':k'<qs.length),k≠k'->qs[k]≠[]->qs[k']≠[]->bq k≠bq k'
def QX.mono{W W':AW}{u:ad}{l:List Int}{B:Nat}(h:QX W u l B)(aM:Le W W'):QX W' u l B:=by
 rcases h with h|⟨h0,h1,h2,h3⟩
 ·exact .inl h
 ·exact .inr ⟨h0,ff h1 aM.next,h2,by rw[aM.get _ h1];exact h3⟩
def QsX.mono{W W':AW}{qb:Nat}{bq:Nat->Nat}{qs:List (List Int)}(h:QsX W qb bq qs)(hb:qb<W.next)(aM:Le W W'):QsX W' qb bq qs:=by obtain⟨qv,a,b,c,d⟩:=h;exact⟨qv,by rw[aM.get _ hb];exact a,b,λk hk=>let⟨u,c1,c2⟩:=c k hk;⟨u,c1,c2.mono aM⟩,d⟩
def QX.qa{W:AW}{u:ad}{l:List Int}{B:Nat}(h:QX W u l B):QA W u l B:=by
 rcases h with h|⟨h0,h1,h2,h3⟩
 ·exact .inl h
 ·exact .inr ⟨0,_,h2,h3,by rw[jj,<-xp,cM]⟩
def QX.rd{W:AW}{u:ad}{l:List Int}{B:Nat}(h:QX W u l B):PH W u l:=by
 rcases h with⟨rfl,rfl|⟨a,rfl⟩⟩|⟨h0,h1,rfl,h3⟩
 ·exact⟨_,_,rfl,.inl rfl⟩
 ·exact⟨_,_,rfl,.inl rfl⟩
 ·refine⟨_,_,rfl,.inr ⟨B,0,_,rfl,h1,ao h3,?_⟩⟩;rw[jj,gK,<-xp,cM,oy]
def QX.push{W:AW}{u:ad}{l:List Int}{B b:Nat}{a:Int}(h:QX W u l B)(hc:aH W b=some (qQ a))(hl:l.length<=1000):
 ∃v' W',dn Tryz.prog W #[88,88] u (.slice (some ⟨b,0,none⟩) 1 1)=some (v',W')/\QX W' v' (l++[a]) W.next/\W'.next=W.next+1/\∀c,c<W.next->(l≠[]->c≠B)->W'.get c=W.get c:=by
 have key:∀{v':ad} {W':AW},fE W' 1 qQ v' (l++[a]) (some W.next)->QX W' v' (l++[a]) W.next:=λ{v' W'} k=>by
  rcases k with⟨k,-⟩|⟨k0,B',k1,k2,k3,k4⟩
  ·simp at k
  ·injection k1 with k1;subst k1;exact .inr ⟨k0,k2,k3,by rw[k4,oy]⟩
 rcases h with⟨rfl,rfl|⟨a',rfl⟩⟩|⟨h0,h1,rfl,h3⟩
 ·obtain⟨v',W',k1,k2,k3,k4⟩:=fE.push (P:=Tryz.prog) (W:=W) (l:=([]:List Int)) (bo:=none) BQ iA pr (.inl ⟨rfl,rfl,rfl⟩) hc (by simp) (by simp);exact⟨v',W',k1,key k2,k3,λc hc _=>k4 c hc (by simp)⟩
 ·refine⟨_,_,E3 BQ hc (by rw[jj]) rfl (by omega) rfl (by omega) (by omega),.inr ⟨by simp,by rw[AW.av];omega,rfl,?_⟩,AW.av _ _,λc hc _=>AW.aE _ _ (by omega)⟩;rw[AW.aI];first|done|rfl
 ·obtain⟨v',W',k1,k2,k3,k4⟩:=fE.push (P:=Tryz.prog) (W:=W) (l:=l) (bo:=some B) BQ iA pr (.inr ⟨h0,B,rfl,h1,rfl,by rw[h3,oy]⟩) hc (by omega) (by omega);exact⟨v',W',k1,key k2,k3,λc hc hn=>k4 c hc (λe=>by injection e with e;exact hn h0 e.symm)⟩
def yr(v:fo)(k:Nat):Int:=((v.ax[k]?).map (·.q)).getD 0
abbrev gJ(x:cI)(k:Nat):List Int:=x.qs.getD k []
def wK(x:cI)(k:Nat)(ow:Int):Int:=if yr x.v k<=((gJ x k).length:Int)then 5 else if((gJ x k).any λy=>decide (ow=y))=true then 8 else 0
def yb(x:cI)(k:Nat)(ow:Int):cI:=if wK x k ow=0 then{x with qs:=x.qs.set k (gJ x k++[ow])}else x
def rpP(n:Int):mK:={fw with pl:=n}
def zr(x:cI)(k:Nat)(ow:Int):mK:=if wK x k ow=0 then rpP (((gJ x k).length:Int)+1)else pW (wK x k ow)
def L2(x:cI)(k:Nat)(ow:Int):Int:=nl (λy=>decide (ow=y)) (gJ x k)
def XC(l:List Int)(i:Nat):List Int:=l.take i++l.drop (i+1)
def tD(x:cI)(k:Nat)(ow:Int):cI:=if L2 x k ow<0 then x else{x with qs:=x.qs.set k (XC (gJ x k) (L2 x k ow).toNat)}
def FH(x:cI)(k:Nat)(ow:Int):mK:=if L2 x k ow<0 then pW 4 else fw
def aeF(e:Int)(W:AW):dU Tryz.prog 50 [(5,.ae e)] W=some (gt (rpP e),W):=aS (by kernel_rfl) rfl
def aiP(a:Int)(W:AW):cJ Tryz.prog 88 1 [(0,.int .u32 a)] W=some (.slice (some ⟨W.next,0,none⟩) 1 1,W.add (.cells (qQ a))):=aS (by kernel_rfl) rfl
def WS{α:Type}{p:α->Bool}{l:List α}(h:¬nl p l<0):∃i:Nat,i<l.length/\nl p l=(i:Int):=by
 unfold nl at h|-;cases e:l.findIdx? p with
 |none=>rw[e]at h;exact absurd (by decide) h
 |some i=>exact⟨i,(List.findIdx?_eq_some_iff_findIdx_eq.1 e).1,rfl⟩
section
variable {W0 W V:AW} {ob sb qb:Nat} {bq:Nat->Nat} {x x':cI} {sv:ad} {o:jC} {s:Int}
def fA.l11(h:fA W0 W ob sb qb bq x sv o s):bz (.pointer (some ⟨ob,11,none⟩)) W=some (.ae o.sc,W):=h.ld rfl
def fA.l3(h:fA W0 W ob sb qb bq x sv o s):bz (.pointer (some ⟨ob,3,none⟩)) W=some (sv,W):=h.ld rfl
def ixQ{n b k:Nat}(hk:k<n)(W':AW):pc 1 (oh b n) (.ae (k:Int)) W'=some (.pointer (some ⟨b,k,none⟩),W'):=by have:=oq (z:=1) (b:=b) (o:=0) (c:=n) (W:=W') (k:=.i64) hk;rwa [aJ,gK]at this
def ahN(h:fA W0 W ob sb qb bq x sv o s){k:Nat}(hk:k<x.v.ax.length):∃b i,(∀W',pc 3 sv (.ae (k:Int)) W'=some (.pointer (some ⟨b,i,none⟩),W'))/\∀W',Le W0 W'->bz (.pointer (some ⟨b,i+2,none⟩)) W'=some (.ae (yr x.v k),W'):=by
 obtain⟨b,i,rv,g1,-,-,-,-,g5⟩:=gZ.get h.sec.1 hk;refine⟨b,i,λW'=>g1 W' _,λW' aM=>?_⟩;have e:yr x.v k=x.v.ax[k].q:=by unfold yr;rw[bN hk];rfl
 rw[e];exact g5 W' aM
def agd(h:fA W0 W ob sb qb bq x sv o s)(hx:QsX W qb bq x.qs)(yQ:sb<ob/\qb<ob/\∀k,bq k<ob){k:Nat}(hk:k<x.qs.length)(N9:o.sc=(k:Int))(T3:k<x.v.ax.length)(hl:(gJ x k).length<=1000):
 lO W0 W ob sb qb bq sv o s 133 (yb x k o.ow) (zr x k o.ow):=by
 have e0:x.qs[k]=gJ x k:=by simp[gJ,bN hk]
 have wM:∀{x':cI} {r:mK},(Ok (ge ba (aZ ob) W) λq=>q.1=gt r/\fA W0 q.2 ob sb qb bq x' sv o s/\Fr W q.2 sb qb)->lO W0 W ob sb qb bq sv o s 133 x' r:=λht=>nf h ⟨yQ.1,yQ.2.1⟩ qZ ht
 obtain⟨V,al,aM,n2,g2⟩:=nB W;have h1:=h.mono aM;obtain⟨qv,q1,q2,q3,q4⟩:=hx.mono h.hi.2.2 aM;obtain⟨u,u1,u2⟩:=q3 _ hk;rw[e0]at u2;have lu:bz (.pointer (some ⟨qb,k,none⟩)) V=some (u,V):=aO (ao q1) u1;have ul:∀V:AW,aV Tryz.prog .len #[88] 3 #[false] [u] V=some (.ae ((gJ x k).length:Int),V):=λV=>jk u2.rd ph _ _ _
 obtain⟨sb',si,s1,s2⟩:=ahN h1 T3;by_cases c:yr x.v k<=((gJ x k).length:Int)
 ·have e1:wK x k o.ow=5:=an c;have e2:yb x k o.ow=x:=ap (by rw[e1];omega);have e3:zr x k o.ow=pW 5:=by unfold zr;rw[e1,bM]
  rw[e2,e3];refine wM ?_;unfold ge;obtain⟨p1,p2⟩:=uf g2 (pW 5);have d:=aK c;simp only[SX,al,aR,aJ,Nat.reduceAdd,h1.l6,h1.l11,N9,ixQ hk,lu,ul,h1.l3,s1,s2 _ h1.le,d,ks,p1,p2,ah];exact⟨ak,gp h h1 (.of_le aM) (aQ _) _⟩
 have d:=aL c;by_cases c2:((gJ x k).any λy=>decide (o.ow=y))=true
 ·have e1:wK x k o.ow=8:=by unfold wK;rw[ap c,an c2]
  have e2:yb x k o.ow=x:=ap (by rw[e1];omega);have e3:zr x k o.ow=pW 8:=by unfold zr;rw[e1,bM]
  rw[e2,e3];refine wM ?_;unfold ge;obtain⟨p1,p2⟩:=uf g2 (pW 8);simp only[SX,al,aR,aJ,Nat.reduceAdd,h1.l6,h1.l11,N9,ixQ hk,lu,ul,h1.l3,s1,s2 _ h1.le,d,h1.l8,Hq u2.rd (by omega),c2,ks,p1,p2,ah];exact⟨ak,gp h h1 (.of_le aM) (aQ _) _⟩
 have c2':((gJ x k).any λy=>decide (o.ow=y))=false:=ut.2 c2;have e1:wK x k o.ow=0:=by unfold wK;rw[ap c,ap c2]
 have e2:yb x k o.ow={x with qs:=x.qs.set k (gJ x k++[o.ow])}:=an e1;have e3:zr x k o.ow=rpP (((gJ x k).length:Int)+1):=an e1;rw[e2,e3];have awt:Le V (V.add (.cells (qQ o.ow))):=(Le.refl V).add _;obtain⟨v',V5,k1,k2,k3,k4⟩:=(u2.mono awt).push (b:=V.next) (a:=o.ow) (bF) hl;have k3':V5.next=V.next+2:=by rw[k3,AW.av]
 have kk:∀c,c<V.next->(gJ x k≠[]->c≠bq k)->V5.get c=V.get c:=λc hc hn=>(k4 c (by rw[AW.av];omega) hn).trans (AW.aE _ _ (by omega))
 have hbq:=h.nq k;have kq:V5.get qb=some (.cells qv):=(kk _ (by have:=h1.hi;omega) (λ_ e=>hbq.2.2.2.2 e.symm)).trans q1;have M5:k<qv.length:=by omega
 have k2':=k2;rcases k2 with⟨hn,-⟩|⟨-,k20,rfl,k21⟩
 ·simp at hn
 have sq:eZ 1 (.pointer (some ⟨qb,k,none⟩)) (.slice (some ⟨(V.add (.cells (qQ o.ow))).next,0,none⟩) (gJ x k++[o.ow]).length (eG+1)) V5=some (aj,V5.put qb (.cells (qv.set k (.slice (some ⟨(V.add (.cells (qQ o.ow))).next,0,none⟩) (gJ x k++[o.ow]).length (eG+1))))):=by rw[js,cR kq,bJ,an M5]
 have nbE:(V.add (.cells (qQ o.ow))).next=V.next+1:=AW.av _ _;rw[nbE]at sq k1 k2' k20 k21;obtain⟨U,hU⟩:∃U,U=V5.put qb (.cells (qv.set k (.slice (some ⟨V.next+1,0,none⟩) (gJ x k++[o.ow]).length (eG+1)))):=⟨_,rfl⟩;rw[<-hU]at sq;have uq:U.get qb=some (.cells (qv.set k (.slice (some ⟨V.next+1,0,none⟩) (gJ x k++[o.ow]).length (eG+1)))):=by rw[hU];exact AW.aW _ _ _
 have uo:∀c,c≠qb->U.get c=V5.get c:=λc hc=>by rw[hU];exact AW.ay _ _ (bc hc)
 have un:U.next=V.next+2:=by rw[hU,AW.bG,k3']
 clear hU;have l6:bz (.pointer (some ⟨qb,k,none⟩)) U=some (.slice (some ⟨V.next+1,0,none⟩) (gJ x k++[o.ow]).length (eG+1),U):=aO (ao uq) (vK M5);have lx:(((gJ x k++[o.ow]).length:Nat):Int)=((gJ x k).length:Int)+1:=by simp
 have Tm:=h.hi;have g5:U.get W.next=some (.cells (ig fw)):=((uo _ (by omega)).trans (kk _ (by omega) (λ_=>by omega))).trans g2;obtain⟨p1,p2⟩:=uf g5 (rpP (((gJ x k).length:Int)+1));have ht:ge ba (aZ ob) W=some (gt (rpP (((gJ x k).length:Int)+1)),U.put W.next (.cells (ig (rpP (((gJ x k).length:Int)+1))))):=by unfold ge;simp only[SX,al,aR,aJ,Nat.reduceAdd,h1.l6,h1.l11,N9,ixQ hk,lu,ul,h1.l3,s1,s2 _ h1.le,d,h1.l8,Hq u2.rd (by omega),c2',aiP,k1,sq,l6,dg ph,lx,aeF,p1,p2]
 have hg:=qZ ht;have hnp:¬Le W (U.put W.next (.cells (ig (rpP (((gJ x k).length:Int)+1))))):=λhp=>by
  have e:=hp.get qb Tm.2.2;rw[AW.ay _ _ (by omega),uq,<-aM.get qb Tm.2.2,q1]at e;injection e with e;injection e with e;have e4:=gO (λl:List ad=>l[k]?) e;simp only[vK M5,u1]at e4;injection e4 with e4;rcases u2 with⟨hn,rfl|⟨a,rfl⟩⟩|⟨hn,hb,rfl,hc⟩
  ·cases e4
  ·injection e4 with _ e5 _;simp at e5
  ·injection e4 with e5;injection e5 with e5;injection e5 with e5;omega
 unfold OG gc at hg;rw[ap (λz=>hnp z.2)]at hg;refine⟨_,λj=>if j=k then V.next+1 else bq j,hg,?_,by rw[AW.bG];omega,λb b1 b2=>?_,λj=>?_⟩
 ·have gW:∀b,b<W.next->b≠qb->(gJ x k≠[]->b≠bq k)->(U.put W.next (.cells (ig (rpP (((gJ x k).length:Int)+1))))).get b=W.get b:=λb hb h2 h3=>(AW.ay _ _ (by omega)).trans ((uo _ h2).trans ((kk b (by omega) h3).trans (aM.get b hb)))
  refine{le:=⟨by rw[AW.bG];have:=h.le.next;omega,λb hb=>(gW b (ff hb h.le.next) (by have:=h.lo;omega) (λ_=>by omega)).trans (h.le.get b hb)⟩,lo:=h.lo,hi:=by rw[AW.bG];omega,ne:=h.ne,nq:=λj=>?_,sec:=h.sec,go:=?_,gs:=?_,gq:=?_}
  ·by_cases hj:j=k
   ·simp only[hj,bi,AW.bG];have:=h.le.next;omega
   ·simp only[hj,cn,AW.bG];have:=h.nq j;omega
  ·rw[gW _ Tm.1 h.ne.2.1 (λ_=>bc hbq.2.2.1)];simp only[pO];exact h.go
  ·rw[gW _ Tm.2.1 h.ne.2.2 (λ_=>bc hbq.2.2.2.1)];exact h.gs
  ·refine⟨_,(AW.ay _ _ (by omega)).trans uq,by simp[q2],λj hj=>?_⟩;have ZZ:j<x.qs.length:=by simpa using hj
   by_cases ZO:k=j
   ·subst ZO;refine⟨_,vK M5,?_⟩;simp only[AH,bi];exact k2'.qa.keep ((AW.ay _ _ (by omega)).trans (uo _ (by omega)))
   ·obtain⟨w,w1,w2⟩:=q3 j ZZ;refine⟨w,by rw[vw ZO];exact w1,?_⟩;simp only[C2 ZO,ap (bc ZO)];by_cases hem:x.qs[j]=[]
    ·rw[hem]at w2|-;rcases w2 with w2|⟨w3,-⟩
     ·exact .inl w2
     ·exact absurd rfl w3
    ·refine w2.qa.keep ?_;have hj3:=h.nq j;have e5:=gW (bq j) (by have:=h.nq j;have:=aM.next;omega) hj3.2.2.2.2 (λfp=>q4 j k ZZ hk (bc ZO) hem (by rw[e0];exact fp));exact e5.trans (aM.get _ (by omega)).symm
 ·have hbo:=yQ.2.2 k;exact(AW.ay _ _ (by omega)).trans ((uo _ (by omega)).trans ((kk b (by omega) (λ_=>by omega)).trans (aM.get b b2)))
 ·show(if j=k then V.next+1 else bq j)=bq j\/W.next<=(if j=k then V.next+1 else bq j);by_cases hj:j=k
  ·rw[an hj];exact .inr (by omega)
  ·rw[ap hj];exact .inl rfl
end
def arr(n:Nat)(f:Nat->Int):List ad:=(List.range n).map λt=>.ae (f t)
def AA(n:Nat)(f:Nat->Int):(arr n f).length=n:=by simp[arr]
def D7{n i:Nat}(f:Nat->Int)(hi:i<n):(arr n f)[i]? =some (.ae (f i)):=by unfold arr;rw[jJ,IG hi];rfl
def ahw{n i:Nat}(f:Nat->Int)(x:Int):(arr n f).set i (.ae x)=arr n λt=>if t=i then x else f t:=by
 apply oJ;intro t;rw[uM];by_cases c:i=t
 ·subst c;rw[an rfl,AA];split
  ·rename_i h;rw[D7 _ h,an rfl]
  ·rw[kF (by rw[AA];omega)]
 ·rw[ap c];by_cases h:t<n
  ·rw[D7 _ h,D7 _ h,ap (λe=>c e.symm)]
  ·rw[kF (by rw[AA];omega),kF (by rw[AA];omega)]
structure kT (V:AW) (B n:Nat) (f:Nat->Int) (U:AW):Prop where
 nx:U.next=V.next
 ot:∀b,b≠B->U.get b=V.get b
 bl:B<V.next
 ce:U.get B=some (.cells (arr n f))
section
variable {V U W:AW} {B n:Nat} {f g:Nat->Int}
def kT.congr(h:kT V B n f U)(hg:∀t,f t=g t):kT V B n g U:=by rw[<-show f=g from funext hg];exact h
def kT.ld(h:kT V B n f U){i:Nat}(hi:i<n):bz (.pointer (some ⟨B,i,none⟩)) U=some (.ae (f i),U):=aO (ao h.ce) (D7 f hi)
def kT.st(h:kT V B n f U){i:Nat}(hi:i<n)(x:Int):eZ 1 (.pointer (some ⟨B,i,none⟩)) (.ae x) U=some (aj,U.put B (.cells (arr n λt=>if t=i then x else f t)))/\kT V B n (λt=>if t=i then x else f t) (U.put B (.cells (arr n λt=>if t=i then x else f t))):=by
 refine⟨?_,⟨by rw[AW.bG];exact h.nx,λb hb=>by rw[AW.ay _ _ (λe=>hb e.symm)];exact h.ot b hb,h.bl,AW.aW _ _ _⟩⟩;have hr:aU U B=some (arr n f):=by unfold aU;rw[h.ce]
 rw[qC rfl rfl,hr,bJ,an (by rw[AA];exact hi),ahw]
def Q9{n c i:Nat}(hi:i<n)(k:IntKind)(W:AW):pc 1 (.slice (some ⟨B,0,none⟩) n c) (.int k (i:Int)) W=some (.pointer (some ⟨B,i,none⟩),W):=by have:=oq (W:=W) (z:=1) (b:=B) (o:=0) (l:=n) (c:=c) (i:=i) (k:=k) hi;rwa [aJ,gK]at this
def adg{o t:Option (ad×AW)}(h:Ok t λr=>r.1=.tuple #[]/\kT V B n g r.2)(hW:kT V B n f W)(Nr:∀{r},t=some r->o=some (gc W r)):∃U,o=some (.tuple #[],U)/\kT V B n g U:=by
 obtain⟨⟨r,U⟩,h1,h2,h3⟩:=h;simp only at h2 h3;subst h2;rw[Nr h1];unfold gc;split
 ·rename_i c;refine⟨W,rfl,hW.nx,hW.ot,hW.bl,?_⟩;have:=c.2.get B (by rw[hW.nx];exact hW.bl);exact this.symm.trans h3.ce
 ·exact⟨U,rfl,h3⟩
end
def swp(f:Nat->Int)(i j:Nat)(t:Nat):Int:=if t=j then f i else if t=i then f j else f t
inductive oe (a b:Nat) (f:Nat->Int):(Nat->Int)->Prop
 |refl:oe a b f f
 |step {g:Nat->Int} {i j:Nat}:oe a b f g->a<=i->i<b->a<=j->j<b->oe a b f (swp g i j)
section
variable {a b a' b':Nat} {f g h:Nat->Int}
def oe.mono(p:oe a b f g)(h1:a'<=a)(h2:b<=b'):oe a' b' f g:=by
 induction p with
 |refl=>exact .refl
 |step _ q1 q2 q3 q4 ih=>exact .step ih (by omega) (by omega) (by omega) (by omega)
def oe.trans(p:oe a b f g)(q:oe a b g h):oe a b f h:=by
 induction q with
 |refl=>exact p
 |step _ q1 q2 q3 q4 ih=>exact .step ih q1 q2 q3 q4
def oe.out(p:oe a b f g){t:Nat}(ht:¬(a<=t/\t<b)):g t=f t:=by
 induction p with
 |refl=>rfl
 |step _ q1 q2 q3 q4 ih=>unfold swp;rw[ap (by rintro rfl;omega),ap (by rintro rfl;omega)];exact ih
def oe.sub(p:oe a b f g):∀t,a<=t->t<b->∃s,a<=s/\s<b/\g t=f s:=by
 induction p with
 |refl=>exactλt h1 h2=>⟨t,h1,h2,rfl⟩
 |step _ q1 q2 q3 q4 ih=>
  intro t h1 h2;unfold swp;split
  ·exact ih _ q1 q2
  ·split
   ·exact ih _ q3 q4
   ·exact ih t h1 h2
end
def sR(f:Nat->Int)(a b n:Nat)(t:Nat):Int:=if a<=t/\t<a+n then f (b+(t-a))else if b<=t/\t<b+n then f (a+(t-b))else f t
def WN(f:Nat->Int)(a b t:Nat):sR f a b 0 t=f t:=by unfold sR;rw[bM,bM]
def VY(f:Nat->Int){a b i:Nat}(h:a+(i+1)<=b)(t:Nat):swp (sR f a b i) (a+i) (b+i) t=sR f a b (i+1) t:=by
 unfold swp sR;repeat' split
 all_goals first|omega|rfl|(congr 1;omega)
def OI(f:Nat->Int){a b lo hi:Nat}(h1:lo<=a):∀n,a+n<=b->b+n<=hi->oe lo hi f (sR f a b n)
 |0,_,_=>by rw[show sR f a b 0=f from funext (WN f a b)];exact .refl
 |n+1,h2,h3=>by rw[<-show swp (sR f a b n) (a+n) (b+n)=sR f a b (n+1)from funext (VY f h2)];exact .step (OI f h1 n (by omega) (by omega)) (by omega) (by omega) (by omega) (by omega)
def lL(f:Nat->Int)(a m b:Nat)(t:Nat):Int:=if a<=t/\t<a+(b-m)then f (t+(m-a))else if a+(b-m)<=t/\t<b then f (t-(b-m))else f t
def WE(g:Nat->Int){m i j:Nat}(hi:i<=m)(hj:0<j)(h:j<i)(t:Nat):lL (sR g (m-i) m j) (m-(i-j)) m (m+j) t=lL g (m-i) m (m+j) t:=by
 unfold lL sR;repeat' split
 all_goals first|omega|rfl|(congr 1;omega)
def MM(g:Nat->Int){m i j:Nat}(hi:i<=m)(h0:0<i)(h:i<j)(t:Nat):lL (sR g (m-i) (m+j-i) i) (m-i) m (m+(j-i)) t=lL g (m-i) m (m+j) t:=by
 unfold lL sR;repeat' split
 all_goals first|omega|rfl|(congr 1;omega)
def aeP(g:Nat->Int){m i:Nat}(hi:i<=m)(t:Nat):sR g (m-i) m i t=lL g (m-i) m (m+i) t:=by
 unfold lL sR;repeat' split
 all_goals first|omega|rfl|(congr 1;omega)
def yM{a b:Nat}(h:a+b<1000000000000)(t:af)(c d:Bool)(W:AW):bO Tryz.prog .add t c d (.ae (a:Int)) (.ae (b:Int)) W=some (.ae ((a+b:Nat):Int),W):=by rw[kU (by omega) (by omega)];congr 3
def Bz{a b:Nat}(h:b<=a)(ha:a<1000000000000)(t:af)(c d:Bool)(W:AW):bO Tryz.prog .sub t c d (.ae (a:Int)) (.ae (b:Int)) W=some (.ae ((a-b:Nat):Int),W):=by rw[tJ (by omega) (by omega)];congr 3;omega
section
variable {V U W:AW} {B n c:Nat} {f g:Nat->Int} {fv:ad}
def J0(hn:n<=10000)(hW:kT V B n f W){a b k:Nat}(h1:a+k<=b)(h2:b+k<=n):∃U,ba (.func (.func 226) #[] #[]) [.slice (some ⟨B,0,none⟩) n c,.ae (a:Int),.ae (b:Int),.ae (k:Int),fv] W=some (.tuple #[],U)/\kT V B n (sR f a b k) U:=by
 refine adg ?_ hW rn;unfold kX;refine bh k (by omega) (λi R U=>R 0=.slice (some ⟨B,0,none⟩) n c/\R 1=.ae (a:Int)/\R 2=.ae (b:Int)/\R 3=.ae (k:Int)/\R 10=.ae (i:Int)/\kT V B n (sR f a b i) U)
  (λr=>r.1=.exit 0/\kT V B n (sR f a b k) r.2.2) ⟨rfl,rfl,rfl,rfl,rfl,hW.congr λt=>(WN f a b t).symm⟩ ?_ ?_ ?_
 ·rintro i R U hi ⟨r0,r1,r2,r3,pi,u⟩;unfold fS;have t1:((i:Int)<(k:Int)):=by omega
  have t2:=λt c d W'=>yM (a:=i) (b:=1) (by omega) t c d W'
  have ta:=λt c d W'=>yM (a:=a) (b:=i) (by omega) t c d W'
  have tb:=λt c d W'=>yM (a:=b) (b:=i) (by omega) t c d W'
  obtain⟨s1,u1⟩:=u.st (i:=a+i) (by omega) (sR f a b i (b+i));obtain⟨s2,u2⟩:=u1.st (i:=b+i) (by omega) (sR f a b i (a+i));have ha:∀q W',pc 1 (.slice (some ⟨B,0,none⟩) n c) (.int q ((a+i:Nat):Int)) W'=some (.pointer (some ⟨B,a+i,none⟩),W'):=λq W'=>Q9 (by omega) q W'
  have hb:∀q W',pc 1 (.slice (some ⟨B,0,none⟩) n c) (.int q ((b+i:Nat):Int)) W'=some (.pointer (some ⟨B,b+i,none⟩),W'):=λq W'=>Q9 (by omega) q W'
  simp only[SX,r0,r1,r2,r3,pi,t1,ta,tb,ha,hb,u.ld (i:=b+i) (by omega),u.ld (i:=a+i) (by omega),s1,s2,show((1:Int))=((1:Nat):Int)from rfl,t2,ah];refine .inl ⟨ak,r0,r1,r2,r3,rfl,u2.congr λt=>?_⟩;rw[<-VY f (by omega) t];unfold swp;by_cases e1:t=b+i
  ·rw[an e1]
  ·rw[ap e1]
 ·rintro R U ⟨r0,r1,r2,r3,pi,u⟩;unfold fS;have t1:¬((k:Int)<(k:Int)):=by omega
  simp only[SX,r3,pi,t1,ah];exact⟨by simp,ak,u⟩
 ·rintro⟨q,R,U⟩ ⟨rfl,u⟩;simp only[SX,ah];exact⟨ak,u⟩
def Zq(hn:n<=10000)(hW:kT V B n f W){a m b:Nat}(h1:a<m)(h2:m<b)(h3:b<=n):∃U,ba (.func (.func 221) #[] #[]) [.slice (some ⟨B,0,none⟩) n c,.ae (a:Int),.ae (m:Int),.ae (b:Int),fv] W=some (.tuple #[],U)/\kT V B n (lL f a m b) U:=by
 refine adg ?_ hW tF;unfold oa;have s1:=λt c d W'=>Bz (a:=m) (b:=a) (by omega) (by omega) t c d W'
 have s2:=λt c d W'=>Bz (a:=b) (b:=m) (by omega) (by omega) t c d W'
 simp only[SX,s1,s2];refine bh (b-a) (by omega) (λk R U=>R 0=.slice (some ⟨B,0,none⟩) n c/\R 2=.ae (m:Int)/\R 4=fv/\∃i j:Nat,R 10=.ae (i:Int)/\R 11=.ae (j:Int)/\0<i/\0<j/\i<=m/\m+j<=n/\i+j+k<=b-a/\∃g,kT V B n g U/\∀t,lL g (m-i) m (m+j) t=lL f a m b t)
  (λr=>r.1=.exit 0/\r.2.1 0=.slice (some ⟨B,0,none⟩) n c/\r.2.1 2=.ae (m:Int)/\r.2.1 4=fv/\∃i:Nat,r.2.1 10=.ae (i:Int)/\0<i/\i<=m/\m+i<=n/\∃g,kT V B n g r.2.2/\∀t,lL g (m-i) m (m+i) t=lL f a m b t)
  ⟨rfl,rfl,rfl,m-a,b-m,rfl,rfl,by omega,by omega,by omega,by omega,by omega,f,hW,λt=>by rw[show m-(m-a)=a by omega,show m+(b-m)=b by omega]⟩ ?_ ?_ ?_
 ·rintro k R U hk ⟨r0,r2,r4,i,j,pi,od,i0,j0,im,jn,hm,g,u,hg⟩;unfold lC;by_cases e:i=j
  ·subst e;have t1:(!decide ((i:Int)=(i:Int)))=false:=by simp
   simp only[SX,pi,od,ah];exact .inr ⟨by simp,ak,r0,r2,r4,i,pi,i0,im,jn,g,u,hg⟩
  ·have t1:(!decide ((i:Int)=(j:Int)))=true:=by rw[cg];rfl
   by_cases lt:j<i
   ·have t2:decide ((j:Int)<(i:Int))=true:=cK;have s3:=λt c d W'=>Bz (a:=m) (b:=i) (by omega) (by omega) t c d W'
    have s4:=λt c d W'=>Bz (a:=i) (b:=j) (by omega) (by omega) t c d W'
    obtain⟨U1,e1,e2⟩:=J0 (c:=c) (fv:=fv) hn u (a:=m-i) (b:=m) (k:=j) (by omega) (by omega);simp only[SX,r0,r2,r4,pi,od,t1,t2,s3,e1,s4,ah];refine .inl ⟨ak,r0,r2,r4,i-j,j,rfl,od,by omega,j0,by omega,jn,by omega,_,e2,λt=>?_⟩;rw[WE g im j0 lt t];exact hg t
   ·have t2:decide ((j:Int)<(i:Int))=false:=cg;have s3:=λt c d W'=>Bz (a:=m) (b:=i) (by omega) (by omega) t c d W'
    have s4:=λt c d W'=>Bz (a:=j) (b:=i) (by omega) (by omega) t c d W'
    have s5:=λt c d W'=>yM (a:=m) (b:=j) (by omega) t c d W'
    have s6:=λt c d W'=>Bz (a:=m+j) (b:=i) (by omega) (by omega) t c d W'
    obtain⟨U1,e1,e2⟩:=J0 (c:=c) (fv:=fv) hn u (a:=m-i) (b:=m+j-i) (k:=i) (by omega) (by omega);simp only[SX,r0,r2,r4,pi,od,t1,t2,s3,s5,s6,e1,s4,ah];refine .inl ⟨ak,r0,r2,r4,i,j-i,pi,rfl,i0,by omega,im,by omega,by omega,_,e2,λt=>?_⟩;rw[MM g im i0 (by omega) t];exact hg t
 ·rintro R U ⟨r0,r2,r4,i,j,pi,od,i0,j0,im,jn,hm,g,u,hg⟩;omega
 ·rintro⟨q,R,U⟩ ⟨rfl,r0,r2,r4,i,pi,i0,im,jn,g,u,hg⟩;simp only at r0 r2 r4 pi u;have s3:=λt c d W'=>Bz (a:=m) (b:=i) (by omega) (by omega) t c d W'
  obtain⟨U1,e1,e2⟩:=J0 (c:=c) (fv:=fv) hn u (a:=m-i) (b:=m) (k:=i) (by omega) (by omega);simp only[SX,r0,r2,r4,pi,s3,e1,ah];exact⟨ak,e2.congr λt=>(aeP g im t).trans (hg t)⟩
def NP(f:Nat->Int):∀(k:Nat) {m i j lo hi:Nat} (g:Nat->Int),i+j<=k->0<i->0<j->lo<=m-i->i<=m->m+j<=hi->oe lo hi f g->oe lo hi f (lL g (m-i) m (m+j))
 |0,m,i,j,lo,hi,g,h,i0,_,_,_,_,_=>by omega
 |k+1,m,i,j,lo,hi,g,h,i0,j0,h1,h2,h3,p=>by
  by_cases e:i=j
  ·subst e;rw[<-show sR g (m-i) m i=lL g (m-i) m (m+i)from funext (aeP g h2)];exact p.trans (OI g h1 i (by omega) (by omega))
  ·by_cases lt:j<i
   ·rw[<-show lL (sR g (m-i) m j) (m-(i-j)) m (m+j)=_ from funext (WE g h2 j0 lt)];exact NP f k _ (by omega) (by omega) j0 (by omega) (by omega) h3 (p.trans (OI g h1 j (by omega) (by omega)))
   ·rw[<-show lL (sR g (m-i) (m+j-i) i) (m-i) m (m+(j-i))=_ from funext (MM g h2 i0 (by omega))];exact NP f k _ (by omega) i0 (by omega) h1 h2 (by omega) (p.trans (OI g h1 i (by omega) (by omega)))
def Qc(f:Nat->Int){a m b:Nat}(h1:a<m)(h2:m<b):oe a b f (lL f a m b):=by have:=NP f (b-a) (m:=m) (i:=m-a) (j:=b-m) (lo:=a) (hi:=b) f (by omega) (by omega) (by omega) (by omega) (by omega) (by omega) .refl;rwa [show m-(m-a)=a by omega,show m+(b-m)=b by omega]at this
end
def wf1:tn aj false=false:=aS rfl rfl
def wf2:tn aj true=false:=aS rfl rfl
def Lk(k:Int->Int)(x y:Int):Prop:=k x<k y\/k x=k y/\x<y
def Lk.trans{k:Int->Int}{x y z:Int}(h1:Lk k x y)(h2:Lk k y z):Lk k x z:=by unfold Lk at *;omega
def sN(k:Int->Int)(f:Nat->Int)(a b:Nat):Prop:=∀i j,a<=i->i<j->j<b->Lk k (f i) (f j)
def H2(V:AW)(B n:Nat)(fv:ad)(k:Int->Int)(D:Int->Prop):Prop:=∀U f,kT V B n f U->∀x y,D x->D y->∃c:Int,ba fv [.ae x,.ae y] U=some (.ae c,U)/\(c<0<->k x<k y)
section
variable {V U W:AW} {B n c:Nat} {f g:Nat->Int} {fv:ad} {k:Int->Int} {D:Int->Prop}
def oe.qL{a b:Nat}(p:oe a b f g)(hb:b<=n)(hD:∀t,t<n->D (f t)):∀t,t<n->D (g t):=λt ht=>by
 by_cases h:a<=t/\t<b
 ·obtain⟨s,s1,s2,e⟩:=p.sub t h.1 h.2;rw[e];exact hD s (by omega)
 ·rw[p.out h];exact hD t ht
def K7{o t:Option (ad×AW)}{Q:(Nat->Int)->Prop}(h:Ok t λr=>r.1=.tuple #[]/\∃g,kT V B n g r.2/\Q g)(hW:kT V B n f W)(Nr:∀{r},t=some r->o=some (gc W r)):∃U g,o=some (.tuple #[],U)/\kT V B n g U/\Q g:=by obtain⟨r,h1,h2,g,h3,h4⟩:=h;obtain⟨U,e1,e2⟩:=adg ⟨r,h1,h2,h3⟩ hW Nr;exact⟨U,g,e1,e2,h4⟩
def Xu(k:Int->Int)(f g:Nat->Int)(a i j:Nat):Prop:=oe a (i+1) f g/\g j=f i/\(∀s t,a<=s->s<t->t<=i->t≠j->Lk k (g s) (g t))/\∀s,a<=s->s<=i->s≠j->g s<f i
def Xu.step{a i j:Nat}(h:Xu k f g a i j)(h1:a<j)(h2:j<=i)(hk:k (g j)<k (g (j-1))):Xu k f (swp g j (j-1)) a i (j-1):=by
 obtain⟨p,e,s,l⟩:=h;refine⟨.step p (by omega) (by omega) (by omega) (by omega),?_,λx y x1 x2 x3 x4=>?_,λx x1 x2 x3=>?_⟩
 ·unfold swp;rw[an rfl];exact e
 ·unfold swp;rw[ap x4];by_cases c:y=j
  ·subst c;rw[an rfl];by_cases c2:x=y-1
   ·rw[an c2];exact .inl hk
   ·rw[ap c2,bM];exact s x (y-1) x1 (by omega) (by omega) (by omega)
  ·rw[ap c];by_cases c2:x=j-1
   ·rw[an c2];exact s j y (by omega) (by omega) x3 c
   ·rw[ap c2];by_cases c3:x=j
    ·rw[an c3];exact s (j-1) y (by omega) (by omega) x3 c
    ·rw[ap c3];exact s x y x1 x2 x3 c
 ·unfold swp;rw[ap x3];split
  ·exact l (j-1) (by omega) (by omega) (by omega)
  ·rename_i c;exact l x x1 x2 c
def Xu.done{a i j:Nat}(h:Xu k f g a i j)(h1:a<=j)(h2:j<=i)(hk:j=a\/¬k (g j)<k (g (j-1))):sN k g a (i+1):=by
 obtain⟨p,e,s,l⟩:=h;intro x y x1 x2 x3;by_cases c:y=j
 ·subst c;rcases hk with hk|hk
  ·omega
  ·have h3:Lk k (g (y-1)) (g y):=by have:=l (y-1) (by omega) (by omega) (by omega);rw[<-e]at this;unfold Lk;omega
   by_cases c2:x=y-1
   ·rw[c2];exact h3
   ·exact(s x (y-1) x1 (by omega) (by omega) (by omega)).trans h3
 ·exact s x y x1 x2 (by omega) c
def adK{R:ai.Fr}{K:LT->Option LT}{G:LT->Prop}(hn:n<=10000)(hc:H2 V B n fv k D)(hD:∀t,t<n->D (f t)){a i:Nat}(hi:a<i)(nP:i<n)(hW:kT V B n f U)(hs:sN k f a i)(hl:∀s,a<=s->s<i->f s<f i)
 (r0:R 0=.slice (some ⟨B,0,none⟩) n c)(r1:R 1=.ae (a:Int))(r3:R 3=fv)(r9:R 9=.ae (i:Int))
 (hk:∀(R':ai.Fr) (U':AW) g,R' 0=R 0->R' 1=R 1->R' 2=R 2->R' 3=R 3->R' 8=R 8->kT V B n g U'->oe a (i+1) f g->sN k g a (i+1)->Ok (K (X.exit 2,R',U')) G):
 Ok (fb (fZ (cY ba) R U) K) G:=by
 refine bh (i-a) (by omega) (λq Q U=>Q 0=R 0/\Q 1=R 1/\Q 2=R 2/\Q 3=R 3/\Q 8=R 8/\∃j:Nat,j+q=i/\a<=j/\Q 9=.ae (j:Int)/\∃g,kT V B n g U/\Xu k f g a i j)
  (λr=>r.1=.exit 2/\r.2.1 0=R 0/\r.2.1 1=R 1/\r.2.1 2=R 2/\r.2.1 3=R 3/\r.2.1 8=R 8/\∃g,kT V B n g r.2.2/\oe a (i+1) f g/\sN k g a (i+1))
  ⟨rfl,rfl,rfl,rfl,rfl,i,by omega,by omega,r9,f,hW,.refl,rfl,λs t h1 h2 h3 h4=>hs s t h1 h2 (by omega),λs h1 h2 h3=>hl s h1 (by omega)⟩ ?_ ?_ ?_
 ·rintro q Q U hq ⟨q0,q1,q2,q3,q8,j,j1,j2,q9,g,u,I⟩;have ja:a<j:=by omega
  have z1:((a:Int)<(j:Int)):=by omega
  have s1:=λt c d W'=>Bz (a:=j) (b:=1) (by omega) (by omega) t c d W'
  have hDg:=I.1.qL (n:=n) (by omega) hD;obtain⟨cv,c1,c2⟩:=hc U g u (g j) (g (j-1)) (hDg j (by omega)) (hDg (j-1) (by omega));have x1:∀k W',pc 1 (.slice (some ⟨B,0,none⟩) n c) (.int k (j:Int)) W'=some (.pointer (some ⟨B,j,none⟩),W'):=λk W'=>Q9 (by omega) k W'
  have x2:∀k W',pc 1 (.slice (some ⟨B,0,none⟩) n c) (.int k ((j-1:Nat):Int)) W'=some (.pointer (some ⟨B,j-1,none⟩),W'):=λk W'=>Q9 (by omega) k W'
  unfold cY;by_cases lt:cv<0
  ·have d1:=aK lt;obtain⟨v1,u1⟩:=u.st (i:=j) (by omega) (g (j-1));obtain⟨v2,u2⟩:=u1.st (i:=j-1) (by omega) (g j);simp only[SX,q0,q1,q3,r0,r1,r3,q9,z1,show((1:Int))=((1:Nat):Int)from rfl,s1,x1,x2,u.ld (i:=j) (by omega),u.ld (i:=j-1) (by omega),c1,d1,v1,v2,ah];refine .inl ⟨ak,q0.trans r0,q1.trans r1,q2,q3.trans r3,q8,j-1,by omega,by omega,rfl,_,u2,?_⟩;have:=I.step ja (by omega) (c2.1 lt);unfold swp at this;exact this
  ·have d1:=aL lt;simp only[SX,q0,q1,q3,r0,r1,r3,q9,z1,show((1:Int))=((1:Nat):Int)from rfl,s1,x1,x2,u.ld (i:=j) (by omega),u.ld (i:=j-1) (by omega),c1,d1,ah];exact .inr ⟨by simp,ak,q0.trans r0,q1.trans r1,q2,q3.trans r3,q8,g,u,I.1,I.done j2 (by omega) (.inr λh=>lt (c2.2 h))⟩
 ·rintro Q U ⟨q0,q1,q2,q3,q8,j,j1,j2,q9,g,u,I⟩;have ja:j=a:=by omega
  have z1:¬((a:Int)<(j:Int)):=by omega
  unfold cY;simp only[SX,q1,r1,q9,z1,ah];exact⟨by simp,ak,q0,q1.trans r1,q2,q3,q8,g,u,I.1,I.done j2 (by omega) (.inl ja)⟩
 ·rintro⟨q,Q,U⟩ ⟨rfl,q0,q1,q2,q3,q8,g,u,p,s⟩;exact hk Q U g q0 q1 q2 q3 q8 u p s
def Dx(hn:n<=10000)(hc:H2 V B n fv k D)(hD:∀t,t<n->D (f t))(hW:kT V B n f W){a b:Nat}(ha:a<=100000)(hb:b<=n)(hl:∀s t,a<=s->s<t->t<b->f s<f t):∃U g,ba (.func (.func 213) #[] #[]) [.slice (some ⟨B,0,none⟩) n c,.ae (a:Int),.ae (b:Int),fv] W=some (.tuple #[],U)/\kT V B n g U/\oe a b f g/\sN k g a b:=by
 by_cases hab:b<=a
 ·refine K7 (Q:=λg=>oe a b f g/\sN k g a b) ?_ hW eO;unfold dL;have t2:=λt c d W'=>yM (a:=a) (b:=1) (by omega) t c d W'
  simp only[SX,show((1:Int))=((1:Nat):Int)from rfl,t2];refine bh 0 (by omega) (λq Q U=>U=W/\Q 2=.ae (b:Int)/\Q 8=.ae ((a+1:Nat):Int)) (λr=>r.1=.exit 0/\r.2.2=W) ⟨rfl,rfl,rfl⟩ (λq Q U h=>by omega) ?_ ?_
  ·rintro Q U ⟨rfl,q2,q8⟩;unfold cP;have z1:¬(((a+1:Nat):Int)<(b:Int)):=by omega
   simp only[SX,q2,q8,z1,ah];exact⟨by simp,ak,ak⟩
  ·rintro⟨q,Q,U⟩ ⟨rfl,rfl⟩;simp only[SX,ah];exact⟨ak,f,hW,.refl,λi j h1 h2 h3=>by omega⟩
 ·refine K7 (Q:=λg=>oe a b f g/\sN k g a b) ?_ hW eO;unfold dL;have t2:=λt c d W'=>yM (a:=a) (b:=1) (by omega) t c d W'
  simp only[SX,show((1:Int))=((1:Nat):Int)from rfl,t2];refine bh (b-(a+1)) (by omega) (λq Q U=>Q 0=.slice (some ⟨B,0,none⟩) n c/\Q 1=.ae (a:Int)/\Q 2=.ae (b:Int)/\Q 3=fv/\Q 8=.ae ((a+1+q:Nat):Int)/\∃g,kT V B n g U/\oe a (a+1+q) f g/\sN k g a (a+1+q))
   (λr=>r.1=.exit 0/\∃g,kT V B n g r.2.2/\oe a b f g/\sN k g a b) ⟨rfl,rfl,rfl,rfl,rfl,f,hW,.refl,λi j h1 h2 h3=>by omega⟩ ?_ ?_ ?_
  ·rintro q Q U hq ⟨q0,q1,q2,q3,q8,g,u,p,s⟩;unfold cP;have z1:(((a+1+q:Nat):Int)<(b:Int)):=by omega
   have t3:=λt c d W'=>yM (a:=a+1+q) (b:=1) (by omega) t c d W'
   simp only[SX,q2,q8,z1];refine adK (f:=g) (i:=a+1+q) (a:=a) (c:=c) hn hc (p.qL (by omega) hD) (by omega) (by omega) u s (λx x1 x2=>?_) q0 q1 q3 rfl λR' U' g' r0 r1 r2 r3 r8 u' p' s'=>?_
   ·obtain⟨y,y1,y2,e⟩:=p.sub x x1 x2;rw[e,p.out (by omega)];exact hl y _ y1 y2 (by omega)
   ·have r8':R' 8=.ae ((a+1+q:Nat):Int):=r8.trans q8;simp only[SX,r8',show((1:Int))=((1:Nat):Int)from rfl,t3,ah];exact .inl ⟨ak,r0.trans q0,r1.trans q1,r2.trans q2,r3.trans q3,rfl,g',u',(p.mono (aQ _) (by omega)).trans p',s'⟩
  ·rintro Q U ⟨q0,q1,q2,q3,q8,g,u,p,s⟩;unfold cP;rw[show a+1+(b-(a+1))=b by omega]at q8 p s;have z1:¬((b:Int)<(b:Int)):=by omega
   simp only[SX,q2,q8,z1,ah];exact⟨by simp,ak,g,u,p,s⟩
  ·rintro⟨q,Q,U⟩ ⟨rfl,g,u,p,s⟩;simp only[SX,ah];exact⟨ak,g,u,p,s⟩
end
def Qa{n:Nat}(h:n<1000000000000)(W:AW):tY Tryz.prog 3 228 (.ae (n:Int)) W=some (.int .u64 (n:Int),W):=by have:tY Tryz.prog 3 228 (.ae (n:Int)) W=some (.int .u64 (IntKind.u64.wrap (n:Int)),W):=aS (by kernel_rfl) rfl;rw[this,Dq (by omega) (by omega)]
def cv3{n:Nat}(h:n<1000000000000)(W:AW):tY Tryz.prog 228 3 (.int .u64 (n:Int)) W=some (.ae (n:Int),W):=by have:tY Tryz.prog 228 3 (.int .u64 (n:Int)) W=some (.ae (IntKind.i64.wrap (n:Int)),W):=aS (by kernel_rfl) rfl;rw[this,wm (by omega) (by omega)]
def KH(n:Nat)(W:AW):bO Tryz.prog .shr 228 false true (.int .u64 (n:Int)) (.int .u64 1) W=some (.int .u64 ((n/2:Nat):Int),W):=by refine sC (by simp[rP,Gn]) rfl rfl rfl ?_;simp[eqGuard,binOp,Op.shift];have e:((n:Int)).fdiv (2^ min 1 IntKind.u64.bits)=(n:Int)/2:=OK _ (by decide);rw[e];rfl
def QZ{a:Nat}(h:a<100000000000)(t:af)(c d:Bool)(W:AW):bO Tryz.prog .add t c d (.ae (a:Int)) (.ae 1) W=some (.ae ((a+1:Nat):Int),W):=yM (a:=a) (b:=1) (by omega) t c d W
def abp{a:Nat}(h:1<=a)(ha:a<100000000000)(t:af)(c d:Bool)(W:AW):bO Tryz.prog .sub t c d (.ae (a:Int)) (.ae 1) W=some (.ae ((a-1:Nat):Int),W):=Bz (a:=a) (b:=1) h (by omega) t c d W
section
variable {ρ:Type} {V U W:AW} {B n c:Nat} {f g:Nat->Int} {fv:ad} {k:Int->Int} {D:Int->Prop} {R:ai.Fr} {K:LT->Option ρ} {G:ρ->Prop}
def TS(hn:n<=10000)(hc:H2 V B n fv k D)(hD:∀t,t<n->D (f t))(u:kT V B n f U){s0 r0 p:Nat}(h1:s0<=r0)(h2:r0<=n)(hp:p<100000)(hb:∀x,s0<=x->x<r0->x<=p/\p-x<n)
 (hX:∀x y,s0<=x->x<=y->y<r0->k (f x)<=k (f y))(hY:∀x y,s0<=x->x<=y->y<r0->k (f (p-y))<=k (f (p-x)))
 (q0:R 0=.slice (some ⟨B,0,none⟩) n c)(q4:R 4=fv)(q20:R 20=.ae (s0:Int))(q21:R 21=.ae (r0:Int))(q22:R 22=.ae (p:Int))
 (hk:∀(R':ai.Fr) (st:Nat),s0<=st->st<=r0->(∀x,s0<=x->x<st->k (f x)<=k (f (p-x)))->(∀x,st<=x->x<r0->k (f (p-x))<k (f x))->R' 0=R 0->R' 1=R 1->R' 2=R 2->R' 3=R 3->R' 4=R 4->R' 18=R 18->R' 19=R 19->R' 20=.ae (st:Int)->Ok (K (X.exit 8,R',U)) G):
 Ok (fb (fZ (eu ba) R U) K) G:=by
 refine bh (r0-s0) (by omega) (λi Q U'=>U'=U/\Q 0=R 0/\Q 1=R 1/\Q 2=R 2/\Q 3=R 3/\Q 4=R 4/\Q 18=R 18/\Q 19=R 19/\Q 22=R 22/\∃st r:Nat,Q 20=.ae (st:Int)/\Q 21=.ae (r:Int)/\s0<=st/\st<=r/\r<=r0/\r-st+i<=r0-s0/\(∀x,s0<=x->x<st->k (f x)<=k (f (p-x)))/\∀x,r<=x->x<r0->k (f (p-x))<k (f x))
  (λr=>r.1=.exit 8/\r.2.2=U/\r.2.1 0=R 0/\r.2.1 1=R 1/\r.2.1 2=R 2/\r.2.1 3=R 3/\r.2.1 4=R 4/\r.2.1 18=R 18/\r.2.1 19=R 19/\∃st:Nat,r.2.1 20=.ae (st:Int)/\s0<=st/\st<=r0/\(∀x,s0<=x->x<st->k (f x)<=k (f (p-x)))/\∀x,st<=x->x<r0->k (f (p-x))<k (f x))
  ⟨rfl,rfl,rfl,rfl,rfl,rfl,rfl,rfl,rfl,s0,r0,q20,q21,by omega,h1,by omega,by omega,λx a b=>by omega,λx a b=>by omega⟩ ?_ ?_ ?_
 ·rintro i Q U' hi ⟨rfl,z0,z1,z2,z3,z4,Vo,Vb,z22,st,r,z20,XO,a1,a2,a3,a4,a5,a6⟩;unfold eu;by_cases e:st=r
  ·subst e;have t1:¬((st:Int)<(st:Int)):=by omega
   simp only[SX,z20,XO,t1,ah];exact .inr ⟨by simp,ak,ak,z0,z1,z2,z3,z4,Vo,Vb,st,z20,a1,a3,a5,a6⟩
  ·have t1:((st:Int)<(r:Int)):=by omega
   obtain⟨x,hx⟩:∃x,x=(st+r)/2:=⟨_,rfl⟩;have b1:st<=x:=by omega
   have b2:x<r:=by omega
   have ta:=λt c d W'=>yM (a:=st) (b:=r) (by omega) t c d W'
   have tb:=λW'=>Qa (n:=st+r) (by omega) W'
   have tc:=λW'=>KH (st+r) W'
   rw[<-hx]at tc;have td:=λW'=>cv3 (n:=x) (by omega) W'
   obtain⟨b3,b4⟩:=hb x (by omega) (by omega);have te:=λt c d W'=>Bz (a:=p) (b:=x) b3 (by omega) t c d W'
   have tf:=λt c d W'=>QZ (a:=x) (by omega) t c d W'
   obtain⟨cv,c1,c2⟩:=hc U' f u (f (p-x)) (f x) (hD _ b4) (hD _ (by omega));have x1:∀k W',pc 1 (.slice (some ⟨B,0,none⟩) n c) (.int k (x:Int)) W'=some (.pointer (some ⟨B,x,none⟩),W'):=λk W'=>Q9 (by omega) k W'
   have x2:∀k W',pc 1 (.slice (some ⟨B,0,none⟩) n c) (.int k ((p-x:Nat):Int)) W'=some (.pointer (some ⟨B,p-x,none⟩),W'):=λk W'=>Q9 b4 k W'
   have z0':=z0.trans q0;have z4':=z4.trans q4;have aeI:=z22.trans q22;by_cases lt:cv<0
   ·have d1:=aK lt;simp only[SX,z20,XO,t1,ta,tb,tc,td,aeI,te,z0',z4',x1,x2,u.ld (i:=x) (by omega),u.ld (i:=p-x) b4,c1,d1,tf,ah];refine .inl ⟨ak,ak,z0,z1,z2,z3,z4,Vo,Vb,z22,st,x,z20,rfl,a1,b1,by omega,by omega,a5,λy y1 y2=>?_⟩;by_cases c:r<=y
    ·exact a6 y c y2
    ·have:=hX x y (by omega) y1 y2;have:=hY x y (by omega) y1 y2;have:=c2.1 lt;omega
   ·have d1:=aL lt;simp only[SX,z20,XO,t1,ta,tb,tc,td,aeI,te,z0',z4',x1,x2,u.ld (i:=x) (by omega),u.ld (i:=p-x) b4,c1,d1,tf,ah];refine .inl ⟨ak,ak,z0,z1,z2,z3,z4,Vo,Vb,z22,x+1,r,rfl,XO,by omega,by omega,a3,by omega,λy y1 y2=>?_,a6⟩;have h3:=hX y x y1 (by omega) (by omega);have h4:=hY y x y1 (by omega) (by omega);have:¬k (f (p-x))<k (f x):=λh=>lt (c2.2 h)
    omega
 ·rintro Q U' ⟨rfl,z0,z1,z2,z3,z4,Vo,Vb,z22,st,r,z20,XO,a1,a2,a3,a4,a5,a6⟩;have e:st=r:=by omega
  subst e;unfold eu;have t1:¬((st:Int)<(st:Int)):=by omega
  simp only[SX,z20,XO,t1,ah];exact⟨by simp,ak,ak,z0,z1,z2,z3,z4,Vo,Vb,st,z20,a1,a3,a5,a6⟩
 ·rintro⟨q,Q,U'⟩ ⟨rfl,rfl,z0,z1,z2,z3,z4,Vo,Vb,st,z20,a1,a3,a5,a6⟩;exact hk Q st a1 a3 a5 a6 z0 z1 z2 z3 z4 Vo Vb z20
def Tt(hn:n<=10000)(hc:H2 V B n fv k D)(hD:∀t,t<n->D (f t))(u:kT V B n f U){s0 r0 p:Nat}(h1:s0<=r0)(h2:r0<=n)(hp:p<100000)(hb:∀x,s0<=x->x<r0->x<=p/\p-x<n)
 (hX:∀x y,s0<=x->x<=y->y<r0->k (f x)<=k (f y))(hY:∀x y,s0<=x->x<=y->y<r0->k (f (p-y))<=k (f (p-x)))
 (q0:R 0=.slice (some ⟨B,0,none⟩) n c)(q4:R 4=fv)(q20:R 20=.ae (s0:Int))(q21:R 21=.ae (r0:Int))(q22:R 22=.ae (p:Int))
 (hk:∀(R':ai.Fr) (st:Nat),s0<=st->st<=r0->(∀x,s0<=x->x<st->k (f x)<=k (f (p-x)))->(∀x,st<=x->x<r0->k (f (p-x))<k (f x))->R' 0=R 0->R' 1=R 1->R' 2=R 2->R' 3=R 3->R' 4=R 4->R' 18=R 18->R' 19=R 19->R' 20=.ae (st:Int)->Ok (K (X.exit 8,R',U)) G):
 Ok (fb (fZ (ee ba) R U) K) G:=by
 refine bh (r0-s0) (by omega) (λi Q U'=>U'=U/\Q 0=R 0/\Q 1=R 1/\Q 2=R 2/\Q 3=R 3/\Q 4=R 4/\Q 18=R 18/\Q 19=R 19/\Q 22=R 22/\∃st r:Nat,Q 20=.ae (st:Int)/\Q 21=.ae (r:Int)/\s0<=st/\st<=r/\r<=r0/\r-st+i<=r0-s0/\(∀x,s0<=x->x<st->k (f x)<=k (f (p-x)))/\∀x,r<=x->x<r0->k (f (p-x))<k (f x))
  (λr=>r.1=.exit 8/\r.2.2=U/\r.2.1 0=R 0/\r.2.1 1=R 1/\r.2.1 2=R 2/\r.2.1 3=R 3/\r.2.1 4=R 4/\r.2.1 18=R 18/\r.2.1 19=R 19/\∃st:Nat,r.2.1 20=.ae (st:Int)/\s0<=st/\st<=r0/\(∀x,s0<=x->x<st->k (f x)<=k (f (p-x)))/\∀x,st<=x->x<r0->k (f (p-x))<k (f x))
  ⟨rfl,rfl,rfl,rfl,rfl,rfl,rfl,rfl,rfl,s0,r0,q20,q21,by omega,h1,by omega,by omega,λx a b=>by omega,λx a b=>by omega⟩ ?_ ?_ ?_
 ·rintro i Q U' hi ⟨rfl,z0,z1,z2,z3,z4,Vo,Vb,z22,st,r,z20,XO,a1,a2,a3,a4,a5,a6⟩;unfold ee;by_cases e:st=r
  ·subst e;have t1:¬((st:Int)<(st:Int)):=by omega
   simp only[SX,z20,XO,t1,ah];exact .inr ⟨by simp,ak,ak,z0,z1,z2,z3,z4,Vo,Vb,st,z20,a1,a3,a5,a6⟩
  ·have t1:((st:Int)<(r:Int)):=by omega
   obtain⟨x,hx⟩:∃x,x=(st+r)/2:=⟨_,rfl⟩;have b1:st<=x:=by omega
   have b2:x<r:=by omega
   have ta:=λt c d W'=>yM (a:=st) (b:=r) (by omega) t c d W'
   have tb:=λW'=>Qa (n:=st+r) (by omega) W'
   have tc:=λW'=>KH (st+r) W'
   rw[<-hx]at tc;have td:=λW'=>cv3 (n:=x) (by omega) W'
   obtain⟨b3,b4⟩:=hb x (by omega) (by omega);have te:=λt c d W'=>Bz (a:=p) (b:=x) b3 (by omega) t c d W'
   have tf:=λt c d W'=>QZ (a:=x) (by omega) t c d W'
   obtain⟨cv,c1,c2⟩:=hc U' f u (f (p-x)) (f x) (hD _ b4) (hD _ (by omega));have x1:∀k W',pc 1 (.slice (some ⟨B,0,none⟩) n c) (.int k (x:Int)) W'=some (.pointer (some ⟨B,x,none⟩),W'):=λk W'=>Q9 (by omega) k W'
   have x2:∀k W',pc 1 (.slice (some ⟨B,0,none⟩) n c) (.int k ((p-x:Nat):Int)) W'=some (.pointer (some ⟨B,p-x,none⟩),W'):=λk W'=>Q9 b4 k W'
   have z0':=z0.trans q0;have z4':=z4.trans q4;have aeI:=z22.trans q22;by_cases lt:cv<0
   ·have d1:=aK lt;simp only[SX,z20,XO,t1,ta,tb,tc,td,aeI,te,z0',z4',x1,x2,u.ld (i:=x) (by omega),u.ld (i:=p-x) b4,c1,d1,tf,ah];refine .inl ⟨ak,ak,z0,z1,z2,z3,z4,Vo,Vb,z22,st,x,z20,rfl,a1,b1,by omega,by omega,a5,λy y1 y2=>?_⟩;by_cases c:r<=y
    ·exact a6 y c y2
    ·have:=hX x y (by omega) y1 y2;have:=hY x y (by omega) y1 y2;have:=c2.1 lt;omega
   ·have d1:=aL lt;simp only[SX,z20,XO,t1,ta,tb,tc,td,aeI,te,z0',z4',x1,x2,u.ld (i:=x) (by omega),u.ld (i:=p-x) b4,c1,d1,tf,ah];refine .inl ⟨ak,ak,z0,z1,z2,z3,z4,Vo,Vb,z22,x+1,r,rfl,XO,by omega,by omega,a3,by omega,λy y1 y2=>?_,a6⟩;have h3:=hX y x y1 (by omega) (by omega);have h4:=hY y x y1 (by omega) (by omega);have:¬k (f (p-x))<k (f x):=λh=>lt (c2.2 h)
    omega
 ·rintro Q U' ⟨rfl,z0,z1,z2,z3,z4,Vo,Vb,z22,st,r,z20,XO,a1,a2,a3,a4,a5,a6⟩;have e:st=r:=by omega
  subst e;unfold ee;have t1:¬((st:Int)<(st:Int)):=by omega
  simp only[SX,z20,XO,t1,ah];exact⟨by simp,ak,ak,z0,z1,z2,z3,z4,Vo,Vb,st,z20,a1,a3,a5,a6⟩
 ·rintro⟨q,Q,U'⟩ ⟨rfl,rfl,z0,z1,z2,z3,z4,Vo,Vb,st,z20,a1,a3,a5,a6⟩;exact hk Q st a1 a3 a5 a6 z0 z1 z2 z3 z4 Vo Vb z20
end
noncomputable def aaL(R:Nat->ad)(U:AW):Option (ad×AW):=fb (bO Tryz.prog .sub 3 false false (R 19) (R 20) U) λLz=>fb (bO Tryz.prog .lss 3 false false (R 20) (R 2) Lz.2) λX4=>fb (qJ (tn X4.1 true) (dS (R 2) X4.2) (some (aj,X4.2))) λr84=>fb (qJ (tn X4.1 true) (dS Lz.1 r84.2) (some (aj,r84.2))) λr85=>fb (qJ (tn X4.1 true) (bO Tryz.prog .lss 3 false false r84.1 r85.1 r85.2) (some (aj,r85.2))) λr86=>fb (kH X4.1 r86.1 (.bool false) r86.2) λZN=>PE ZN.1 (fb (ba (vX 221) [(R 0),(R 20),(R 2),Lz.1,(R 4)] ZN.2) λr88=>fb (bO Tryz.prog .lss 3 false false (R 1) (R 20) r88.2) λVw=>fb (qJ (tn Vw.1 true) (dS (R 20) Vw.2) (some (aj,Vw.2))) λr90=>fb (qJ (tn Vw.1 true) (dS (R 18) r90.2) (some (aj,r90.2))) λr91=>fb (qJ (tn Vw.1 true) (bO Tryz.prog .lss 3 false false r90.1 r91.1 r91.2) (some (aj,r91.2))) λr92=>fb (kH Vw.1 r92.1 (.bool false) r92.2) λr93=>PE r93.1 (fb (ba (vX 214) [(R 0),(R 1),(R 20),(R 18),(R 4)] r93.2) λr94=>fb (bO Tryz.prog .lss 3 false false (R 18) Lz.1 r94.2) λYo=>fb (qJ (tn Yo.1 true) (dS Lz.1 Yo.2) (some (aj,Yo.2))) λr96=>fb (qJ (tn Yo.1 true) (dS (R 3) r96.2) (some (aj,r96.2))) λr97=>fb (qJ (tn Yo.1 true) (bO Tryz.prog .lss 3 false false r96.1 r97.1 r97.2) (some (aj,r97.2))) λr98=>fb (kH Yo.1 r98.1 (.bool false) r98.2) λr99=>PE r99.1 (fb (ba (vX 214) [(R 0),(R 18),Lz.1,(R 3),(R 4)] r99.2) λalb=>iX Tryz.prog [] alb.2) (iX Tryz.prog [] r99.2)) (fb (bO Tryz.prog .lss 3 false false (R 18) Lz.1 r93.2) λY1=>fb (qJ (tn Y1.1 true) (dS Lz.1 Y1.2) (some (aj,Y1.2))) λame=>fb (qJ (tn Y1.1 true) (dS (R 3) ame.2) (some (aj,ame.2))) λajS=>fb (qJ (tn Y1.1 true) (bO Tryz.prog .lss 3 false false ame.1 ajS.1 ajS.2) (some (aj,ajS.2))) λapI=>fb (kH Y1.1 apI.1 (.bool false) apI.2) λaj3=>PE aj3.1 (fb (ba (vX 214) [(R 0),(R 18),Lz.1,(R 3),(R 4)] aj3.2) λava=>iX Tryz.prog [] ava.2) (iX Tryz.prog [] aj3.2))) (fb (bO Tryz.prog .lss 3 false false (R 1) (R 20) ZN.2) λYz=>fb (qJ (tn Yz.1 true) (dS (R 20) Yz.2) (some (aj,Yz.2))) λalQ=>fb (qJ (tn Yz.1 true) (dS (R 18) alQ.2) (some (aj,alQ.2))) λak7=>fb (qJ (tn Yz.1 true) (bO Tryz.prog .lss 3 false false alQ.1 ak7.1 ak7.2) (some (aj,ak7.2))) λart=>fb (kH Yz.1 art.1 (.bool false) art.2) λajR=>PE ajR.1 (fb (ba (vX 214) [(R 0),(R 1),(R 20),(R 18),(R 4)] ajR.2) λawA=>fb (bO Tryz.prog .lss 3 false false (R 18) Lz.1 awA.2) λXD=>fb (qJ (tn XD.1 true) (dS Lz.1 XD.2) (some (aj,XD.2))) λajA=>fb (qJ (tn XD.1 true) (dS (R 3) ajA.2) (some (aj,ajA.2))) λako=>fb (qJ (tn XD.1 true) (bO Tryz.prog .lss 3 false false ajA.1 ako.1 ako.2) (some (aj,ako.2))) λaqW=>fb (kH XD.1 aqW.1 (.bool false) aqW.2) λakw=>PE akw.1 (fb (ba (vX 214) [(R 0),(R 18),Lz.1,(R 3),(R 4)] akw.2) λatY=>iX Tryz.prog [] atY.2) (iX Tryz.prog [] akw.2)) (fb (bO Tryz.prog .lss 3 false false (R 18) Lz.1 ajR.2) λXU=>fb (qJ (tn XU.1 true) (dS Lz.1 XU.2) (some (aj,XU.2))) λakW=>fb (qJ (tn XU.1 true) (dS (R 3) akW.2) (some (aj,akW.2))) λakC=>fb (qJ (tn XU.1 true) (bO Tryz.prog .lss 3 false false akW.1 akC.1 akC.2) (some (aj,akC.2))) λapc=>fb (kH XU.1 apc.1 (.bool false) apc.2) λakc=>PE akc.1 (fb (ba (vX 214) [(R 0),(R 18),Lz.1,(R 3),(R 4)] akc.2) λasI=>iX Tryz.prog [] asI.2) (iX Tryz.prog [] akc.2)))
noncomputable def QJ(R:Nat->ad)(en:ad)(U:AW):Option (ad×AW):=fb (bO Tryz.prog .lss 3 false false (R 18) en U) λYo=>fb (qJ (tn Yo.1 true) (dS en Yo.2) (some (aj,Yo.2))) λr96=>fb (qJ (tn Yo.1 true) (dS (R 3) r96.2) (some (aj,r96.2))) λr97=>fb (qJ (tn Yo.1 true) (bO Tryz.prog .lss 3 false false r96.1 r97.1 r97.2) (some (aj,r97.2))) λr98=>fb (kH Yo.1 r98.1 (.bool false) r98.2) λr99=>PE r99.1 (fb (ba (vX 214) [(R 0),(R 18),en,(R 3),(R 4)] r99.2) λalb=>iX Tryz.prog [] alb.2) (iX Tryz.prog [] r99.2)
noncomputable def KM(R:Nat->ad)(en:ad)(U:AW):Option (ad×AW):=fb (bO Tryz.prog .lss 3 false false (R 1) (R 20) U) λVw=>fb (qJ (tn Vw.1 true) (dS (R 20) Vw.2) (some (aj,Vw.2))) λr90=>fb (qJ (tn Vw.1 true) (dS (R 18) r90.2) (some (aj,r90.2))) λr91=>fb (qJ (tn Vw.1 true) (bO Tryz.prog .lss 3 false false r90.1 r91.1 r91.2) (some (aj,r91.2))) λr92=>fb (kH Vw.1 r92.1 (.bool false) r92.2) λr93=>PE r93.1 (fb (ba (vX 214) [(R 0),(R 1),(R 20),(R 18),(R 4)] r93.2) λr94=>QJ R en r94.2) (QJ R en r93.2)
def Xy(R:Nat->ad)(U:AW):aaL R U=fb (bO Tryz.prog .sub 3 false false (R 19) (R 20) U) λLz=>fb (bO Tryz.prog .lss 3 false false (R 20) (R 2) Lz.2) λX4=>fb (qJ (tn X4.1 true) (dS (R 2) X4.2) (some (aj,X4.2))) λr84=>fb (qJ (tn X4.1 true) (dS Lz.1 r84.2) (some (aj,r84.2))) λr85=>fb (qJ (tn X4.1 true) (bO Tryz.prog .lss 3 false false r84.1 r85.1 r85.2) (some (aj,r85.2))) λr86=>fb (kH X4.1 r86.1 (.bool false) r86.2) λZN=>PE ZN.1 (fb (ba (vX 221) [(R 0),(R 20),(R 2),Lz.1,(R 4)] ZN.2) λr88=>KM R Lz.1 r88.2) (KM R Lz.1 ZN.2):=rfl
def sN.le{k:Int->Int}{f:Nat->Int}{a b i j:Nat}(h:sN k f a b)(h1:a<=i)(h2:i<=j)(h3:j<b):k (f i)<=k (f j):=by
 by_cases e:i=j
 ·rw[e];exact sy _
 ·have:=h i j h1 (by omega) h3;unfold Lk at this;omega
def sN.sub{k:Int->Int}{f:Nat->Int}{a b a' b':Nat}(h:sN k f a b)(h1:a<=a')(h2:b'<=b):sN k f a' b':=λi j x1 x2 x3=>h i j (by omega) x2 (by omega)
structure Lh (k:Int->Int) (f:Nat->Int) (a m b:Nat):Prop where
 l:sN k f a m
 r:sN k f m b
 s:∀s t,a<=s->s<m->m<=t->t<b->f s<f t
section
variable {k:Int->Int} {f g g2 g3:Nat->Int} {a m b st mid en:Nat}
structure Hlf (k:Int->Int) (g:Nat->Int) (a st mid en b:Nat):Prop where
 l:Lh k g a st mid
 r:Lh k g mid en b
 x:∀s t,a<=s->s<mid->mid<=t->t<b->Lk k (g s) (g t)
def Lh.half(h:Lh k f a m b)(h1:a<=st)(h2:st<=m)(h3:st<=mid)(he:st+en=mid+m)(h4:m<=en)(h5:en<=b)(f1:st=a\/en=b\/k (f (st-1))<=k (f en))(f2:st=m\/en=m\/k (f (en-1))<k (f st)):Hlf k (lL f st m en) a st mid en b:=by
 have ra:∀t,t<st->lL f st m en t=f t:=λt ht=>by unfold lL;rw[bM,bM]
 have rb:∀t,st<=t->t<mid->lL f st m en t=f (t+(m-st)):=λt x y=>by unfold lL;rw[kJ]
 have rc:∀t,mid<=t->t<en->lL f st m en t=f (t-(en-m)):=λt x y=>by unfold lL;rw[bM,kJ]
 have rd:∀t,en<=t->lL f st m en t=f t:=λt ht=>by unfold lL;rw[bM,bM]
 refine⟨⟨λi j x1 x2 x3=>?_,λi j x1 x2 x3=>?_,λs t x1 x2 x3 x4=>?_⟩,⟨λi j x1 x2 x3=>?_,λi j x1 x2 x3=>?_,λs t x1 x2 x3 x4=>?_⟩,λs t x1 x2 x3 x4=>?_⟩
 ·rw[ra i (by omega),ra j x3];exact h.l i j x1 x2 (by omega)
 ·rw[rb i x1 (by omega),rb j (by omega) x3];exact h.r _ _ (by omega) (by omega) (by omega)
 ·rw[ra s x2,rb t x3 x4];exact h.s _ _ x1 (by omega) (by omega) (by omega)
 ·rw[rc i x1 (by omega),rc j (by omega) x3];exact h.l _ _ (by omega) (by omega) (by omega)
 ·rw[rd i x1,rd j (by omega)];exact h.r _ _ (by omega) x2 x3
 ·rw[rc s x1 x2,rd t x3];exact h.s _ _ (by omega) (by omega) (by omega) x4
 ·by_cases c1:s<st
  ·rw[ra s c1];by_cases c2:t<en
   ·rw[rc t x3 c2];exact h.l _ _ x1 (by omega) (by omega)
   ·rw[rd t (by omega)];have q:k (f (st-1))<=k (f en):=by rcases f1 with f1|f1|f1<;>omega
    have q1:=h.l.le (i:=s) (j:=st-1) x1 (by omega) (by omega);have q2:=h.r.le (i:=en) (j:=t) h4 (by omega) x4;have q3:=h.s s t x1 (by omega) (by omega) x4;unfold Lk;omega
  ·rw[rb s (by omega) x2];by_cases c2:t<en
   ·rw[rc t x3 c2];have q:k (f (en-1))<k (f st):=by rcases f2 with f2|f2|f2<;>omega
    have q1:=h.r.le (i:=s+(m-st)) (j:=en-1) (by omega) (by omega) (by omega);have q2:=h.l.le (i:=st) (j:=t-(en-m)) h1 (by omega) (by omega);exact .inl (by omega)
   ·rw[rd t (by omega)];exact h.r _ _ (by omega) (by omega) x4
def Hlf.join(h:Hlf k g a st mid en b)(p2:oe a mid g g2)(s2:sN k g2 a mid)(p3:oe mid b g2 g3)(s3:sN k g3 mid b):sN k g3 a b:=by
 intro i j x1 x2 x3;by_cases c1:i<mid
 ·rw[p3.out (t:=i) (by omega)];by_cases c2:j<mid
  ·rw[p3.out (t:=j) (by omega)];exact s2 i j x1 x2 c2
  ·obtain⟨i',i1,i2,e1⟩:=p2.sub i x1 c1;obtain⟨j',j1,j2,e2⟩:=p3.sub j (by omega) x3;rw[e1,e2,p2.out (t:=j') (by omega)];exact h.x _ _ i1 i2 j1 j2
 ·exact s3 i j (by omega) x2 x3
end
def afY(V:AW)(B n c:Nat)(fv:ad)(k:Int->Int)(D:Int->Prop)(d:Nat):Prop:=∀a m b f W,b-a<d->a<m->m<b->b<=n->kT V B n f W->(∀t,t<n->D (f t))->Lh k f a m b->
 ∃U g,ba (.func (.func 214) #[] #[]) [.slice (some ⟨B,0,none⟩) n c,.ae (a:Int),.ae (m:Int),.ae (b:Int),fv] W=some (.tuple #[],U)/\kT V B n g U/\oe a b f g/\sN k g a b
section
variable {V U W:AW} {B n c:Nat} {f g:Nat->Int} {fv:ad} {k:Int->Int} {D:Int->Prop} {R:ai.Fr} {a m b st mid en d:Nat}
def aer(hS:afY V B n c fv k D d)(hd:b-mid<d)(h1:mid<=en)(h2:en<=b)(hb:b<=n)(u:kT V B n g U)(hD:∀t,t<n->D (g t))(h:Lh k g mid en b)
 (r0:R 0=.slice (some ⟨B,0,none⟩) n c)(r3:R 3=.ae (b:Int))(r4:R 4=fv)(Oi:R 18=.ae (mid:Int)):Ok (QJ R (.ae (en:Int)) U) λr=>r.1=.tuple #[]/\∃g3,kT V B n g3 r.2/\oe mid b g g3/\sN k g3 mid b:=by
 unfold QJ;by_cases c1:mid<en
 ·have d1:decide ((mid:Int)<(en:Int))=true:=cK;by_cases c2:en<b
  ·have d2:decide ((en:Int)<(b:Int))=true:=cK;obtain⟨U1,g3,e1,e2,e3,e4⟩:=hS mid en b g U hd c1 c2 hb u hD h;simp only[SX,r0,r3,r4,Oi,d1,d2,e1,ah];exact⟨ak,g3,e2,e3,e4⟩
  ·have d2:decide ((en:Int)<(b:Int))=false:=cg;simp only[SX,r0,r3,r4,Oi,d1,d2,ah];exact⟨ak,g,u,.refl,h.l.sub (aQ _) (by omega)⟩
 ·have d1:decide ((mid:Int)<(en:Int))=false:=cg;simp only[SX,r0,r3,r4,Oi,d1,ah];exact⟨ak,g,u,.refl,h.r.sub (by omega) (aQ _)⟩
def Lh.keep{g2:Nat->Int}{a':Nat}(p:oe a' mid g g2)(h:Lh k g mid en b)(h1:mid<=en):Lh k g2 mid en b:=by
 have e:∀t,mid<=t->g2 t=g t:=λt ht=>p.out (by omega)
 exact⟨λi j x1 x2 x3=>by rw[e i x1,e j (by omega)];exact h.l i j x1 x2 x3,λi j x1 x2 x3=>by rw[e i (by omega),e j (by omega)];exact h.r i j x1 x2 x3,λi j x1 x2 x3 x4=>by rw[e i x1,e j (by omega)];exact h.s i j x1 x2 x3 x4⟩
def YZ(hS:afY V B n c fv k D d)(hd1:mid-a<d)(hd2:b-mid<d)(h1:a<=st)(h2:st<=mid)(h3:mid<=en)(h4:en<=b)(hb:b<=n)(u:kT V B n g U)(hD:∀t,t<n->D (g t))(h:Hlf k g a st mid en b)
 (r0:R 0=.slice (some ⟨B,0,none⟩) n c)(r1:R 1=.ae (a:Int))(r3:R 3=.ae (b:Int))(r4:R 4=fv)(Oi:R 18=.ae (mid:Int))(ZP:R 20=.ae (st:Int)):Ok (KM R (.ae (en:Int)) U) λr=>r.1=.tuple #[]/\∃g3,kT V B n g3 r.2/\oe a b g g3/\sN k g3 a b:=by
 have key:∀g2 U2,kT V B n g2 U2->oe a mid g g2->sN k g2 a mid->Ok (QJ R (.ae (en:Int)) U2) λr=>r.1=.tuple #[]/\∃g3,kT V B n g3 r.2/\oe a b g g3/\sN k g3 a b:=λg2 U2 u2 p2 s2=>by obtain⟨r,e1,e2,g3,e3,e4,e5⟩:=aer hS hd2 h3 h4 hb u2 (p2.qL (by omega) hD) (h.r.keep p2 h3) r0 r3 r4 Oi;exact⟨r,e1,e2,g3,e3,(p2.mono (aQ _) (by omega)).trans (e4.mono (by omega) (aQ _)),h.join p2 s2 e4 e5⟩
 unfold KM;by_cases c1:a<st
 ·have d1:decide ((a:Int)<(st:Int))=true:=cK;by_cases c2:st<mid
  ·have d2:decide ((st:Int)<(mid:Int))=true:=cK;obtain⟨U1,g2,e1,e2,e3,e4⟩:=hS a st mid g U hd1 c1 c2 (by omega) u hD h.l;simp only[SX,r0,r1,r4,Oi,ZP,d1,d2,e1];exact key g2 U1 e2 e3 e4
  ·have d2:decide ((st:Int)<(mid:Int))=false:=cg;simp only[SX,r0,r1,r4,Oi,ZP,d1,d2];exact key g U u .refl (h.l.l.sub (aQ _) (by omega))
 ·have d1:decide ((a:Int)<(st:Int))=false:=cg;simp only[SX,r0,r1,r4,Oi,ZP,d1];exact key g U u .refl (h.l.r.sub (by omega) (aQ _))
def MW(hn:n<=10000)(hS:afY V B n c fv k D d)(hd1:mid-a<d)(hd2:b-mid<d)(h1:a<=st)(h2:st<=m)(HN:st<=mid)(he:st+en=mid+m)(h3:m<=en)(h4:en<=b)(akY:mid<=en)(hb:b<=n)(u:kT V B n f U)(hD:∀t,t<n->D (f t))(h:Lh k f a m b)
 (f1:st=a\/en=b\/k (f (st-1))<=k (f en))(f2:st=m\/en=m\/k (f (en-1))<k (f st))
 (r0:R 0=.slice (some ⟨B,0,none⟩) n c)(r1:R 1=.ae (a:Int))(r2:R 2=.ae (m:Int))(r3:R 3=.ae (b:Int))(r4:R 4=fv)(Oi:R 18=.ae (mid:Int))(r19:R 19=.ae ((mid+m:Nat):Int))(ZP:R 20=.ae (st:Int)):Ok (aaL R U) λr=>r.1=.tuple #[]/\∃g,kT V B n g r.2/\oe a b f g/\sN k g a b:=by
 have hh:=h.half h1 h2 HN he h3 h4 f1 f2;have key:∀U2,kT V B n (lL f st m en) U2->oe a b f (lL f st m en)->Ok (KM R (.ae (en:Int)) U2) λr=>r.1=.tuple #[]/\∃g,kT V B n g r.2/\oe a b f g/\sN k g a b:=λU2 u2 p=>by obtain⟨r,e1,e2,g,e3,e4,e5⟩:=YZ hS hd1 hd2 h1 HN akY h4 hb u2 (p.qL hb hD) hh r0 r1 r3 r4 Oi ZP;exact⟨r,e1,e2,g,e3,p.trans e4,e5⟩
 rw[Xy];have t1:=λt c d W'=>Bz (a:=mid+m) (b:=st) (by omega) (by omega) t c d W'
 rw[show mid+m-st=en by omega]at t1;by_cases c1:st<m
 ·have d1:decide ((st:Int)<(m:Int))=true:=cK;by_cases c2:m<en
  ·have d2:decide ((m:Int)<(en:Int))=true:=cK;obtain⟨U1,e1,e2⟩:=Zq (c:=c) (fv:=fv) hn u c1 c2 (by omega);simp only[SX,r0,r2,r4,r19,ZP,t1,d1,d2,e1];exact key U1 e2 ((Qc f c1 c2).mono h1 h4)
  ·have d2:decide ((m:Int)<(en:Int))=false:=cg;simp only[SX,r0,r2,r4,r19,ZP,t1,d1,d2];have e:∀t,f t=lL f st m en t:=λt=>by
    unfold lL;split
    ·omega
    ·split
     ·congr 1;omega
     ·rfl
   refine key U (u.congr e) ?_;rw[<-show f=lL f st m en from funext e];exact .refl
 ·have d1:decide ((st:Int)<(m:Int))=false:=cg;simp only[SX,r0,r2,r4,r19,ZP,t1,d1];have e:∀t,f t=lL f st m en t:=λt=>by
   unfold lL;split
   ·congr 1;omega
   ·split
    ·omega
    ·rfl
  refine key U (u.congr e) ?_;rw[<-show f=lL f st m en from funext e];exact .refl
end
section
variable {ρ:Type} {V U W:AW} {B n c:Nat} {f g:Nat->Int} {fv:ad} {k:Int->Int} {D:Int->Prop} {R:ai.Fr} {K:LT->Option ρ} {G:ρ->Prop} {a m b:Nat}
def aep(hn:n<=10000)(hc:H2 V B n fv k D)(hD:∀t,t<n->D (f t))(u:kT V B n f U)(h1:a<m)(h2:m<=b)(hb:b<=n)(hs:sN k f m b)
 (q0:R 0=.slice (some ⟨B,0,none⟩) n c)(q1:R 1=.ae (a:Int))(q4:R 4=fv)(q10:R 10=.ae (m:Int))(q11:R 11=.ae (b:Int))
 (hk:∀(R':ai.Fr) (i:Nat),m<=i->i<=b->(∀x,m<=x->x<i->k (f x)<k (f a))->(∀x,i<=x->x<b->k (f a)<=k (f x))->R' 0=.slice (some ⟨B,0,none⟩) n c->R' 1=.ae (a:Int)->R' 10=.ae (i:Int)->Ok (K (X.exit 0,R',U)) G):
 Ok (fb (fZ (dZ ba) R U) K) G:=by
 refine bh (b-m) (by omega) (λq Q U'=>U'=U/\Q 0=.slice (some ⟨B,0,none⟩) n c/\Q 1=.ae (a:Int)/\Q 4=fv/\∃i j:Nat,Q 10=.ae (i:Int)/\Q 11=.ae (j:Int)/\m<=i/\i<=j/\j<=b/\j-i+q<=b-m/\(∀x,m<=x->x<i->k (f x)<k (f a))/\∀x,j<=x->x<b->k (f a)<=k (f x))
  (λr=>r.1=.exit 0/\r.2.2=U/\r.2.1 0=.slice (some ⟨B,0,none⟩) n c/\r.2.1 1=.ae (a:Int)/\∃i:Nat,r.2.1 10=.ae (i:Int)/\m<=i/\i<=b/\(∀x,m<=x->x<i->k (f x)<k (f a))/\∀x,i<=x->x<b->k (f a)<=k (f x))
  ⟨rfl,q0,q1,q4,m,b,q10,q11,by omega,by omega,by omega,by omega,λx y z=>by omega,λx y z=>by omega⟩ ?_ ?_ ?_
 ·rintro q Q U' hq ⟨rfl,z0,z1,z4,i,j,QK,z11,a1,a2,a3,a4,a5,a6⟩;unfold dZ;by_cases e:i=j
  ·subst e;have t1:¬((i:Int)<(i:Int)):=by omega
   simp only[SX,QK,z11,t1,ah];exact .inr ⟨by simp,ak,ak,z0,z1,i,QK,a1,a3,a5,a6⟩
  ·have t1:((i:Int)<(j:Int)):=by omega
   obtain⟨x,hx⟩:∃x,x=(i+j)/2:=⟨_,rfl⟩;have ta:=λt c d W'=>yM (a:=i) (b:=j) (by omega) t c d W'
   have tb:=λW'=>Qa (n:=i+j) (by omega) W'
   have tc:=λW'=>KH (i+j) W'
   rw[<-hx]at tc;have td:=λW'=>cv3 (n:=x) (by omega) W'
   have tf:=λt c d W'=>QZ (a:=x) (by omega) t c d W'
   obtain⟨cv,c1,c2⟩:=hc U' f u (f x) (f a) (hD _ (by omega)) (hD _ (by omega));have x1:∀k W',pc 1 (.slice (some ⟨B,0,none⟩) n c) (.int k (x:Int)) W'=some (.pointer (some ⟨B,x,none⟩),W'):=λk W'=>Q9 (by omega) k W'
   have x2:∀k W',pc 1 (.slice (some ⟨B,0,none⟩) n c) (.int k (a:Int)) W'=some (.pointer (some ⟨B,a,none⟩),W'):=λk W'=>Q9 (by omega) k W'
   by_cases lt:cv<0
   ·have d1:=aK lt;simp only[SX,z0,z1,z4,QK,z11,t1,ta,tb,tc,td,x1,x2,u.ld (i:=x) (by omega),u.ld (i:=a) (by omega),c1,d1,tf,ah];refine .inl ⟨ak,ak,z0,z1,z4,x+1,j,rfl,z11,by omega,by omega,a3,by omega,λy y1 y2=>?_,a6⟩;have:=hs.le (i:=y) (j:=x) y1 (by omega) (by omega);have:=c2.1 lt;omega
   ·have d1:=aL lt;simp only[SX,z0,z1,z4,QK,z11,t1,ta,tb,tc,td,x1,x2,u.ld (i:=x) (by omega),u.ld (i:=a) (by omega),c1,d1,tf,ah];refine .inl ⟨ak,ak,z0,z1,z4,i,x,QK,rfl,by omega,by omega,by omega,by omega,a5,λy y1 y2=>?_⟩;have:=hs.le (i:=x) (j:=y) (by omega) y1 y2;have:¬k (f x)<k (f a):=λh=>lt (c2.2 h)
    omega
 ·rintro Q U' ⟨rfl,z0,z1,z4,i,j,QK,z11,a1,a2,a3,a4,a5,a6⟩;have e:i=j:=by omega
  subst e;unfold dZ;have t1:¬((i:Int)<(i:Int)):=by omega
  simp only[SX,QK,z11,t1,ah];exact⟨by simp,ak,ak,z0,z1,i,QK,a1,a3,a5,a6⟩
 ·rintro⟨q,Q,U'⟩ ⟨rfl,rfl,z0,z1,i,QK,a1,a3,a5,a6⟩;exact hk Q i a1 a3 a5 a6 z0 z1 QK
def Z6(hn:n<=10000)(u:kT V B n f U){i:Nat}(h1:a+1<=i)(hb:i<=n)
 (q0:R 0=.slice (some ⟨B,0,none⟩) n c)(q10:R 10=.ae (i:Int))(q13:R 13=.ae (a:Int))
 (hk:∀(R':ai.Fr) (U':AW),kT V B n (lL f a (a+1) i) U'->Ok (K (X.exit 2,R',U')) G):
 Ok (fb (fZ (ez ba) R U) K) G:=by
 have ts:=λt c d W'=>abp (a:=i) (by omega) (by omega) t c d W'
 refine bh (i-1-a) (by omega) (λq Q U'=>Q 0=.slice (some ⟨B,0,none⟩) n c/\Q 10=.ae (i:Int)/\Q 13=.ae ((a+q:Nat):Int)/\kT V B n (lL f a (a+1) (a+1+q)) U')
  (λr=>r.1=.exit 2/\kT V B n (lL f a (a+1) i) r.2.2) ⟨q0,q10,q13,u.congr λt=>?_⟩ ?_ ?_ ?_
 ·unfold lL;split
  ·omega
  ·split
   ·congr 1;omega
   ·rfl
 ·rintro q Q U' hq ⟨z0,QK,z13,u'⟩;unfold ez;have t1:(((a+q:Nat):Int)<((i-1:Nat):Int)):=by omega
  have tf:=λt c d W'=>QZ (a:=a+q) (by omega) t c d W'
  have x1:∀k W',pc 1 (.slice (some ⟨B,0,none⟩) n c) (.int k ((a+q:Nat):Int)) W'=some (.pointer (some ⟨B,a+q,none⟩),W'):=λk W'=>Q9 (by omega) k W'
  have x2:∀k W',pc 1 (.slice (some ⟨B,0,none⟩) n c) (.int k ((a+q+1:Nat):Int)) W'=some (.pointer (some ⟨B,a+q+1,none⟩),W'):=λk W'=>Q9 (by omega) k W'
  obtain⟨s1,u1⟩:=u'.st (i:=a+q) (by omega) (lL f a (a+1) (a+1+q) (a+q+1));obtain⟨s2,u2⟩:=u1.st (i:=a+q+1) (by omega) (lL f a (a+1) (a+1+q) (a+q));simp only[SX,z0,QK,z13,ts,t1,tf,x1,x2,u'.ld (i:=a+q) (by omega),u'.ld (i:=a+q+1) (by omega),s1,s2,ah];refine .inl ⟨ak,z0,QK,rfl,u2.congr λt=>?_⟩;unfold lL;repeat' split
  all_goals first|omega|rfl|(congr 1;omega)
 ·rintro Q U' ⟨z0,QK,z13,u'⟩;unfold ez;have t1:¬(((a+(i-1-a):Nat):Int)<((i-1:Nat):Int)):=by omega
  simp only[SX,QK,z13,ts,t1,ah];exact⟨by simp,ak,u'.congr λt=>by rw[show a+1+(i-1-a)=i by omega]⟩
 ·rintro⟨q,Q,U'⟩ ⟨rfl,u'⟩;exact hk Q U' u'
def adE(hn:n<=10000)(hc:H2 V B n fv k D)(hD:∀t,t<n->D (f t))(u:kT V B n f U)(h1:a<=m)(h2:m<n)(hs:sN k f a m)
 (q0:R 0=.slice (some ⟨B,0,none⟩) n c)(q2:R 2=.ae (m:Int))(q4:R 4=fv)(q14:R 14=.ae (a:Int))(q15:R 15=.ae (m:Int))
 (hk:∀(R':ai.Fr) (i:Nat),a<=i->i<=m->(∀x,a<=x->x<i->k (f x)<=k (f m))->(∀x,i<=x->x<m->k (f m)<k (f x))->R' 0=.slice (some ⟨B,0,none⟩) n c->R' 2=.ae (m:Int)->R' 14=.ae (i:Int)->Ok (K (X.exit 4,R',U)) G):
 Ok (fb (fZ (eA ba) R U) K) G:=by
 refine bh (m-a) (by omega) (λq Q U'=>U'=U/\Q 0=.slice (some ⟨B,0,none⟩) n c/\Q 2=.ae (m:Int)/\Q 4=fv/\∃i j:Nat,Q 14=.ae (i:Int)/\Q 15=.ae (j:Int)/\a<=i/\i<=j/\j<=m/\j-i+q<=m-a/\(∀x,a<=x->x<i->k (f x)<=k (f m))/\∀x,j<=x->x<m->k (f m)<k (f x))
  (λr=>r.1=.exit 4/\r.2.2=U/\r.2.1 0=.slice (some ⟨B,0,none⟩) n c/\r.2.1 2=.ae (m:Int)/\∃i:Nat,r.2.1 14=.ae (i:Int)/\a<=i/\i<=m/\(∀x,a<=x->x<i->k (f x)<=k (f m))/\∀x,i<=x->x<m->k (f m)<k (f x))
  ⟨rfl,q0,q2,q4,a,m,q14,q15,by omega,by omega,by omega,by omega,λx y z=>by omega,λx y z=>by omega⟩ ?_ ?_ ?_
 ·rintro q Q U' hq ⟨rfl,z0,z2,z4,i,j,UO,z15,a1,a2,a3,a4,a5,a6⟩;unfold eA;by_cases e:i=j
  ·subst e;have t1:¬((i:Int)<(i:Int)):=by omega
   simp only[SX,UO,z15,t1,ah];exact .inr ⟨by simp,ak,ak,z0,z2,i,UO,a1,a3,a5,a6⟩
  ·have t1:((i:Int)<(j:Int)):=by omega
   obtain⟨x,hx⟩:∃x,x=(i+j)/2:=⟨_,rfl⟩;have ta:=λt c d W'=>yM (a:=i) (b:=j) (by omega) t c d W'
   have tb:=λW'=>Qa (n:=i+j) (by omega) W'
   have tc:=λW'=>KH (i+j) W'
   rw[<-hx]at tc;have td:=λW'=>cv3 (n:=x) (by omega) W'
   have tf:=λt c d W'=>QZ (a:=x) (by omega) t c d W'
   obtain⟨cv,c1,c2⟩:=hc U' f u (f m) (f x) (hD _ (by omega)) (hD _ (by omega));have x1:∀k W',pc 1 (.slice (some ⟨B,0,none⟩) n c) (.int k (x:Int)) W'=some (.pointer (some ⟨B,x,none⟩),W'):=λk W'=>Q9 (by omega) k W'
   have x2:∀k W',pc 1 (.slice (some ⟨B,0,none⟩) n c) (.int k (m:Int)) W'=some (.pointer (some ⟨B,m,none⟩),W'):=λk W'=>Q9 (by omega) k W'
   by_cases lt:cv<0
   ·have d1:=aK lt;simp only[SX,z0,z2,z4,UO,z15,t1,ta,tb,tc,td,x1,x2,u.ld (i:=x) (by omega),u.ld (i:=m) (by omega),c1,d1,tf,ah];refine .inl ⟨ak,ak,z0,z2,z4,i,x,UO,rfl,by omega,by omega,by omega,by omega,a5,λy y1 y2=>?_⟩;have:=hs.le (i:=x) (j:=y) (by omega) y1 y2;have:=c2.1 lt;omega
   ·have d1:=aL lt;simp only[SX,z0,z2,z4,UO,z15,t1,ta,tb,tc,td,x1,x2,u.ld (i:=x) (by omega),u.ld (i:=m) (by omega),c1,d1,tf,ah];refine .inl ⟨ak,ak,z0,z2,z4,x+1,j,rfl,z15,by omega,by omega,a3,by omega,λy y1 y2=>?_,a6⟩;have:=hs.le (i:=y) (j:=x) y1 (by omega) (by omega);have:¬k (f m)<k (f x):=λh=>lt (c2.2 h)
    omega
 ·rintro Q U' ⟨rfl,z0,z2,z4,i,j,UO,z15,a1,a2,a3,a4,a5,a6⟩;have e:i=j:=by omega
  subst e;unfold eA;have t1:¬((i:Int)<(i:Int)):=by omega
  simp only[SX,UO,z15,t1,ah];exact⟨by simp,ak,ak,z0,z2,i,UO,a1,a3,a5,a6⟩
 ·rintro⟨q,Q,U'⟩ ⟨rfl,rfl,z0,z2,i,UO,a1,a3,a5,a6⟩;exact hk Q i a1 a3 a5 a6 z0 z2 UO
def abi(hn:n<=10000)(u:kT V B n f U){i:Nat}(h1:i<=m)(hb:m<n)
 (q0:R 0=.slice (some ⟨B,0,none⟩) n c)(q14:R 14=.ae (i:Int))(q17:R 17=.ae (m:Int))
 (hk:∀(R':ai.Fr) (U':AW),kT V B n (lL f i m (m+1)) U'->Ok (K (X.exit 6,R',U')) G):
 Ok (fb (fZ (eB ba) R U) K) G:=by
 refine bh (m-i) (by omega) (λq Q U'=>Q 0=.slice (some ⟨B,0,none⟩) n c/\Q 14=.ae (i:Int)/\∃j:Nat,j+q=m/\Q 17=.ae (j:Int)/\kT V B n (lL f j m (m+1)) U')
  (λr=>r.1=.exit 6/\kT V B n (lL f i m (m+1)) r.2.2) ⟨q0,q14,m,rfl,q17,u.congr λt=>?_⟩ ?_ ?_ ?_
 ·unfold lL;split
  ·congr 1;omega
  ·split
   ·omega
   ·rfl
 ·rintro q Q U' hq ⟨z0,UO,j,hj,z17,u'⟩;unfold eB;have t1:((i:Int)<(j:Int)):=by omega
  have ts:=λt c d W'=>abp (a:=j) (by omega) (by omega) t c d W'
  have x1:∀k W',pc 1 (.slice (some ⟨B,0,none⟩) n c) (.int k (j:Int)) W'=some (.pointer (some ⟨B,j,none⟩),W'):=λk W'=>Q9 (by omega) k W'
  have x2:∀k W',pc 1 (.slice (some ⟨B,0,none⟩) n c) (.int k ((j-1:Nat):Int)) W'=some (.pointer (some ⟨B,j-1,none⟩),W'):=λk W'=>Q9 (by omega) k W'
  obtain⟨s1,u1⟩:=u'.st (i:=j) (by omega) (lL f j m (m+1) (j-1));obtain⟨s2,u2⟩:=u1.st (i:=j-1) (by omega) (lL f j m (m+1) j);simp only[SX,z0,UO,z17,ts,t1,x1,x2,u'.ld (i:=j) (by omega),u'.ld (i:=j-1) (by omega),s1,s2,ah];refine .inl ⟨ak,z0,UO,j-1,by omega,rfl,u2.congr λt=>?_⟩;unfold lL;repeat' split
  all_goals first|omega|rfl|(congr 1;omega)
 ·rintro Q U' ⟨z0,UO,j,hj,z17,u'⟩;have e:j=i:=by omega
  subst e;unfold eB;have t1:¬((j:Int)<(j:Int)):=by omega
  simp only[SX,UO,z17,t1,ah];exact⟨by simp,ak,u'⟩
 ·rintro⟨q,Q,U'⟩ ⟨rfl,u'⟩;exact hk Q U' u'
end
def Ra(f:Nat->Int)(a b t:Nat):lL f a b b t=f t/\lL f a a b t=f t:=by unfold lL;refine⟨?_,?_⟩<;>(split;first|omega|(congr 1;omega))<;>split<;>first|omega|rfl|(congr 1;omega)
def Si(f:Nat->Int){a m b:Nat}(h1:a<=m)(h2:m<=b):oe a b f (lL f a m b):=by
 by_cases c1:a<m
 ·by_cases c2:m<b
  ·exact Qc f c1 c2
  ·have:m=b:=by omega
   subst this;rw[show lL f a m m=f from funext λt=>(Ra f a m t).1];exact .refl
 ·have:a=m:=by omega
  subst this;rw[show lL f a a b=f from funext λt=>(Ra f a b t).2];exact .refl
section
variable {V U W:AW} {B n c:Nat} {f g:Nat->Int} {fv:ad} {k:Int->Int} {D:Int->Prop} {a m b:Nat}
def Lh.first{i:Nat}(h:Lh k f a (a+1) b)(h1:a+1<=i)(h2:i<=b)(s1:∀x,a+1<=x->x<i->k (f x)<k (f a))(s2:∀x,i<=x->x<b->k (f a)<=k (f x)):sN k (lL f a (a+1) i) a b:=by
 have ra:∀t,a<=t->t<i-1->lL f a (a+1) i t=f (t+1):=λt x y=>by unfold lL;rw[kJ];congr 1;omega
 have rb:lL f a (a+1) i (i-1)=f a:=by unfold lL;rw[bM,kJ];congr 1;omega
 have rc:∀t,i<=t->lL f a (a+1) i t=f t:=λt x=>by unfold lL;rw[bM,bM]
 intro s t x1 x2 x3;by_cases c1:s<i-1
 ·rw[ra s x1 c1];by_cases c2:t<i-1
  ·rw[ra t (by omega) c2];exact h.r _ _ (by omega) (by omega) (by omega)
  ·by_cases c3:t=i-1
   ·rw[c3,rb];exact .inl (s1 _ (by omega) (by omega))
   ·rw[rc t (by omega)];exact h.r _ _ (by omega) (by omega) x3
 ·by_cases c2:s=i-1
  ·rw[c2,rb,rc t (by omega)];have:=s2 t (by omega) x3;have:=h.s a t (by omega) (by omega) (by omega) x3;unfold Lk;omega
  ·rw[rc s (by omega),rc t (by omega)];exact h.r _ _ (by omega) x2 x3
def Lh.last{i:Nat}(h:Lh k f a m (m+1))(h1:a<=i)(h2:i<=m)(s1:∀x,a<=x->x<i->k (f x)<=k (f m))(s2:∀x,i<=x->x<m->k (f m)<k (f x)):sN k (lL f i m (m+1)) a (m+1):=by
 have ra:∀t,t<i->lL f i m (m+1) t=f t:=λt x=>by unfold lL;rw[bM,bM]
 have rb:lL f i m (m+1) i=f m:=by unfold lL;rw[kJ];congr 1;omega
 have rc:∀t,i<t->t<=m->lL f i m (m+1) t=f (t-1):=λt x y=>by unfold lL;rw[bM,kJ];congr 1;omega
 intro s t x1 x2 x3;by_cases c1:s<i
 ·rw[ra s c1];by_cases c2:t<i
  ·rw[ra t c2];exact h.l _ _ x1 x2 (by omega)
  ·by_cases c3:t=i
   ·rw[c3,rb];have:=s1 s x1 c1;have:=h.s s m x1 (by omega) (by omega) (by omega);unfold Lk;omega
   ·rw[rc t (by omega) (by omega)];exact h.l _ _ x1 (by omega) (by omega)
 ·by_cases c2:s=i
  ·rw[c2,rb,rc t (by omega) (by omega)];exact .inl (s2 _ (by omega) (by omega))
  ·rw[rc s (by omega) (by omega),rc t (by omega) (by omega)];exact h.l _ _ (by omega) (by omega) (by omega)
def zT(hn:n<=10000)(hc:H2 V B n fv k D):∀d,afY V B n c fv k D d
 |0=>λa m b f W h=>by omega
 |d+1=>by
  intro a m b f W hd h1 h2 hb hW hD h;have ih:=zT hn hc d;refine K7 (Q:=λg=>oe a b f g/\sN k g a b) ?_ hW rt;unfold mc;have s1:=λt c d W'=>Bz (a:=m) (b:=a) (by omega) (by omega) t c d W'
  by_cases e1:m-a=1
  ·have d1:decide (((m-a:Nat):Int)=1)=true:=cK;obtain rfl:m=a+1:=by omega
   simp only[SX,s1,d1];refine aep (c:=c) (a:=a) (m:=a+1) (b:=b) hn hc hD hW (by omega) (by omega) hb h.r ?_ ?_ ?_ ?_ ?_ λR' i i1 i2 i3 i4 r0 r1 pi=>?_
   ·rfl
   ·rfl
   ·rfl
   ·rfl
   ·rfl
   simp only[SX,r1];refine Z6 (c:=c) (a:=a) (i:=i) hn hW i1 (by omega) ?_ ?_ ?_ λR'' U' u'=>?_
   ·exact r0
   ·exact pi
   ·rfl
   simp only[SX,ah];exact⟨ak,_,u',(Si f (by omega) i1).mono (aQ _) i2,h.first i1 i2 i3 i4⟩
  have d1:decide (((m-a:Nat):Int)=1)=false:=cg;have s2:=λt c d W'=>Bz (a:=b) (b:=m) (by omega) (by omega) t c d W'
  by_cases e2:b-m=1
  ·have d2:decide (((b-m:Nat):Int)=1)=true:=cK;obtain rfl:b=m+1:=by omega
   simp only[SX,s1,d1,s2,d2];refine adE (c:=c) (a:=a) (m:=m) hn hc hD hW (by omega) (by omega) h.l ?_ ?_ ?_ ?_ ?_ λR' i i1 i2 i3 i4 r0 r2 Um=>?_
   ·rfl
   ·rfl
   ·rfl
   ·rfl
   ·rfl
   simp only[SX,r2];refine abi (c:=c) (m:=m) (i:=i) hn hW i2 (by omega) ?_ ?_ ?_ λR'' U' u'=>?_
   ·exact r0
   ·exact Um
   ·rfl
   simp only[SX,ah];exact⟨ak,_,u',(Si f i2 (by omega)).mono i1 (aQ _),h.last i1 i2 i3 i4⟩
  have d2:decide (((b-m:Nat):Int)=1)=false:=cg;obtain⟨mid,akY⟩:∃mid,mid=(a+b)/2:=⟨_,rfl⟩;have ta:=λt c d W'=>yM (a:=a) (b:=b) (by omega) t c d W'
  have tb:=λW'=>Qa (n:=a+b) (by omega) W'
  have tc:=λW'=>KH (a+b) W'
  rw[<-akY]at tc;have td:=λW'=>cv3 (n:=mid) (by omega) W'
  have te:=λt c d W'=>yM (a:=mid) (b:=m) (by omega) t c d W'
  have tp:=λt c d W'=>abp (a:=mid+m) (by omega) (by omega) t c d W'
  by_cases lt:mid<m
  ·have d3:decide ((mid:Int)<(m:Int))=true:=cK;have tg:=λt c d W'=>Bz (a:=mid+m) (b:=b) (by omega) (by omega) t c d W'
   simp only[SX,s1,d1,s2,d2,ta,tb,tc,td,te,d3,tg,tp];refine TS (c:=c) (s0:=mid+m-b) (r0:=mid) (p:=mid+m-1) hn hc hD hW (by omega) (by omega) (by omega) (λx x1 x2=>by omega) (λx y x1 x2 x3=>h.l.le (by omega) x2 (by omega)) (λx y x1 x2 x3=>h.r.le (by omega) (by omega) (by omega)) ?_ ?_ ?_ ?_ ?_ λR' st y1 y2 y3 y4 r0 r1 r2 r3 r4 Oi r19 ZP=>?_
   ·rfl
   ·rfl
   ·rfl
   ·rfl
   ·rfl
   exact MW (a:=a) (m:=m) (b:=b) (st:=st) (mid:=mid) (en:=mid+m-st) hn ih (by omega) (by omega) (by omega) (by omega) (by omega) (by omega) (by omega) (by omega) (by omega) hb hW hD h
    (by
      by_cases c:st=mid+m-b
      ·exact .inr (.inl (by omega))
      ·have:=y3 (st-1) (by omega) (by omega);rw[show mid+m-1-(st-1)=mid+m-st by omega]at this;exact .inr (.inr this))
    (by
      by_cases c:st=mid
      ·exact .inr (.inl (by omega))
      ·have:=y4 st (by omega) (by omega);rw[show mid+m-1-st=mid+m-st-1 by omega]at this;exact .inr (.inr this)) r0 r1 r2 r3 r4 Oi r19 ZP
  ·have d3:decide ((mid:Int)<(m:Int))=false:=cg;simp only[SX,s1,d1,s2,d2,ta,tb,tc,td,te,d3,tp];refine Tt (c:=c) (s0:=a) (r0:=m) (p:=mid+m-1) hn hc hD hW (by omega) (by omega) (by omega) (λx x1 x2=>by omega) (λx y x1 x2 x3=>h.l.le (by omega) x2 (by omega)) (λx y x1 x2 x3=>h.r.le (by omega) (by omega) (by omega)) ?_ ?_ ?_ ?_ ?_ λR' st y1 y2 y3 y4 r0 r1 r2 r3 r4 Oi r19 ZP=>?_
   ·rfl
   ·rfl
   ·rfl
   ·rfl
   ·rfl
   exact MW (a:=a) (m:=m) (b:=b) (st:=st) (mid:=mid) (en:=mid+m-st) hn ih (by omega) (by omega) (by omega) (by omega) (by omega) (by omega) (by omega) (by omega) (by omega) hb hW hD h
    (by
      by_cases c:st=a
      ·exact .inl c
      ·have:=y3 (st-1) (by omega) (by omega);rw[show mid+m-1-(st-1)=mid+m-st by omega]at this;exact .inr (.inr this))
    (by
      by_cases c:st=m
      ·exact .inl c
      ·have:=y4 st (by omega) (by omega);rw[show mid+m-1-st=mid+m-st-1 by omega]at this;exact .inr (.inr this)) r0 r1 r2 r3 r4 Oi r19 ZP
end
def Kp(s n:Nat)(f g:Nat->Int):Prop:=∀q i,(i<q*s->∃j,j<q*s/\g i=f j)/\(q*s<=i->i<n->∃j,q*s<=j/\j<n/\g i=f j)
def Kp.refl(s n:Nat)(f:Nat->Int):Kp s n f f:=λq i=>⟨λh=>⟨i,h,rfl⟩,λh1 h2=>⟨i,h1,h2,rfl⟩⟩
def Kp.trans{s n:Nat}{f g h:Nat->Int}(a:Kp s n f g)(b:Kp s n g h):Kp s n f h:=λq i=>by
 refine⟨λh1=>?_,λh1 h2=>?_⟩
 ·obtain⟨j,j1,e⟩:=(b q i).1 h1;obtain⟨j',j1',e'⟩:=(a q j).1 j1;exact⟨j',j1',e.trans e'⟩
 ·obtain⟨j,j1,j2,e⟩:=(b q i).2 h1 h2;obtain⟨j',j1',j2',e'⟩:=(a q j).2 j1 j2;exact⟨j',j1',j2',e.trans e'⟩
def oe.kp{s n b q0:Nat}{f g:Nat->Int}(p:oe (q0*s) b f g)(h1:b<=q0*s+s)(h2:b<=n):Kp s n f g:=λq i=>by
 by_cases c:q0*s<=i/\i<b
 ·obtain⟨j,j1,j2,e⟩:=p.sub i c.1 c.2;refine⟨λh=>⟨j,?_,e⟩,λh3 h4=>⟨j,?_,by omega,e⟩⟩
  ·by_cases d:q<=q0
   ·have:=mB s d;omega
   ·have:=mB s (show q0+1<=q by omega);rw[jP,kr]at this;omega
  ·by_cases d:q<=q0
   ·have:=mB s d;omega
   ·have:=mB s (show q0+1<=q by omega);rw[jP,kr]at this;omega
 ·exact⟨λh=>⟨i,h,p.out c⟩,λh3 h4=>⟨i,h3,h4,p.out c⟩⟩
def Sep(s n:Nat)(f:Nat->Int):Prop:=∀q i j,i<q*s->q*s<=j->j<n->f i<f j
def Sep.keep{s n:Nat}{f g:Nat->Int}(h:Sep s n f)(p:Kp s n f g):Sep s n g:=λq i j h1 h2 h3=>by obtain⟨i',i1,e⟩:=(p q i).1 h1;obtain⟨j',j1,j2,e'⟩:=(p q j).2 h2 h3;rw[e,e'];exact h q i' j' i1 j1 j2
def Blk(k:Int->Int)(s n:Nat)(f:Nat->Int):Prop:=∀q,sN k f (q*s) (min n (q*s+s))
section
variable {V U W:AW} {B n c:Nat} {f g:Nat->Int} {fv:ad} {k:Int->Int} {D:Int->Prop}
def sN.LX{a b:Nat}(h:sN k f a b)(e:∀t,a<=t->t<b->g t=f t):sN k g a b:=λi j x1 x2 x3=>by rw[e i x1 (by omega),e j (by omega) x3];exact h i j x1 x2 x3
def Lh.of{s q b:Nat}(hb:Blk k s n f)(hs:Sep s n f)(h1:2*q*s+s<b)(h2:b<=n)(h3:b<=2*q*s+s+s):Lh k f (2*q*s) (2*q*s+s) b:=by
 have e:(2*q+1)*s=2*q*s+s:=by rw[jP,kr]
 refine⟨(hb (2*q)).sub (aQ _) (by omega),?_,λi j x1 x2 x3 x4=>hs (2*q+1) i j (by omega) (by omega) (by omega)⟩;have:=hb (2*q+1);rw[e]at this;exact this.sub (aQ _) (by omega)
end
def amj{a b:Nat}(h:a*b<1000000000000)(t:af)(c d:Bool)(W:AW):bO Tryz.prog .mul t c d (.ae (a:Int)) (.ae (b:Int)) W=some (.ae ((a*b:Nat):Int),W):=by
 have e:(a:Int)*(b:Int)=((a*b:Nat):Int):=by rw[Int.natCast_mul]
 rw[abW (by rw[e];omega) (by rw[e];omega),e]
section
variable {ρ:Type} {V U W:AW} {B n c:Nat} {f g:Nat->Int} {fv:ad} {k:Int->Int} {D:Int->Prop} {R:ai.Fr} {K:LT->Option ρ} {G:ρ->Prop}
def Lh.LX{a m b:Nat}(h:Lh k f a m b)(h1:a<=m)(h2:m<=b)(e:∀t,a<=t->t<b->g t=f t):Lh k g a m b:=
 ⟨h.l.LX λt x y=>e t x (by omega),h.r.LX λt x y=>e t (by omega) y,λs t x1 x2 x3 x4=>by rw[e s x1 (by omega),e t (by omega) x4];exact h.s s t x1 x2 x3 x4⟩
def aax(hn:n<=10000)(hc:H2 V B n fv k D)(hD:∀t,t<n->D (f t))(hf:∀i j,i<j->j<n->f i<f j)(hW:kT V B n f U)
 (q0:R 0=.slice (some ⟨B,0,none⟩) n c)(q1:R 1=.ae (n:Int))(q2:R 2=fv)(q6:R 6=.ae 20)(q7:R 7=.ae 0)(q8:R 8=.ae 20)
 (hk:∀(R':ai.Fr) (U':AW) (q:Nat) (g:Nat->Int),R' 0=.slice (some ⟨B,0,none⟩) n c->R' 1=.ae (n:Int)->R' 2=fv->R' 6=.ae 20->R' 7=.ae ((q*20:Nat):Int)->q*20<=n->n<q*20+20->kT V B n g U'->Kp 20 n f g->oe 0 n f g->(∀p,p<q->sN k g (p*20) (p*20+20))->(∀t,q*20<=t->g t=f t)->Ok (K (X.exit 0,R',U')) G):
 Ok (fb (fZ (dG ba) R U) K) G:=by
 refine bh (n/20) (by omega) (λq Q U=>Q 0=.slice (some ⟨B,0,none⟩) n c/\Q 1=.ae (n:Int)/\Q 2=fv/\Q 6=.ae 20/\Q 7=.ae ((q*20:Nat):Int)/\Q 8=.ae ((q*20+20:Nat):Int)/\∃g,kT V B n g U/\Kp 20 n f g/\oe 0 n f g/\(∀p,p<q->sN k g (p*20) (p*20+20))/\∀t,q*20<=t->g t=f t)
  (λr=>r.1=.exit 0/\r.2.1 0=.slice (some ⟨B,0,none⟩) n c/\r.2.1 1=.ae (n:Int)/\r.2.1 2=fv/\r.2.1 6=.ae 20/\r.2.1 7=.ae ((n/20*20:Nat):Int)/\∃g,kT V B n g r.2.2/\Kp 20 n f g/\oe 0 n f g/\(∀p,p<n/20->sN k g (p*20) (p*20+20))/\∀t,n/20*20<=t->g t=f t)
  ⟨q0,q1,q2,q6,q7,q8,f,hW,.refl _ _ _,.refl,λp hp=>by omega,λt _=>rfl⟩ ?_ ?_ ?_
 ·rintro q Q U hq ⟨z0,z1,z2,z6,z7,z8,g,u,kp,p,s,l⟩;unfold dG;have t1:decide (((q*20+20:Nat):Int)<=(n:Int))=true:=cK;have ta:∀t c d W',bO Tryz.prog .add t c d (.ae ((q*20+20:Nat):Int)) (.ae 20) W'=some (.ae ((q*20+20+20:Nat):Int),W'):=λt c d W'=>yM (a:=q*20+20) (b:=20) (by omega) t c d W'
  obtain⟨U1,g1,e1,e2,e3,e4⟩:=Dx (c:=c) (a:=q*20) (b:=q*20+20) hn hc (p.qL (aQ _) hD) u (by omega) (by omega) (λi j x1 x2 x3=>by rw[l i x1,l j (by omega)];exact hf i j x2 (by omega));simp only[SX,z0,z1,z2,z6,z7,z8,t1,e1,ta,ah];refine .inl ⟨ak,z0,z1,z2,z6,by rw[jP,kr];rfl,by rw[jP,kr];rfl,g1,e2,kp.trans (e3.kp (aQ _) (by omega)),p.trans (e3.mono (qy _) (by omega)),λr hr=>?_,λt ht=>?_⟩
  ·by_cases c:r=q
   ·rw[c];exact e4
   ·exact(s r (by omega)).LX λt x y=>e3.out (by omega)
  ·rw[jP,kr]at ht;rw[e3.out (by omega)];exact l t (by omega)
 ·rintro Q U ⟨z0,z1,z2,z6,z7,z8,g,u,kp,p,s,l⟩;unfold dG;have t1:decide (((n/20*20+20:Nat):Int)<=(n:Int))=false:=cg;simp only[SX,z1,z8,t1,ah];exact⟨by simp,ak,z0,z1,z2,z6,z7,g,u,kp,p,s,l⟩
 ·rintro⟨e,Q,U⟩ ⟨rfl,z0,z1,z2,z6,z7,g,u,kp,p,s,l⟩;exact hk Q U (n/20) g z0 z1 z2 z6 z7 (by omega) (by omega) u kp p s l
def adz{s:Nat}(hn:n<=10000)(hc:H2 V B n fv k D)(hD:∀t,t<n->D (f t))(hb:Blk k s n f)(hs:Sep s n f)(h0:0<s)(hsn:s<n)(hW:kT V B n f U)
 (q0:R 0=.slice (some ⟨B,0,none⟩) n c)(q1:R 1=.ae (n:Int))(q2:R 2=fv)(q6:R 6=.ae (s:Int))(q7:R 7=.ae 0)(q8:R 8=.ae ((2*s:Nat):Int))
 (hk:∀(R':ai.Fr) (U':AW) (q:Nat) (g:Nat->Int),R' 0=.slice (some ⟨B,0,none⟩) n c->R' 1=.ae (n:Int)->R' 2=fv->R' 6=.ae (s:Int)->R' 7=.ae ((q*(2*s):Nat):Int)->q*(2*s)<=n->n<q*(2*s)+2*s->kT V B n g U'->Kp (2*s) n f g->oe 0 n f g->(∀p,p<q->sN k g (p*(2*s)) (p*(2*s)+2*s))->(∀t,q*(2*s)<=t->g t=f t)->Ok (K (X.exit 4,R',U')) G):
 Ok (fb (fZ (dQ ba) R U) K) G:=by
 refine bh n (by omega) (λi Q U=>Q 0=.slice (some ⟨B,0,none⟩) n c/\Q 1=.ae (n:Int)/\Q 2=fv/\Q 6=.ae (s:Int)/\∃q:Nat,i<=q*(2*s)/\q*(2*s)<=n/\Q 7=.ae ((q*(2*s):Nat):Int)/\Q 8=.ae ((q*(2*s)+2*s:Nat):Int)/\∃g,kT V B n g U/\Kp (2*s) n f g/\oe 0 n f g/\(∀p,p<q->sN k g (p*(2*s)) (p*(2*s)+2*s))/\∀t,q*(2*s)<=t->g t=f t)
  (λr=>r.1=.exit 4/\r.2.1 0=.slice (some ⟨B,0,none⟩) n c/\r.2.1 1=.ae (n:Int)/\r.2.1 2=fv/\r.2.1 6=.ae (s:Int)/\∃q:Nat,q*(2*s)<=n/\n<q*(2*s)+2*s/\r.2.1 7=.ae ((q*(2*s):Nat):Int)/\∃g,kT V B n g r.2.2/\Kp (2*s) n f g/\oe 0 n f g/\(∀p,p<q->sN k g (p*(2*s)) (p*(2*s)+2*s))/\∀t,q*(2*s)<=t->g t=f t)
  ⟨q0,q1,q2,q6,0,by omega,by omega,by rw[um];exact q7,by rw[um,aJ];exact q8,f,hW,.refl _ _ _,.refl,λp hp=>by omega,λt _=>rfl⟩ ?_ ?_ ?_
 ·rintro i Q U hi ⟨z0,z1,z2,z6,q,y1,y2,z7,z8,g,u,kp,p,so,l⟩;unfold dQ;by_cases e:q*(2*s)+2*s<=n
  ·have t1:decide (((q*(2*s)+2*s:Nat):Int)<=(n:Int))=true:=cK;have e2:q*(2*s)=2*q*s:=by rw[Nat.mul_comm 2 q,Nat.mul_assoc]
   have ta:=λt c d W'=>yM (a:=q*(2*s)) (b:=s) (by omega) t c d W'
   have tm:∀t c d W',bO Tryz.prog .mul t c d (.ae 2) (.ae (s:Int)) W'=some (.ae ((2*s:Nat):Int),W'):=λt c d W'=>amj (a:=2) (b:=s) (by omega) t c d W'
   have tb:=λt c d W'=>yM (a:=q*(2*s)+2*s) (b:=2*s) (by omega) t c d W'
   have two:Lh k g (q*(2*s)) (q*(2*s)+s) (q*(2*s)+2*s):=by have:=Lh.of (q:=q) (b:=2*q*s+2*s) hb hs (by omega) (by omega) (by omega);rw[<-e2]at this;exact this.LX (by omega) (by omega) λt x y=>l t x
   obtain⟨U1,g1,f1,f2,f3,f4⟩:=zT (c:=c) hn hc (2*s+1) (q*(2*s)) (q*(2*s)+s) (q*(2*s)+2*s) g U (by omega) (by omega) (by omega) e u (p.qL (aQ _) hD) two;simp only[SX,z0,z1,z2,z6,z7,z8,t1,ta,f1,tm,tb,ah];refine .inl ⟨ak,z0,z1,z2,z6,q+1,by rw[jP,kr];omega,by rw[jP,kr];omega,by rw[jP,kr];rfl,by rw[jP,kr];rfl,g1,f2,kp.trans (f3.kp (aQ _) e),p.trans (f3.mono (qy _) e),λr hr=>?_,λt ht=>?_⟩
   ·by_cases c:r=q
    ·rw[c];exact f4
    ·have:=mB (2*s) (show r+1<=q by omega);rw[jP,kr]at this;exact(so r (by omega)).LX λt x y=>f3.out (by omega)
   ·rw[jP,kr]at ht;rw[f3.out (by omega)];exact l t (by omega)
  ·have t1:decide (((q*(2*s)+2*s:Nat):Int)<=(n:Int))=false:=cg;simp only[SX,z1,z8,t1,ah];exact .inr ⟨by simp,ak,z0,z1,z2,z6,q,y2,by omega,z7,g,u,kp,p,so,l⟩
 ·rintro Q U ⟨z0,z1,z2,z6,q,y1,y2,z7,z8,g,u,kp,p,so,l⟩;unfold dQ;have t1:decide (((q*(2*s)+2*s:Nat):Int)<=(n:Int))=false:=cg;simp only[SX,z1,z8,t1,ah];exact⟨by simp,ak,z0,z1,z2,z6,q,y2,by omega,z7,g,u,kp,p,so,l⟩
 ·rintro⟨e,Q,U⟩ ⟨rfl,z0,z1,z2,z6,q,y1,y2,z7,g,u,kp,p,so,l⟩;exact hk Q U q g z0 z1 z2 z6 z7 y1 y2 u kp p so l
end
def Sep.dbl{s n:Nat}{f:Nat->Int}(h:Sep s n f):Sep (2*s) n f:=λq i j h1 h2 h3=>by
 have e:q*(2*s)=2*q*s:=by rw[Nat.mul_comm 2 q,Nat.mul_assoc]
 exact h (2*q) i j (by omega) (by omega) h3
section
variable {V U W:AW} {B n c:Nat} {f g:Nat->Int} {fv:ad} {k:Int->Int} {D:Int->Prop}
def Zh(hn:n<=10000)(hc:H2 V B n fv k D)(hD:∀t,t<n->D (f t))(hf:∀i j,i<j->j<n->f i<f j)(hW:kT V B n f W):∃U g,ba (.func (.func 198) #[] #[]) [.slice (some ⟨B,0,none⟩) n c,.ae (n:Int),fv] W=some (.tuple #[],U)/\kT V B n g U/\oe 0 n f g/\sN k g 0 n:=by
 refine K7 (Q:=λg=>oe 0 n f g/\sN k g 0 n) ?_ hW kW;unfold je;refine aax (c:=c) hn hc hD hf hW ?_ ?_ ?_ ?_ ?_ ?_ λR' U1 q g r0 r1 r2 r6 r7 y1 y2 u kp p s l=>?_
 ·rfl
 ·rfl
 ·rfl
 ·rfl
 ·rfl
 ·rfl
 obtain⟨U2,g2,e1,e2,e3,e4⟩:=Dx (c:=c) (a:=q*20) (b:=n) hn hc (p.qL (aQ _) hD) u (by omega) (aQ _) (λi j x1 x2 x3=>by rw[l i x1,l j (by omega)];exact hf i j x2 x3);simp only[SX,r0,r1,r2,r7,e1];have hb:Blk k 20 n g2:=λr=>by
  by_cases c1:r<q
  ·have:=(s r c1).LX (g:=g2) λt x y=>e3.out (by omega)
   exact this.sub (aQ _) (by omega)
  ·by_cases c2:r=q
   ·rw[c2];exact e4.sub (aQ _) (by omega)
   ·exactλi j x1 x2 x3=>by omega
 have hs:Sep 20 n g2:=Sep.keep (λq i j h1 h2 h3=>hf i j (by omega) h3) (kp.trans (e3.kp (by omega) (aQ _)));refine bh n (by omega) (λi Q U=>Q 0=.slice (some ⟨B,0,none⟩) n c/\Q 1=.ae (n:Int)/\Q 2=fv/\∃s:Nat,i<s/\s<=20000/\Q 6=.ae (s:Int)/\∃g,kT V B n g U/\oe 0 n f g/\Blk k s n g/\Sep s n g)
  (λr=>r.1=.exit 2/\∃g,kT V B n g r.2.2/\oe 0 n f g/\sN k g 0 n)
  ⟨r0,r1,r2,20,by omega,by omega,r6,g2,e2,p.trans (e3.mono (qy _) (aQ _)),hb,hs⟩ ?_ ?_ ?_
 ·rintro i Q U hi ⟨z0,z1,z2,s,y1,y2,z6,g,u,p,hb,hs⟩;unfold fg;by_cases lt:s<n
  ·have t1:decide ((s:Int)<(n:Int))=true:=cK;have tm:∀t c d W',bO Tryz.prog .mul t c d (.ae 2) (.ae (s:Int)) W'=some (.ae ((2*s:Nat):Int),W'):=λt c d W'=>amj (a:=2) (b:=s) (by omega) t c d W'
   have tm2:∀t c d W',bO Tryz.prog .mul t c d (.ae (s:Int)) (.ae 2) W'=some (.ae ((s*2:Nat):Int),W'):=λt c d W'=>amj (a:=s) (b:=2) (by omega) t c d W'
   simp only[SX,z1,z6,t1,tm];refine adz (s:=s) (c:=c) (f:=g) hn hc (p.qL (aQ _) hD) hb hs (by omega) lt u ?_ ?_ ?_ ?_ ?_ ?_ λR'' U' q g' w0 w1 w2 w6 w7 x1 x2 u' kp' p' so l'=>?_
   ·exact z0
   ·exact z1
   ·exact z2
   ·exact z6
   ·rfl
   ·rfl
   have ta:=λt c d W'=>yM (a:=q*(2*s)) (b:=s) (by omega) t c d W'
   have e2:q*(2*s)=2*q*s:=by rw[Nat.mul_comm 2 q,Nat.mul_assoc]
   have mu:∀g3 U3,kT V B n g3 U3->oe (q*(2*s)) n g' g3->sN k g3 (q*(2*s)) n->∃g,kT V B n g U3/\oe 0 n f g/\Blk k (s*2) n g/\Sep (s*2) n g:=λg3 U3 u3 p3 s3=>by
    refine⟨g3,u3,(p.trans p').trans (p3.mono (qy _) (aQ _)),?_,?_⟩
    ·rw[Nat.mul_comm s 2];intro r;by_cases c1:r<q
     ·have h:=mB (2*s) (show r+1<=q by omega);rw[jP,kr]at h;have:=(so r c1).LX (g:=g3) λt x y=>p3.out (by omega)
      exact this.sub (aQ _) (by omega)
     ·by_cases c2:r=q
      ·rw[c2];exact s3.sub (aQ _) (by omega)
      ·have h:=mB (2*s) (show q+1<=r by omega);rw[jP,kr]at h;exactλi j x1 x2 x3=>by omega
    ·rw[Nat.mul_comm s 2];exact(hs.dbl.keep kp').keep (p3.kp (by omega) (aQ _))
   by_cases c1:q*(2*s)+s<n
   ·have t2:decide (((q*(2*s)+s:Nat):Int)<(n:Int))=true:=cK;have two:Lh k g' (q*(2*s)) (q*(2*s)+s) n:=by have:=Lh.of (q:=q) (b:=n) hb hs (by omega) (aQ _) (by omega);rw[<-e2]at this;exact this.LX (by omega) (by omega) λt x y=>l' t x
    obtain⟨U3,g3,f1,f2,f3,f4⟩:=zT (c:=c) hn hc (n+1) (q*(2*s)) (q*(2*s)+s) n g' U' (by omega) (by omega) c1 (aQ _) u' ((p.trans p').qL (aQ _) hD) two;simp only[SX,w0,w1,w2,w6,w7,ta,t2,f1,tm2,ah];exact .inl ⟨ak,w0,w1,w2,s*2,by omega,by omega,rfl,mu g3 U3 f2 f3 f4⟩
   ·have t2:decide (((q*(2*s)+s:Nat):Int)<(n:Int))=false:=cg;simp only[SX,w0,w1,w2,w6,w7,ta,t2,tm2,ah];refine .inl ⟨ak,w0,w1,w2,s*2,by omega,by omega,rfl,mu g' U' u' .refl ?_⟩;have:=hb (2*q);rw[<-e2]at this;exact(this.LX (g:=g') λt x y=>l' t x).sub (aQ _) (by omega)
  ·have t1:decide ((s:Int)<(n:Int))=false:=cg;simp only[SX,z1,z6,t1,ah];refine .inr ⟨by simp,ak,g,u,p,?_⟩;have:=hb 0;rw[um]at this;exact this.sub (aQ _) (by omega)
 ·rintro Q U ⟨z0,z1,z2,s,y1,y2,z6,g,u,p,hb,hs⟩;unfold fg;have t1:decide ((s:Int)<(n:Int))=false:=cg;simp only[SX,z1,z6,t1,ah];refine⟨by simp,ak,g,u,p,?_⟩;have:=hb 0;rw[um]at this;exact this.sub (aQ _) (by omega)
 ·rintro⟨e,Q,U⟩ ⟨rfl,g,u,p,s⟩;simp only[SX,ah];exact⟨ak,g,u,p,s⟩
def Mc(hn:n<=10000)(hc:H2 V B n fv k D)(hD:∀t,t<n->D (f t))(hf:∀i j,i<j->j<n->f i<f j)(hW:kT V B n f W):∃U g,ba (.func (.func 166) #[] #[]) [.slice (some ⟨B,0,none⟩) n c,fv] W=some (.tuple #[],U)/\kT V B n g U/\oe 0 n f g/\sN k g 0 n:=by
 refine K7 (Q:=λg=>oe 0 n f g/\sN k g 0 n) ?_ hW jh;unfold gn;obtain⟨U,g,e1,e2,e3,e4⟩:=Zh (c:=c) hn hc hD hf hW;have hl:∀W',aV Tryz.prog .len #[28] 3 #[false] [.slice (some ⟨B,0,none⟩) n c] W'=some (.ae (n:Int),W'):=λW'=>dg vM _ _ _
 simp only[SX,hl,e1,ah];exact⟨ak,g,e2,e3,e4⟩
end
def wn:dE:=λc a b=>bV c 199 [a] λd=>bV c 199 [b] λe=>gI d (gI e (yO [(I 0,none)]) (yO [(I (-1),none)])) (gI e (yO [(I 1,none)]) (gB (Zb a b) λf=>gI f (yO [(I (-1),none)]) (gB (ahq a b) λg=>gI g (yO [(I 1,none)]) (yO [(I 0,none)]))))
def Bs{x0 x1 W r}(h:wn ba x0 x1 W=some r):OG 168 #[] [x0,x1] W r:=oM 20 h (by kernel_rfl)
def Af:fI:=λc a=>gB (aeo a a) λb=>yO [(b,none)]
def Eg{x0 W r}(h:Af ba x0 W=some r):OG 199 #[] [x0] W r:=oM 6 h (by kernel_rfl)
def RX{W0 W:AW}{ob sb qb:Nat}{bq:Nat->Nat}{x x':cI}{sv:ad}{o:jC}{s:Int}(h:fA W0 W ob sb qb bq x sv o s){F:Nat}{t:Option (ad×AW)}{r:mK}(Nr:∀{r},t=some r->ba (.func (.func F) #[] #[]) [aZ ob] W=some (gc W r))
 (ht:Ok t λq=>q.1=gt r/\fA W0 q.2 ob sb qb bq x' sv o s/\W.next<=q.2.next/\∀b,ob<b->b<W.next->q.2.get b=W.get b):lO W0 W ob sb qb bq sv o s F x' r:=by
 obtain⟨⟨v,V⟩,k1,rfl,k2⟩:=ht;obtain⟨V2,e',q1,q2⟩:=AB (v:=gt r) (Q:=λV=>fA W0 V ob sb qb bq x' sv o s/\W.next<=V.next/\∀b,ob<b->b<W.next->V.get b=W.get b) k2 λhp=>⟨h.back k2.1 hp,aQ _,λ_ _ _=>rfl⟩
 exact⟨V2,bq,by rw[Nr k1,e'],q1,q2.1,q2.2,λ_=>.inl rfl⟩
def Co(W:AW):dU Tryz.prog 50 [] W=some (gt fw,W):=aS (by kernel_rfl) rfl
section
variable {W0 W V:AW} {ob sb qb:Nat} {bq:Nat->Nat} {x x':cI} {sv:ad} {o:jC} {s:Int}
def aaH(h:fA W0 W ob sb qb bq x sv o s)(hx:QsX W qb bq x.qs)(yQ:sb<ob/\qb<ob/\∀k,bq k<ob){k:Nat}(hk:k<x.qs.length)(N9:o.sc=(k:Int))(hl:(gJ x k).length<=1000):
 lO W0 W ob sb qb bq sv o s 134 (tD x k o.ow) (FH x k o.ow):=by
 have e0:x.qs[k]=gJ x k:=by simp[gJ,bN hk]
 obtain⟨V,al,aM,n2,g2⟩:=nB W;have h1:=h.mono aM;obtain⟨qv,q1,q2,q3,q4⟩:=hx.mono h.hi.2.2 aM;obtain⟨u,u1,u2⟩:=q3 _ hk;rw[e0]at u2;have lu:bz (.pointer (some ⟨qb,k,none⟩)) V=some (u,V):=aO (ao q1) u1;have hix:=Qg u2.rd (by omega) o.ow;rw[show nl (λy=>decide (o.ow=y)) (gJ x k)=L2 x k o.ow from rfl]at hix;by_cases c:L2 x k o.ow<0
 ·have e2:tD x k o.ow=x:=an c;have e3:FH x k o.ow=pW 4:=an c;rw[e2,e3];refine nf h ⟨yQ.1,yQ.2.1⟩ pJ ?_;unfold nJ;obtain⟨p1,p2⟩:=uf g2 (pW 4);have d:=aK c;simp only[SX,al,aR,aJ,Nat.reduceAdd,h1.l6,h1.l11,N9,ixQ hk,lu,h1.l8,hix,d,ks,p1,p2,ah];exact⟨ak,gp h h1 (.of_le aM) (aQ _) _⟩
 ·obtain⟨i,hi,ei⟩:=WS c;rw[show nl (λy=>decide (o.ow=y)) (gJ x k)=L2 x k o.ow from rfl]at ei;have e2:tD x k o.ow={x with qs:=x.qs.set k (XC (gJ x k) i)}:=(ap c).trans (by rw[ei];rfl);have e3:FH x k o.ow=fw:=ap c;rw[e2,e3];refine RX h pJ ?_;have fp:gJ x k≠[]:=λe=>by rw[e]at hi;cases hi
  rcases u2 with⟨hn,-⟩|⟨-,hb,rfl,hc⟩
  ·exact absurd hn fp
  have Tm:=h.hi;have hbq:=h.nq k;have ahP:=Xz (W:=V) (args:=[.slice (some ⟨bq k,0,none⟩) (gJ x k).length (eG+1),.ae (i:Nat),.ae ((i:Int)+1)]) ⟨bq k,gJ x k,i,hi,rfl,hc,rfl⟩;have t1:=λW'=>bm W' i 1
  have d:=aL c;rw[ei]at d hix;obtain⟨V5,Ml⟩:∃V5,V5=V.put (bq k) (.cells ((sS (gJ x k) i).map (Value.int .u32))):=⟨_,rfl⟩;rw[<-Ml]at ahP;have vo:∀c,c≠bq k->V5.get c=V.get c:=λc hc=>by rw[Ml];exact AW.ay _ _ (bc hc)
  have vb:V5.get (bq k)=some (.cells ((sS (gJ x k) i).map (Value.int .u32))):=by rw[Ml];exact AW.aW _ _ _
  have vn:V5.next=V.next:=by rw[Ml];rfl
  clear Ml;have M5:k<qv.length:=by omega
  have sq:eZ 1 (.pointer (some ⟨qb,k,none⟩)) (.slice (some ⟨bq k,0,none⟩) ((gJ x k).length-1) (eG+1)) V5=some (aj,V5.put qb (.cells (qv.set k (.slice (some ⟨bq k,0,none⟩) ((gJ x k).length-1) (eG+1))))):=by rw[js,cR ((vo _ (by omega)).trans q1),bJ,an M5]
  obtain⟨U,hU⟩:∃U,U=V5.put qb (.cells (qv.set k (.slice (some ⟨bq k,0,none⟩) ((gJ x k).length-1) (eG+1)))):=⟨_,rfl⟩;rw[<-hU]at sq;have uq:U.get qb=some (.cells (qv.set k (.slice (some ⟨bq k,0,none⟩) ((gJ x k).length-1) (eG+1)))):=by rw[hU];exact AW.aW _ _ _
  have uo:∀c,c≠qb->U.get c=V5.get c:=λc hc=>by rw[hU];exact AW.ay _ _ (bc hc)
  have un:U.next=V.next:=by rw[hU,AW.bG,vn]
  clear hU;have g5:U.get W.next=some (.cells (ig fw)):=((uo _ (by omega)).trans (vo _ (by omega))).trans g2;obtain⟨p1,p2⟩:=uf g5 fw;unfold nJ;simp only[SX,al,aR,aJ,Nat.reduceAdd,h1.l6,h1.l11,N9,ixQ hk,lu,h1.l8,hix,d,t1,ahP,sq,Co,p1,p2,ah];have gW:∀b,b<W.next->b≠qb->b≠bq k->(U.put W.next (.cells (ig fw))).get b=W.get b:=λb hb h2 h3=>(AW.ay _ _ (by omega)).trans ((uo _ h2).trans ((vo b h3).trans (aM.get b hb)))
  refine⟨ak,{le:=⟨by rw[AW.bG];have:=h.le.next;omega,λb hb=>(gW b (ff hb h.le.next) (by have:=h.lo;omega) (by omega)).trans (h.le.get b hb)⟩,lo:=h.lo,hi:=by rw[AW.bG];omega,ne:=h.ne,nq:=λj=>?_,sec:=h.sec,go:=?_,gs:=?_,gq:=?_},by rw[AW.bG];omega,λb b1 b2=>gW b b2 (by omega) (by have:=yQ.2.2 k;omega)⟩
  ·rw[AW.bG];have:=h.nq j;omega
  ·rw[gW _ Tm.1 h.ne.2.1 (bc hbq.2.2.1)];simp only[pO];exact h.go
  ·rw[gW _ Tm.2.1 h.ne.2.2 (bc hbq.2.2.2.1)];exact h.gs
  ·refine⟨_,(AW.ay _ _ (by omega)).trans uq,by simp[q2],λj hj=>?_⟩;have ZZ:j<x.qs.length:=by simpa using hj
   by_cases ZO:k=j
   ·subst ZO;refine⟨_,vK M5,?_⟩;simp only[AH];have dv:(XC (gJ x k) i).length=(gJ x k).length-1:=by unfold XC;rw[cx,cX,px];omega
    refine .inr ⟨0,_,by rw[dv],((AW.ay _ _ (by omega)).trans (uo _ (by omega))).trans vb,?_⟩;rw[jj,<-xp];congr 1;have:sS (gJ x k) i=XC (gJ x k) i++[0]:=rfl;rw[this,xN]
   ·obtain⟨w,w1,w2⟩:=q3 j ZZ;refine⟨w,by rw[vw ZO];exact w1,?_⟩;simp only[C2 ZO];by_cases hem:x.qs[j]=[]
    ·rw[hem]at w2|-;rcases w2 with w2|⟨w3,-⟩
     ·exact .inl w2
     ·exact absurd rfl w3
    ·refine w2.qa.keep ?_;have hj3:=h.nq j;have e5:=gW (bq j) (by omega) hj3.2.2.2.2 (q4 j k ZZ hk (bc ZO) hem (by rw[e0];exact fp));exact e5.trans (aM.get _ (by omega)).symm
end
def acz(a b:Int):Int:=if a<b then -1 else if b<a then 1 else 0
def Kd(a:Int)(W:AW):ba (.func (.func 199) #[] #[]) [.ae a] W=some (.bool false,W):=by refine aP rfl ?_ Eg;unfold Af;have d:decide (a=a)=true:=aK rfl;simp(maxDischargeDepth:=9) only[SX,MX,HX]
def acZ(a b:Int)(W:AW):ba (.func (.func 168) #[] #[]) [.ae a,.ae b] W=some (.ae (acz a b),W):=by
 refine aP rfl ?_ Bs;unfold wn acz;by_cases c:a<b
 ·have d:=aK c;simp(maxDischargeDepth:=9) only[SX,MX,HX,Kd,d,an c]
 ·have d:=aL c;by_cases c2:b<a
  ·have d2:=aK c2;simp(maxDischargeDepth:=9) only[SX,MX,HX,Kd,d,d2,ap c,an c2]
  ·have d2:=aL c2;simp(maxDischargeDepth:=9) only[SX,MX,HX,Kd,d,d2,ap c,ap c2]
def acN(a b:Int):acz a b<0<->a<b:=by
 unfold acz;split
 ·omega
 ·split<;>omega
def PA{o t:Option (ad×AW)}{W:AW}(h:Ok t λr=>r.1=.tuple #[]/\r.2=W)(Nr:∀{r},t=some r->o=some (gc W r)):o=some (.tuple #[],W):=by obtain⟨⟨v,V⟩,h1,rfl,rfl⟩:=h;rw[Nr h1,kB rfl]
def agx(v fv:ad)(W:AW):ba (.func (.func 213) #[] #[]) [v,.ae 0,.ae 0,fv] W=some (.tuple #[],W):=by
 refine PA ?_ eO;unfold dL;have t1:=λW'=>bm W' 0 1
 simp only[SX,t1];refine bh 0 (by omega) (λk R V=>V=W/\R 8=.ae 1/\R 2=.ae 0) (λr=>r.1=.exit 0/\r.2.2=W) ⟨rfl,rfl,rfl⟩ (by omega) ?_ ?_
 ·rintro R V ⟨rfl,r8,r2⟩;unfold cP;simp only[SX,r8,r2,Int.reduceLT,ah];exact⟨by simp,ak,ak⟩
 ·rintro⟨e,R,V⟩ ⟨rfl,rfl⟩;simp only[SX,ah];exact⟨ak,ak⟩
def TY(v fv:ad)(W:AW):ba (.func (.func 198) #[] #[]) [v,.ae 0,fv] W=some (.tuple #[],W):=by
 refine PA ?_ kW;unfold je;refine bh 0 (by omega) (λk R V=>V=W/\R 0=v/\R 1=.ae 0/\R 2=fv/\R 6=.ae 20/\R 7=.ae 0/\R 8=.ae 20) (λr=>r.1=.exit 0/\r.2.2=W/\r.2.1 0=v/\r.2.1 1=.ae 0/\r.2.1 2=fv/\r.2.1 6=.ae 20/\r.2.1 7=.ae 0) ⟨rfl,rfl,rfl,rfl,rfl,rfl,rfl⟩ (by omega) ?_ ?_
 ·rintro R V ⟨rfl,r0,r1,r2,r6,r7,r8⟩;unfold dG;simp only[SX,r8,r1,Int.reduceLE,ah];exact⟨by simp,ak,ak,r0,r1,r2,r6,r7⟩
 ·rintro⟨e,R,V⟩ ⟨rfl,rfl,r0,r1,r2,r6,r7⟩;simp only at r0 r1 r2 r6 r7;simp only[SX,r0,r1,r2,r7,agx];refine bh 0 (by omega) (λk R V'=>V'=V/\R 6=.ae 20/\R 1=.ae 0) (λr=>r.1=.exit 2/\r.2.2=V) ⟨rfl,r6,r1⟩ (by omega) ?_ ?_
  ·rintro R V ⟨rfl,r6,r1⟩;unfold fg;simp only[SX,r6,r1,Int.reduceLT,ah];exact⟨by simp,ak,ak⟩
  ·rintro⟨e,R,V⟩ ⟨rfl,rfl⟩;simp only[SX,ah];exact⟨ak,ak⟩
def aa9(fv:ad)(W:AW):ba (.func (.func 166) #[] #[]) [.slice none 0 0,fv] W=some (.tuple #[],W):=by
 refine PA ?_ jh;unfold gn;have hl:∀W',aV Tryz.prog .len #[28] 3 #[false] [.slice none 0 0] W'=some (.ae 0,W'):=λW'=>dg vM _ _ _
 simp only[SX,hl,TY,ah];exact⟨ak,ak⟩
structure TL where
 ops:List iw
 wg:List Int
 busy:Int->Option Int
 vY:Nat
def TL.init:TL:=⟨[],[],λ_=>none,0⟩
def Rl(ops:List iw)(j:Nat)(k:Int)(r:mK):List iw:=match ops[j]? with
 |some o=>ops.set j {o with to:=k,rp:=r}
 |none=>ops
open Classical in
noncomputable def fY(s:TL)(x:lD):Int:=
 if x.th<1\/64<x.th then 7 else
 if x.ret=true then(if s.busy x.th=some x.id/\x.op=UB then 0 else 6)else
 if(s.busy x.th).isSome=true\/x.id≠(s.ops.length:Int)+1\/x.rp≠fw\/Bp x.op≠0 then 6 else 0
def nQ(s:TL)(k:Nat)(x:lD):TL:=
 if x.ret=true then⟨Rl s.ops (x.id-1).toNat k x.rp,s.wg++[((s.vY-1:Nat):Int)],λt=>if t=x.th then none else s.busy t,s.vY-1⟩
 else⟨s.ops++[⟨x.id,x.th,k,-1,x.op,fw⟩],s.wg++[((s.vY+1:Nat):Int)],λt=>if t=x.th then some x.id else s.busy t,s.vY+1⟩
inductive wD (l:List lD):Nat->TL->Prop
 |zero:wD l 0 TL.init
 |succ {k:Nat} {s:TL} {x:lD}:wD l k s->l[k]? =some x->fY s x=0->wD l (k+1) (nQ s k x)
structure Inv (l:List lD) (k:Nat) (s:TL):Prop where
 ids:∀(j:Nat) (o:iw),s.ops[j]? =some o->o.id=(j:Int)+1/\∃(i:Nat) (x:lD),i<k/\l[i]? =some x/\o.fr=(i:Int)/\x.ret=false/\x.id=(j:Int)+1/\x.th=o.th/\x.op=o.op
 cal:∀(i:Nat) (x:lD),i<k->l[i]? =some x->x.ret=false->∃(j:Nat) (o:iw),s.ops[j]? =some o/\x.id=(j:Int)+1/\o.fr=(i:Int)
 ret:∀(i:Nat) (x:lD),i<k->l[i]? =some x->x.ret=true->∃(j:Nat) (o:iw),s.ops[j]? =some o/\x.id=(j:Int)+1/\o.to=(i:Int)/\o.rp=x.rp
 tos:∀(j:Nat) (o:iw),s.ops[j]? =some o->(o.to= -1/\o.rp=fw)\/∃(i:Nat) (x:lD),i<k/\l[i]? =some x/\o.to=(i:Int)/\x.ret=true/\x.id=(j:Int)+1
 bsy:∀t id:Int,s.busy t=some id<->∃(j:Nat) (o:iw),s.ops[j]? =some o/\id=(j:Int)+1/\o.th=t/\o.to= -1
 cnc:((l.take k).filter λe=> !e.ret).length=s.ops.length
 opl:s.wg.length=k
 opk:s.ops.length<=k
def oW{α:Type}{l:List α}{a b:α}{j:Nat}:(l++[a])[j]? =some b<->l[j]? =some b\/(j=l.length/\b=a):=by
 rw[wW];by_cases h:j<l.length
 ·rw[an h];constructor
  ·exact .inl
  ·rintro(h1|⟨h1,-⟩)
   ·exact h1
   ·omega
 ·rw[ap h,kF (l:=l) (by omega)];by_cases h2:j=l.length
  ·subst h2;rw[sk];simp[eq_comm]
  ·rw[kF (by simp;omega)];simp[h2]
def M2{l:List lD}{k:Nat}{x:lD}(h:l[k]? =some x):l.take (k+1)=l.take k++[x]:=by obtain⟨h1,rfl⟩:=dh.1 h;exact jv h1
def Nw{s:TL}{x:lD}(hr:x.ret=true)(h:fY s x=0):s.busy x.th=some x.id/\x.op=UB/\1<=x.th/\x.th<=64:=by
 unfold fY at h;split at h
 ·omega
 ·try rw[an hr]at h
  split at h
  ·rename_i h1 h2;exact⟨h2.1,h2.2,by omega,by omega⟩
  ·omega
def Vx{s:TL}{x:lD}(hr:x.ret=false)(h:fY s x=0):s.busy x.th=none/\x.id=(s.ops.length:Int)+1/\x.rp=fw/\Bp x.op=0/\1<=x.th/\x.th<=64:=by
 unfold fY at h;split at h
 ·omega
 ·try rw[ap (by rw[hr];simp)]at h
  split at h
  ·omega
  ·rename_i h1 h2;simp only[not_or,Classical.not_not]at h2;refine⟨?_,h2.2.1,h2.2.2.1,h2.2.2.2,by omega,by omega⟩;cases hb:s.busy x.th with
   |none=>rfl
   |some v=>rw[hb]at h2;simp at h2
def wD.inv{l:List lD}{k:Nat}{s:TL}(h:wD l k s):Inv l k s:=by
 induction h with
 |zero=>exact⟨by simp[TL.init],λi x hi=>by omega,λi x hi=>by omega,by simp[TL.init],by simp[TL.init],by simp[TL.init],rfl,by simp[TL.init]⟩
 | @succ k s x kP hx he ih=>
  have lA:=(dh.1 hx).1;cases hr:x.ret with
  |true=>
   obtain⟨hb,vd,-,-⟩:=Nw hr he;obtain⟨j,o0,g0,gid,gth,gto⟩:=(ih.bsy _ _).1 hb;have ej:(x.id-1).toNat=j:=by omega
   have hj:j<s.ops.length:=(dh.1 g0).1;have hs:nQ s k x=⟨s.ops.set j {o0 with to:=(k:Int),rp:=x.rp},s.wg++[((s.vY-1:Nat):Int)],λt=>if t=x.th then none else s.busy t,s.vY-1⟩:=by unfold nQ Rl;rw[an hr,ej,g0]
   rw[hs];have dT:∀(j':Nat) (o:iw),(s.ops.set j {o0 with to:=(k:Int),rp:=x.rp})[j']? =some o<->(j'=j/\o={o0 with to:=(k:Int),rp:=x.rp})\/(j'≠j/\s.ops[j']? =some o):=λj' o=>by
    rw[uM];by_cases e:j=j'
    ·subst e;rw[an rfl,an hj];simp[eq_comm]
    ·rw[ap e];simp[bc e]
   refine⟨λj' o ho=>?_,λi y hi hy hyr=>?_,λi y hi hy hyr=>?_,λj' o ho=>?_,λt id=>?_,?_,by simp[ih.opl],by simp;have:=ih.opk;omega⟩
   ·rcases(dT j' o).1 ho with⟨rfl,rfl⟩|⟨fp,ho⟩
    ·obtain⟨h1,i,y,h2,h3⟩:=ih.ids _ _ g0;exact⟨h1,i,y,by omega,h3⟩
    ·obtain⟨h1,i,y,h2,h3⟩:=ih.ids _ _ ho;exact⟨h1,i,y,by omega,h3⟩
   ·by_cases ei:i=k
    ·subst ei;rw[hx]at hy;injection hy with hy;subst hy;rw[hr]at hyr;cases hyr
    ·obtain⟨j',o,h1,h2,h3⟩:=ih.cal i y (by omega) hy hyr;by_cases e:j'=j
     ·subst e;rw[g0]at h1;injection h1 with h1;subst h1;exact⟨j',_,(dT _ _).2 (.inl ⟨rfl,rfl⟩),h2,h3⟩
     ·exact⟨j',o,(dT _ _).2 (.inr ⟨e,h1⟩),h2,h3⟩
   ·by_cases ei:i=k
    ·subst ei;rw[hx]at hy;injection hy with hy;subst hy;exact⟨j,_,(dT _ _).2 (.inl ⟨rfl,rfl⟩),gid,rfl,rfl⟩
    ·obtain⟨j',o,h1,h2,h3,h4⟩:=ih.ret i y (by omega) hy hyr;by_cases e:j'=j
     ·subst e;rw[g0]at h1;injection h1 with h1;subst h1;omega
     ·exact⟨j',o,(dT _ _).2 (.inr ⟨e,h1⟩),h2,h3,h4⟩
   ·rcases(dT j' o).1 ho with⟨rfl,rfl⟩|⟨fp,ho⟩
    ·exact .inr ⟨k,x,by omega,hx,rfl,hr,gid⟩
    ·rcases ih.tos _ _ ho with h|⟨i,y,h1,h2⟩
     ·exact .inl h
     ·exact .inr ⟨i,y,by omega,h2⟩
   ·simp only;constructor
    ·intro h;split at h
     ·cases h
     ·rename_i fp;obtain⟨j',o,h1,h2,h3,h4⟩:=(ih.bsy t id).1 h;have e:j'≠j:=λe=>by subst e;rw[g0]at h1;injection h1 with h1;subst h1;exact fp (h3.symm.trans gth)
      exact⟨j',o,(dT _ _).2 (.inr ⟨e,h1⟩),h2,h3,h4⟩
    ·rintro⟨j',o,h1,h2,h3,h4⟩;rcases(dT j' o).1 h1 with⟨rfl,rfl⟩|⟨fp,ho⟩
     ·simp only at h4;omega
     ·have h5:=(ih.bsy t id).2 ⟨j',o,ho,h2,h3,h4⟩;by_cases et:t=x.th
      ·subst et;rw[hb]at h5;injection h5 with h5;omega
      ·rw[ap et];exact h5
   ·rw[M2 hx,rG];simp[hr,ih.cnc]
  |false=>
   obtain⟨hb,S4,hrp,vd,-,-⟩:=Vx hr he;have hs:nQ s k x=⟨s.ops++[⟨x.id,x.th,(k:Int),-1,x.op,fw⟩],s.wg++[((s.vY+1:Nat):Int)],λt=>if t=x.th then some x.id else s.busy t,s.vY+1⟩:=by unfold nQ;rw[ap (by rw[hr];simp)]
   rw[hs];refine⟨λj' o ho=>?_,λi y hi hy hyr=>?_,λi y hi hy hyr=>?_,λj' o ho=>?_,λt id=>?_,?_,by simp[ih.opl],by simp;have:=ih.opk;omega⟩
   ·rcases oW.1 ho with ho|⟨rfl,rfl⟩
    ·obtain⟨h1,i,y,h2,h3⟩:=ih.ids _ _ ho;exact⟨h1,i,y,by omega,h3⟩
    ·exact⟨S4,k,x,by omega,hx,rfl,hr,S4,rfl,rfl⟩
   ·by_cases ei:i=k
    ·subst ei;rw[hx]at hy;injection hy with hy;subst hy;exact⟨_,_,oW.2 (.inr ⟨rfl,rfl⟩),S4,rfl⟩
    ·obtain⟨j',o,h1,h2,h3⟩:=ih.cal i y (by omega) hy hyr;exact⟨j',o,oW.2 (.inl h1),h2,h3⟩
   ·by_cases ei:i=k
    ·subst ei;rw[hx]at hy;injection hy with hy;subst hy;rw[hr]at hyr;cases hyr
    ·obtain⟨j',o,h1,h2,h3,h4⟩:=ih.ret i y (by omega) hy hyr;exact⟨j',o,oW.2 (.inl h1),h2,h3,h4⟩
   ·rcases oW.1 ho with ho|⟨rfl,rfl⟩
    ·rcases ih.tos _ _ ho with h|⟨i,y,h1,h2⟩
     ·exact .inl h
     ·exact .inr ⟨i,y,by omega,h2⟩
    ·exact .inl ⟨rfl,rfl⟩
   ·simp only;constructor
    ·intro h;split at h
     ·rename_i et;injection h with h;exact⟨_,_,oW.2 (.inr ⟨rfl,rfl⟩),by omega,et.symm,rfl⟩
     ·obtain⟨j',o,h1,h2,h3,h4⟩:=(ih.bsy t id).1 h;exact⟨j',o,oW.2 (.inl h1),h2,h3,h4⟩
    ·rintro⟨j',o,h1,h2,h3,h4⟩;rcases oW.1 h1 with ho|⟨rfl,rfl⟩
     ·have h5:=(ih.bsy t id).2 ⟨j',o,ho,h2,h3,h4⟩;by_cases et:t=x.th
      ·subst et;rw[hb]at h5;cases h5
      ·rw[ap et];exact h5
     ·simp only at h3;rw[an h3.symm];congr 1;omega
   ·rw[M2 hx,rG];simp[hr,ih.cnc]
open Classical in
def wD.prev{l:List lD}{n:Nat}{s':TL}(h:wD l n s'){k:Nat}(e:n=k+1):∃(s:TL) (x:lD),wD l k s/\l[k]? =some x/\fY s x=0/\s'=nQ s k x:=by
 cases h with
 |zero=>omega
 | @succ m s x h1 h2 h3=>
  have:m=k:=by omega
  subst this;exact⟨s,x,h1,h2,h3,rfl⟩
def wD.HI{l:List lD}{k:Nat}{s:TL}(h:wD l k s):∀{s':TL},wD l k s'->s'=s:=by
 induction h with
 |zero=>intro s' h';cases h';rfl
 | @succ k s x h1 h2 h3 ih=>intro s' h';obtain⟨s2,x2,a1,a2,a3,rfl⟩:=h'.prev rfl;rw[h2]at a2;injection a2 with a2;subst a2;rw[ih a1]
def wD.pre{l:List lD}{k:Nat}{s:TL}(h:wD l k s):∀{m:Nat},m<=k->∃s',wD l m s':=by
 induction h with
 |zero=>intro m hm;have:m=0:=by omega
        subst this;exact⟨_,.zero⟩
 | @succ k s x h1 h2 h3 ih=>
  intro m hm;by_cases e:m=k+1
  ·subst e;exact⟨_,.succ h1 h2 h3⟩
  ·exact ih (by omega)
def wD.stop{l:List lD}{k:Nat}{s:TL}{x:lD}(h:wD l k s)(hx:l[k]? =some x)(he:fY s x≠0){m:Nat}{s':TL}(h':wD l m s'):m<=k:=by
 by_cases hm:m<=k
 ·exact hm
 ·obtain⟨s2,h2⟩:=h'.pre (m:=k+1) (by omega);obtain⟨s3,x3,a1,a2,a3,-⟩:=h2.prev rfl;rw[hx]at a2;injection a2 with a2;subst a2;rw[h.HI a1]at a3;exact absurd a3 he
inductive N4 (e0:Int) (l:List lD):Int->Int->Prop
 |EO:e0≠0->N4 e0 l (-1) e0
 |len:e0=0->400<l.length->N4 e0 l (-1) 3
 |bad {k:Nat} {s:TL} {x:lD}:e0=0->l.length<=400->wD l k s->l[k]? =some x->fY s x≠0->N4 e0 l (k:Int) (fY s x)
 |ok {s:TL}:e0=0->l.length<=400->wD l l.length s->N4 e0 l 0 0
def N4.HI{e0:Int}{l:List lD}{a e a' e':Int}(h:N4 e0 l a e)(h':N4 e0 l a' e'):a=a'/\e=e':=by
 cases h with
 |EO h1=>cases h' with
  |EO h2=>exact⟨rfl,rfl⟩
  |len h2 _=>exact absurd h2 h1
  |bad h2=>exact absurd h2 h1
  |ok h2=>exact absurd h2 h1
 |len h1 h2=>cases h' with
  |EO h3=>exact absurd h1 h3
  |len=>exact⟨rfl,rfl⟩
  |bad h3 h4=>omega
  |ok h3 h4=>omega
 | @bad k s x h1 h2 h3 h4 h5=>cases h' with
  |EO h6=>exact absurd h1 h6
  |len h6 h7=>omega
  | @bad k' s' x' h6 h7 h8 h9 Ks=>
   have a1:=h3.stop h4 h5 h8;have a2:=h8.stop h9 Ks h3;have:k=k':=by omega
   subst this;rw[h4]at h9;injection h9 with h9;subst h9;rw[h3.HI h8];exact⟨rfl,rfl⟩
  |ok h6 h7 h8=>have a1:=h3.stop h4 h5 h8;have a2:=(dh.1 h4).1;omega
 | @ok s h1 h2 h3=>cases h' with
  |EO h6=>exact absurd h1 h6
  |len h6 h7=>omega
  | @bad k' s' x' h6 h7 h8 h9 Ks=>have a1:=h8.stop h9 Ks h3;have a2:=(dh.1 h9).1;omega
  |ok=>exact⟨rfl,rfl⟩
def N4.vD{e0:Int}{l:List lD}{a e:Int}(h:N4 e0 l a e)(he:e=0):a=0/\l.length<=400/\∃s,wD l l.length s:=by
 cases h with
 |EO h1=>exact absurd he h1
 |len=>omega
 |bad h1 h2 h3 h4 h5=>exact absurd he h5
 |ok h1 h2 h3=>exact⟨rfl,h2,_,h3⟩
abbrev P5(v:fo)(sv ev:ad):ad:=.agg #[.ae v.sh,.ae v.cT,.ae v.fm,sv,ev]
structure HiA (W:AW) (v:fo) (sv ev:ad) (l:List lD):Prop where
 ax:eW W sv v.ax
 small:v.ax.length<1000
 rows:∀s∈v.ax,s.rows.length<1000
 ZT:EvL W ev l
def HiA.mono{W W':AW}{v:fo}{sv ev:ad}{l:List lD}(h:HiA W v sv ev l)(aM:Le W W'):HiA W' v sv ev l:=⟨h.ax.mono aM,h.small,h.rows,h.ZT.mono aM⟩
def ax4(v:fo)(sv ev:ad)(W:AW):pP (P5 v sv ev) W=some (.pointer (some ⟨W.next,0,none⟩),W.add (.cells [.ae v.sh,.ae v.cT,.ae v.fm,sv,ev])):=iB _
def auA:kZ Tryz.prog #[78,78] 25 184=true:=by kernel_rfl
def Vu:kZ Tryz.prog #[28,28] 1 8=true:=by kernel_rfl
def avk(h:iw)(W:AW):cJ Tryz.prog 78 1 [(0,Jh h)] W=some (.slice (some ⟨W.next,0,none⟩) 1 1,W.add (.cells (km h))):=aS (by kernel_rfl) rfl
def acF(a:Int)(W:AW):cJ Tryz.prog 28 1 [(0,.ae a)] W=some (.slice (some ⟨W.next,0,none⟩) 1 1,W.add (.cells (fJ a))):=aS (by kernel_rfl) rfl
def aqr(id th fr to:Int)(o:jC)(W:AW):dU Tryz.prog 77 [(0,.ae id),(1,.ae th),(2,.ae fr),(3,.ae to),(4,wa o)] W=some (Jh ⟨id,th,fr,to,o,fw⟩,W):=aS (by kernel_rfl) rfl
abbrev Wz(v:fo)(sv ev ov pv:ad):List ad:=[.ae v.sh,.ae v.cT,.ae v.fm,sv,ev,ov,pv]
def anP(v:fo)(sv ev:ad)(W:AW):dU Tryz.prog 80 [(0,P5 v sv ev)] W=some (.agg #[.ae v.sh,.ae v.cT,.ae v.fm,sv,ev,.slice none 0 0,.slice none 0 0],W):=aS (by kernel_rfl) rfl
def aqA(W:AW):vi Tryz.prog 112 none W=some (.map (some W.next),W.add (.map [] 0)):=rfl
def adY:Tryz.prog.underlying 112=some (.map 3 3):=by kernel_rfl
def ty3:Tryz.prog.underlying 3=some (.int .i64):=by kernel_rfl
def tz3:kN Tryz.prog 3=some (.ae 0):=by kernel_rfl
def abZ:((#[112]:Array af)[0]?).bind Tryz.prog.underlying=some (.map 3 3):=by kernel_rfl
def QY{P:Program}{W:AW}{r n:Nat}{m:Int->Option ad}{ts:Array af}{k e:af}(h:xY W r m n)(ht:(ts[0]?).bind P.underlying=some (.map k e))(ty:af)(cf:Array Bool):aV P .len ts ty cf [.map (some r)] W=some (.ae (n:Int),W):=by obtain⟨l,c,hg,hn,hl,hm⟩:=h;unfold aV;simp only[ht,hg];rw[show(yK l).length=n by unfold yK;rw[eP,hl]];rfl
def wQ(r:mK):iD (gt r) (gt r)=true:=pV (by simp[Y5,zG])
def Sn(pre mid post vs:List ad)(p:Nat)(h:p+vs.length<=mid.length):iG (pre++(mid++post)) (pre.length+p) vs=pre++(iG mid p vs++post):=by unfold iG;rw[List.take_length_add_append,List.take_append_of_le_length (by omega),iq,List.drop_length_add_append,List.drop_append_of_le_length h];simp only[iR]
def akr(o:iw)(k:Int):iG (km o) 3 [.ae k]=km {o with to:=k}:=by unfold iG;rfl
def am0(o:iw)(r:mK):iG (km o) 16 (gt r).cells.toList=km {o with rp:=r}:=by unfold iG;rfl
def Rk{ops:List iw}{j:Nat}{o:iw}(hj:ops[j]? =some o)(o':iw):(ops.set j o').flatMap km=(ops.take j).flatMap km++(km o'++(ops.drop (j+1)).flatMap km):=by obtain⟨h1,-⟩:=dh.1 hj;rw[Ie,an h1,iS,fy]
def XK{ops:List iw}{j:Nat}{o:iw}(hj:ops[j]? =some o):ops.flatMap km=(ops.take j).flatMap km++(km o++(ops.drop (j+1)).flatMap km):=by
 have h:=Rk hj o;obtain⟨h1,h2⟩:=dh.1 hj;have:ops.set j o=ops:=by rw[<-h2,List.set_getElem_self]
 rw[this]at h;exact h
def ahE{ops:List iw}{j:Nat}(h:j<=ops.length):((ops.take j).flatMap km).length=j*25:=by rw[bZ qF,cX,pg h]
def ajB{V:AW}{ov:ad}{ops:List iw}{bo:Option Nat}(h:fE V 25 km ov ops bo){j:Nat}{o:iw}(hj:ops[j]? =some o)(k:Int)(r:mK):
 ∃B cs,bo=some B/\B<V.next/\(∀(W:AW) k',pc 25 ov (.int k' (j:Int)) W=some (.pointer (some ⟨B,j*25,none⟩),W))/\
  (∀W:AW,W.get B=V.get B->eZ 1 (.pointer (some ⟨B,j*25+3,none⟩)) (.ae k) W=some (aj,W.put B (.cells cs)))/\
  (∀W:AW,W.get B=some (.cells cs)->eZ 9 (.pointer (some ⟨B,j*25+16,none⟩)) (gt r) W=some (aj,W.put B (.cells ((ops.set j {o with to:=k,rp:=r}).flatMap km))))/\
  ∀W:AW,V.next<=W.next->W.get B=some (.cells ((ops.set j {o with to:=k,rp:=r}).flatMap km))->fE W 25 km ov (ops.set j {o with to:=k,rp:=r}) bo:=by
 obtain⟨h1,-⟩:=dh.1 hj;have hl:=ahE (ops:=ops) (j:=j) (by omega);rcases h with⟨rfl,-,-⟩|⟨h0,B,rfl,h2,rfl,h4⟩
 ·simp at h1
 refine⟨B,(ops.take j).flatMap km++(km {o with to:=k}++(ops.drop (j+1)).flatMap km),rfl,h2,λW k'=>?_,λW hW=>?_,λW hW=>?_,λW hn hW=>.inr ⟨λe=>h0 (by simpa using e),B,rfl,by omega,by rw[pO],hW⟩⟩
 ·rw[oq h1,aJ]
 ·rw[h4,XK hj]at hW;rw[CA (n:=1) (v:=.ae k) hW rfl (by rw[cx,cx,hl,qF];show j*25+3+1<=_;omega) rfl];have:=Sn ((ops.take j).flatMap km) (km o) ((ops.drop (j+1)).flatMap km) [.ae k] 3 (by rw[qF];show 3+1<=25;omega);rw[hl,akr]at this;exact gO (λc=>some (aj,W.put B (.cells c))) this
 ·rw[CA (n:=9) (v:=gt r) hW rfl (by rw[cx,cx,hl,qF];show j*25+16+9<=_;omega) rfl];have:=Sn ((ops.take j).flatMap km) (km {o with to:=k}) ((ops.drop (j+1)).flatMap km) (gt r).cells.toList 16 (by rw[qF];show 16+9<=25;omega);rw[hl,am0]at this;rw[Rk hj];exact gO (λc=>some (aj,W.put B (.cells c))) this
def abT{α:Type}{P:Program}{W:AW}{ts:Array af}{z bytes:Nat}{f:α->List ad}{v:ad}{l:List α}{bo:Option Nat}(a:α)(hk:kZ P ts z bytes=true)(hf:∀a,(f a).length=z)(h1:∀a,(f a).all Eng.one=true)
 (h:fE W z f v l bo)(hb:l.length+1<1099511627776)(lF:(2*(l.length+1)+192)*bytes<=281474976710656):
 ∃v' W',dn P (W.add (.cells (f a))) ts v (.slice (some ⟨W.next,0,none⟩) 1 1)=some (v',W')/\fE W' z f v' (l++[a]) (some (W.next+1))/\W'.next=W.next+2/\∀b,b<W.next->bo≠some b->W'.get b=W.get b:=by
 have h':fE (W.add (.cells (f a))) z f v l bo:=h.keep (by rw[AW.av];omega) λB hB=>AW.aE _ _ (by have:=h.lt hB;omega)
 obtain⟨v',W',a1,a2,a3,a4⟩:=h'.push (a:=a) hk hf h1 (b:=W.next) (c:=1) bF hb lF;rw[AW.av]at a2 a3;exact⟨v',W',a1,a2,a3,λb hb fp=>(a4 b (by rw[AW.av];omega) fp).trans (AW.aE _ _ (by omega))⟩
def Ep{α:Type}{W:AW}{z:Nat}{f:α->List ad}{v:ad}{l:List α}{bo:Option Nat}(h:fE W z f v l bo):v.cells=#[v]/\Eng.one v=true:=by rcases h with⟨-,rfl,-⟩|⟨-,B,-,-,rfl,-⟩<;>exact⟨rfl,rfl⟩
def RR{U:AW}{tb:Nat}{v:fo}{sv ev ov pv:ad}{wg:List Int}{bp:Option Nat}(hc:U.get tb=some (.cells (Wz v sv ev ov pv)))(hp:fE U 1 fJ pv wg bp)(hbp:bp≠some tb)(htb:tb<U.next)(hl:wg.length<=1000)(n:Int):
 ∃pv' U1 U2,dn Tryz.prog (U.add (.cells (fJ n))) #[28,28] pv (.slice (some ⟨U.next,0,none⟩) 1 1)=some (pv',U1)/\eZ 1 (.pointer (some ⟨tb,6,none⟩)) pv' U1=some (aj,U2)/\U2.get tb=some (.cells (Wz v sv ev ov pv'))/\fE U2 1 fJ pv' (wg++[n]) (some (U.next+1))/\U2.next=U.next+2/\∀b,b<U.next->b≠tb->bp≠some b->U2.get b=U.get b:=by
 obtain⟨pv',U1,a1,a2,a3,a4⟩:=abT n Vu iE tj hp (by omega) (by omega);have ht:U1.get tb=some (.cells (Wz v sv ev ov pv)):=(a4 tb htb hbp).trans hc;refine⟨pv',U1,U1.put tb (.cells (Wz v sv ev ov pv')),a1,?_,AW.aW _ _ _,a2.keep (by rw[AW.bG];omega) λB hB=>AW.ay _ _ (by injection hB with hB;omega),by rw[AW.bG,a3],λb hb fp S3=>(AW.ay _ _ (bc fp)).trans (a4 b hb S3)⟩;rw[qC (Ep a2).1 (Ep a2).2,agp ht];rfl
def ahC{U:AW}{tb:Nat}{v:fo}{sv ev ov pv:ad}{ops:List iw}{bo:Option Nat}(hc:U.get tb=some (.cells (Wz v sv ev ov pv)))(hp:fE U 25 km ov ops bo)(hbp:bo≠some tb)(htb:tb<U.next)(hl:ops.length<=1000)(n:iw):
 ∃ov' U1 U2,dn Tryz.prog (U.add (.cells (km n))) #[78,78] ov (.slice (some ⟨U.next,0,none⟩) 1 1)=some (ov',U1)/\eZ 1 (.pointer (some ⟨tb,5,none⟩)) ov' U1=some (aj,U2)/\U2.get tb=some (.cells (Wz v sv ev ov' pv))/\fE U2 25 km ov' (ops++[n]) (some (U.next+1))/\U2.next=U.next+2/\∀b,b<U.next->b≠tb->bo≠some b->U2.get b=U.get b:=by
 obtain⟨ov',U1,a1,a2,a3,a4⟩:=abT n auA qF agM hp (by omega) (by omega);have ht:U1.get tb=some (.cells (Wz v sv ev ov pv)):=(a4 tb htb hbp).trans hc;refine⟨ov',U1,U1.put tb (.cells (Wz v sv ev ov' pv)),a1,?_,AW.aW _ _ _,a2.keep (by rw[AW.bG];omega) λB hB=>AW.ay _ _ (by injection hB with hB;omega),by rw[AW.bG,a3],λb hb fp S3=>(AW.ay _ _ (bc fp)).trans (a4 b hb S3)⟩;rw[qC (Ep a2).1 (Ep a2).2,agp ht];rfl
def sY(x:cI)(nw:Int)(i:Nat):Bool:=decide ((cr x i).dl<=nw)&&decide ((cr x i).st=1)
def fH(x:cI)(nw:Int):List Nat:=(List.range x.st.length).filter (sY x nw)
def wh(nw:Int)(x:cI)(i:Nat):cI:=lG {x with st:=x.st.set i (lW (cr x i) nw)} i
def yX(x:cI)(nw:Int)(L:List Nat):cI:=L.foldl (wh nw) {x with now:=nw}
def Yn(x:cI)(a:Int):Int:=(cr x a.toNat).dl
def Q0(x:cI)(a b:Nat):Prop:=Lk (Yn x) (a:Int) (b:Int)
def ym(x:cI)(nw:Int)(L:List Nat):Prop:=L.Perm (fH x nw)/\L.Pairwise (Q0 x)
def ym.one{x:cI}{nw:Int}{L L':List Nat}(h:ym x nw L)(h':ym x nw L'):L=L':=by refine List.Perm.eq_of_pairwise (le:=Q0 x) ?_ h.2 h'.2 (h.1.trans h'.1.symm);intro a b _ _ h1 h2;unfold Q0 Lk at h1 h2;omega
def ac8(f:Nat->Int){n i j:Nat}(hi:i<n)(hj:j<n):((List.range n).map (swp f i j)).Perm ((List.range n).map f):=by
 have hl:((List.range n).map f).length=n:=by simp
 have e:(List.range n).map (swp f i j)=(((List.range n).map f).set i ((List.range n).map f)[j]).set j ((List.range n).map f)[i]:=by
  apply List.ext_getElem (by simp);intro t h1 h2;simp only[List.getElem_map,List.getElem_range,List.getElem_set];unfold swp;by_cases c:t=j
  ·subst c;simp
  ·by_cases c2:t=i
   ·subst c2;simp[c,bc c]
   ·simp[c,c2,bc c,bc c2]
 rw[e];exact List.set_set_perm (by omega) (by omega)
def oe.perm{n:Nat}{f g:Nat->Int}(p:oe 0 n f g):((List.range n).map g).Perm ((List.range n).map f):=by
 induction p with
 |refl=>exact List.Perm.refl _
 |step _ _ q2 _ q4 ih=>exact(ac8 _ q2 q4).trans ih
def abV(x:cI)(nw:Int){t:Nat}(ht:t<(fH x nw).length):(fH x nw)[t]<x.st.length:=by have:=cD ht;unfold fH at this;rw[pj,pX]at this;exact this.1
def aaB(x:cI)(nw:Int){i j:Nat}(hij:i<j)(hj:j<(fH x nw).length):(fH x nw)[i]<(fH x nw)[j]:=by have:=(List.pairwise_lt_range (n:=x.st.length)).filter (sY x nw);exact List.pairwise_iff_getElem.1 this i j (by unfold fH at hj;omega) hj hij
section
variable {W0 W V:AW} {ob sb qb:Nat} {bq:Nat->Nat} {x x':cI} {sv:ad} {o:jC} {s:Int}
def fA.l18(h:fA W0 W ob sb qb bq x sv o s):bz (.pointer (some ⟨ob,18,none⟩)) W=some (.ae o.nw,W):=h.ld rfl
def fA.UT(h:fA W0 W ob sb qb bq x sv o s):bz (.pointer (some ⟨ob,4,none⟩)) W=some (.ae x.now,W):=h.ld rfl
def fA.lsi(h:fA W0 W ob sb qb bq x sv o s){i:Nat}(hi:i<x.st.length):dJ 5 (.pointer (some ⟨sb,i*5,none⟩)) W=some (iZ (cr x i),W):=by
 have e:x.st[i]? =some (cr x i):=by rw[bN hi];simp[cr,bN hi]
 exact FC h.gs e
def fA.ams(h:fA W0 W ob sb qb bq x sv o s)(nw:Int):∃W',eZ 1 (.pointer (some ⟨ob,4,none⟩)) (.ae nw) W=some (aj,W')/\fA W0 W' ob sb qb bq {x with now:=nw} sv o s/\W'.next=W.next/\∀b,b≠ob->W'.get b=W.get b:=by
 refine⟨W.put ob (.cells (Pa x.v sv nw (fL sb x.st.length) (oh qb x.qs.length) o (s:Int))),?_,?_,AW.bG _ _ _,λb hb=>AW.ay _ _ (bc hb)⟩
 ·rw[uZ,cR h.go];rfl
 ·have g:∀b,b≠ob->(W.put ob (.cells (Pa x.v sv nw (fL sb x.st.length) (oh qb x.qs.length) o (s:Int)))).get b=W.get b:=λb hb=>AW.ay _ _ (bc hb)
  exact{le:=h.le.put h.lo.1 _,lo:=h.lo,hi:=h.hi,ne:=h.ne,nq:=h.nq,sec:=h.sec,go:=AW.aW _ _ _,gs:=(g _ (bc h.ne.1)).trans h.gs,gq:=h.gq.keep (g _ (bc h.ne.2.1)) λk=>g _ (h.nq k).2.2.1}
def aeQ{rb:Nat}{U:AW}{i j n nq:Nat}{l:List fx}{v:fo}{now:Int}(h1:aH U rb=some [aZ ob])(h2:aH U ob=some (Pa v sv now (fL sb n) (oh qb nq) o (s:Int)))(h3:aH U sb=some (l.flatMap dK))(hn:l.length=n)(hi:i<n)(hj:j<n):
 ba (.func (.func 167) #[] #[aZ rb]) [.ae (i:Int),.ae (j:Int)] U=some (.ae (acz (l.getD i CO).dl (l.getD j CO).dl),U):=by
 refine aP rfl ?_ xP;unfold rT;have at_:∀{t:Nat},t<n->(l.flatMap dK)[t*5+2]? =some (.ae (l.getD t CO).dl):=λ{t} ht=>by
  have hl:l[t]? =some (l.getD t CO):=by rw[bN (by omega)];simp[bN (show t<l.length by omega)]
  have e:=gO (λc:List ad=>c[2]?) (E4 ni hl);simp only[mm,p9]at e;simpa using e
 simp(maxDischargeDepth:=9) only[SX,MX,HX,aR,h1,h2,h3,rJ hi,rJ hj,at_ hi,at_ hj,acZ]
def adW{R:ai.Fr}{W2:AW}{rb:Nat}{v0:ad}{n:Nat}(hn:x.st.length=n)(hn2:n<=10000){K:LT->Option (ad×AW)}{G:ad×AW->Prop}(h:fA W0 W2 ob sb qb bq x sv o s)(hr:W2.get rb=some (.cells [aZ ob]))(hrb:rb<W2.next)
 (nh:∀y∈x.st,DE y=0)(yA:0<=x.now)(r1:R 1=aZ rb)(r2:R 2=v0)(r3:R 3=.slice none 0 0)(r35:R 35=fL sb n)(r36:R 36=.ae (n:Int))(r37:R 37=.ae 0)
 (hK:∀R' V v,Le W2 V->R' 1=aZ rb->R' 2=v0->R' 3=v->vT W2.next V 1 fJ v ((fH x x.now).map λi:Nat=>(i:Int))->Ok (K (.exit 0,R',V)) G):Ok (fb (fZ (iH ba) R W2) K) G:=by
 refine bh n (by omega) (λk R V=>Le W2 V/\R 1=aZ rb/\R 2=v0/\R 35=fL sb n/\R 36=.ae (n:Int)/\R 37=.ae (k:Int)/\vT W2.next V 1 fJ (R 3) (((List.range k).filter (sY x x.now)).map λi:Nat=>(i:Int)))
  (λr=>r.1=.exit 0/\Le W2 r.2.2/\r.2.1 1=aZ rb/\r.2.1 2=v0/\vT W2.next r.2.2 1 fJ (r.2.1 3) ((fH x x.now).map λi:Nat=>(i:Int))) ⟨Le.refl _,r1,r2,r35,r36,r37,by rw[r3];exact vT.nil _ _ _ _⟩ ?_ ?_ ?_
 ·rintro k R V hk ⟨aM,r1,r2,r35,r36,r37,hL⟩;unfold iH;have t1:decide ((k:Int)<(n:Int))=true:=cK;have t2:=λW'=>bm W' k 1
  have e3:((k+1:Nat):Int)=(k:Int)+1:=by omega
  have hV:=h.mono aM;have cb:aH V rb=some [aZ ob]:=ao ((aM.get _ hrb).trans hr);have co:=hV.c;have n1:(rb=V.next)=False:=eq_false (by have:=aM.next;omega);have n2:(ob=V.next)=False:=eq_false (by have:=hV.hi;omega);have ls:=hV.lsi (show k<x.st.length by omega);have KC:cr x k∈x.st:=by
   have:cr x k=x.st[k]'(by omega):=by simp[cr,bN (show k<x.st.length by omega)]
   rw[this];exact cD _
  have hdl:0<=(cr x k).dl:=by
   have:=nh _ KC;unfold DE at this;repeat' split at this
   all_goals omega
  have hps:=Ho.M0 hdl yA;have UZ:(List.range (k+1)).filter (sY x x.now)=(List.range k).filter (sY x x.now)++(if sY x x.now k=true then [k]else []):=by
   rw[ql,rG];congr 1;by_cases c:sY x x.now k=true
   ·rw[an c,List.filter_cons_of_pos c,List.filter_nil]
   ·rw[ap c,List.filter_cons_of_neg c,List.filter_nil]
  simp only[SX,r1,r35,r36,r37,t1,rJ hk,ls];by_cases c:sY x x.now k=true
  ·have hc:=c;unfold sY at hc;rw[bA]at hc;have dv:(((List.range k).filter (sY x x.now)).map λi:Nat=>(i:Int)).length<=k:=by rw[eP];exact eS (AL _ _) (by simp)
   obtain⟨V3,wZ⟩:∃V3,V3=V.add (.cells (dK (cr x k))):=⟨_,rfl⟩;have l3:Le V V3:=by rw[wZ];exact(Le.refl V).add _
   obtain⟨v',V4,k1,k2,k3,k4⟩:=((hL.mono l3).mono ((Le.refl V3).add (.cells (fJ (k:Int))))).push (P:=Tryz.prog) Vu iE tj (b:=V3.next) (c:=1) bF (by omega) (by omega) (by rw[AW.av];have:=aM.next;have:=l3.next;omega);rw[wZ,AW.av]at k1;simp(maxDischargeDepth:=9) only[SX,MX,HX,Nat.reduceAdd,qd,cb,co,n1,n2,aR,hps,hc.1,hc.2,acF,k1,t2];refine .inl ⟨k4 _ ((aM.trans l3).trans ((Le.refl _).add _)) (aQ _),r1,r2,r35,r36,by rw[e3];rfl,?_⟩;rw[UZ,an c,rI];exact k2
  ·have hc:(decide ((cr x k).dl<=x.now)&&decide ((cr x k).st=1))=false:=by unfold sY at c;exact ut.2 c
   have mu:∀V3,Le V V3->Le W2 V3/\vT W2.next V3 1 fJ (R 3) (((List.range (k+1)).filter (sY x x.now)).map λi:Nat=>(i:Int)):=λV3 l3=>⟨aM.trans l3,by rw[UZ,ap c,fu];exact hL.mono l3⟩
   have l3:Le V (V.add (.cells (dK (cr x k)))):=(Le.refl V).add _;obtain⟨f1,f2⟩:=mu _ l3;cases d1:decide ((cr x k).dl<=x.now)
   ·simp(maxDischargeDepth:=9) only[SX,MX,HX,Nat.reduceAdd,qd,cb,co,n1,n2,aR,hps,d1,t2];exact .inl ⟨f1,r1,r2,r35,r36,by rw[e3];rfl,f2⟩
   ·rw[d1,il]at hc;simp(maxDischargeDepth:=9) only[SX,MX,HX,Nat.reduceAdd,qd,cb,co,n1,n2,aR,hps,d1,hc,t2];exact .inl ⟨f1,r1,r2,r35,r36,by rw[e3];rfl,f2⟩
 ·rintro R V ⟨aM,r1,r2,r35,r36,r37,hL⟩;unfold iH;have t1:decide ((n:Int)<(n:Int))=false:=cg;simp only[SX,r36,r37,t1,ah];exact⟨by simp,ak,aM,r1,r2,by rw[fH,hn];exact hL⟩
 ·rintro⟨e,R,V⟩ ⟨rfl,h1,h2,h3,h4⟩;exact hK R V _ h1 h2 h3 rfl h4
end
def v8(x:cI)(i:Nat):(lG x i).v=x.v/\(lG x i).now=x.now/\(lG x i).st.length=x.st.length/\(lG x i).qs.length=x.qs.length:=by unfold lG;split<;>simp
def AG(nw:Int)(x:cI)(L:List Nat):(L.foldl (wh nw) x).v=x.v/\(L.foldl (wh nw) x).now=x.now/\(L.foldl (wh nw) x).st.length=x.st.length/\(L.foldl (wh nw) x).qs.length=x.qs.length:=by
 induction L generalizing x with
 |nil=>exact⟨rfl,rfl,rfl,rfl⟩
 |cons i L ih=>rw[uQ];obtain⟨a,b,c,d⟩:=ih (wh nw x i);obtain⟨a',b',c',d'⟩:=v8 {x with st:=x.st.set i (lW (cr x i) nw)} i;exact⟨a.trans a',b.trans b',c.trans (c'.trans (by simp)),d.trans d'⟩
def zS(a:Option Addr)(W:AW):pP (.pointer a) W=some (aZ W.next,W.add (.cells [.pointer a])):=aS rfl rfl
section
variable {W0 W V:AW} {ob sb qb:Nat} {bq:Nat->Nat} {x x':cI} {sv:ad} {o:jC} {s:Int}
def akd{R:ai.Fr}{U:AW}{rb B c m:Nat}{v0:ad}{L:List Nat}{K:LT->Option (ad×AW)}{G:ad×AW->Prop}(h:fA W0 U ob sb qb bq x sv o s)(yQ:sb<ob/\qb<ob)
 (hr:U.get rb=some (.cells [aZ ob]))(hrb:rb<U.next)(hrn:rb≠sb/\rb≠qb)(hB:L≠[]->U.get B=some (.cells (L.map λi:Nat=>Value.int .i64 (i:Int)))/\B<U.next/\B≠sb/\B≠qb)
 (hL:∀i∈L,i<x.st.length)(dv:L.length=m)(hm:m<=10000)(hk:∀i,i<x.st.length->tZ x.v i<x.qs.length)(hv:x.v.ax.length<1000)(h1:x.now<9223372036854775808)(h2:x.v.cT<9223372036854775808)
 {v:ad}(Z3:v=.slice (some ⟨B,0,none⟩) m c\/L=[])(r1:R 1=aZ rb)(r2:R 2=v0)(r67:R 67=v)(r68:R 68=.ae (m:Int))(r69:R 69=.ae 0)
 (hK:∀R' V,R' 2=v0->fA W0 V ob sb qb bq (L.foldl (wh x.now) x) sv o s->Fr U V sb qb->Ok (K (.exit 2,R',V)) G):Ok (fb (fZ (fO ba) R U) K) G:=by
 refine bh m (by omega) (λk R V=>fA W0 V ob sb qb bq ((L.take k).foldl (wh x.now) x) sv o s/\Fr U V sb qb/\R 1=aZ rb/\R 2=v0/\R 67=v/\R 68=.ae (m:Int)/\R 69=.ae (k:Int))
  (λr=>r.1=.exit 2/\fA W0 r.2.2 ob sb qb bq (L.foldl (wh x.now) x) sv o s/\Fr U r.2.2 sb qb/\r.2.1 2=v0) ⟨h,.refl _ _ _,r1,r2,r67,r68,r69⟩ ?_ ?_ ?_
 ·rintro k R V hkm ⟨hO,hF,r1,r2,r67,r68,r69⟩;unfold fO;have hkL:k<L.length:=by omega
  have fp:L≠[]:=λe=>by rw[e]at hkL;cases hkL
  obtain⟨b1,b2,b3,b4⟩:=hB fp;rcases Z3 with rfl|Z3;case inr=>exact absurd Z3 fp
  have t1:decide ((k:Int)<(m:Int))=true:=cK;have t2:=λW'=>bm W' k 1
  have e3:((k+1:Nat):Int)=(k:Int)+1:=by omega
  obtain⟨s1,s2,s3,s4⟩:=AG x.now x (L.take k);have gB:V.get B=some (.cells (L.map λi:Nat=>Value.int .i64 (i:Int))):=(hF.2 B b2 b3 b4).trans b1;have lB:bz (.pointer (some ⟨B,k,none⟩)) V=some (.ae (L[k]:Int),V):=aO (ao gB) (by rw[jJ,bN hkL];rfl);have gr:∀V',V'.get rb=some (.cells [aZ ob])->bz (aZ rb) V'=some (aZ ob,V'):=λV' hV=>aO (ao hV) rfl
  have gr0:V.get rb=some (.cells [aZ ob]):=(hF.2 rb hrb hrn.1 hrn.2).trans hr;have hi:L[k]<((L.take k).foldl (wh x.now) x).st.length:=by rw[s3];exact hL _ (cD _)
  generalize hy:(L.take k).foldl (wh x.now) x=y at *;have Lq:=hO.lsi hi;have t7:=zI (z:=lW (cr y L[k]) y.now) hO.gs (show y.st[L[k]]? =some (cr y L[k])by rw[bN hi];simp[cr,bN hi]);have vp:iD (aZ ob) (aZ ob)=true:=by simp only[MX]
  simp only[SX,r1,r67,r68,r69,t1,Q9 hkm,lB,gr _ gr0,aR,aJ,hO.l5,rJ hi,Lq,hO.UT,Sg,dd,fQ,vp,fN,t7];have Wc:∀b,b≠sb->(V.put sb (.cells ((y.st.set L[k] (lW (cr y L[k]) y.now)).flatMap dK))).get b=V.get b:=λb hb=>AW.ay _ _ (bc hb)
  have hf1:Fr V (V.put sb (.cells ((y.st.set L[k] (lW (cr y L[k]) y.now)).flatMap dK))) sb qb:=⟨aQ _,λb _ h1 _=>Wc b h1⟩;have O1:=hO.step (x':={y with st:=y.st.set L[k] (lW (cr y L[k]) y.now)}) hf1 rfl rfl (by simp) rfl (AW.aW _ _ _) (hO.gq.keep (Wc _ (bc hO.ne.2.2)) λj=>Wc _ (hO.nq j).2.2.2.1);generalize V.put sb (.cells ((y.st.set L[k] (lW (cr y L[k]) y.now)).flatMap dK))=V1 at *;obtain⟨V2,k1,k2,k3⟩:=QE O1 (i:=L[k]) (by simpa using hi) (by show tZ y.v L[k]<y.qs.length;rw[s1,s4];exact hk _ (by rw[<-s3];exact hi)) (by show y.v.ax.length<1000;rw[s1];exact hv) (by show y.now<_;rw[s2];exact h1) (by show y.v.cT<_;rw[s1];exact h2);simp only[SX,gr V1 ((Wc rb hrn.1).trans gr0),k1,t2,ah];refine .inl ⟨ak,?_,hF.trans (hf1.trans k3),r1,r2,r67,r68,by rw[e3];rfl⟩;rw[jv hkL,xJ,hy,uQ,List.foldl_nil];unfold wh;rw[<-s2];exact k2
 ·rintro R V ⟨hO,hF,r1,r2,r67,r68,r69⟩;unfold fO;have t1:decide ((m:Int)<(m:Int))=false:=cg;rw[<-dv,cM]at hO;simp only[SX,r68,r69,t1,ah];exact⟨by simp,ak,hO,hF,r2⟩
 ·rintro⟨e,R,V⟩ ⟨rfl,a,b,c⟩;exact hK R V c a b
def AZ{l:List Int}:arr l.length (λt=>l.getD t 0)=l.map (Value.int .i64):=by
 apply oJ;intro t;by_cases h:t<l.length
 ·rw[D7 _ h,jJ,bN h];simp[List.getD,bN h]
 ·rw[kF (by rw[AA];omega),kF (by simp;omega)]
def aaY(x:cI)(nw:Int):(List.range (fH x nw).length).map (λt=>((fH x nw).map λi:Nat=>(i:Int)).getD t 0)=(fH x nw).map λi:Nat=>(i:Int):=by
 apply List.ext_getElem (by simp);intro t h1 h2;have h3:t<(fH x nw).length:=by simpa using h2
 simp[List.getD,h3]
def aeq{x:cI}{nw:Int}{g:Nat->Int}(p:oe 0 (fH x nw).length (λt=>((fH x nw).map λi:Nat=>(i:Int)).getD t 0) g)(hs:sN (Yn x) g 0 (fH x nw).length):ym x nw ((List.range (fH x nw).length).map λt=>(g t).toNat)/\∀t,t<(fH x nw).length->g t=((g t).toNat:Int):=by
 have hp:=p.perm;rw[aaY]at hp;have pF:∀t,t<(fH x nw).length->g t=((g t).toNat:Int):=λt ht=>by
  have:g t∈(fH x nw).map λi:Nat=>(i:Int):=hp.mem_iff.1 (my.2 ⟨t,pX.2 ht,rfl⟩)
  obtain⟨i,-,e⟩:=my.1 this;rw[<-e];simp
 refine⟨⟨?_,?_⟩,pF⟩
 ·have h2:=hp.map Int.toNat;rw[List.map_map,List.map_map]at h2;have e:(Int.toNat ∘λi:Nat=>(i:Int))=id:=by funext i;simp
  rw[e,List.map_id]at h2;exact h2
 ·rw[List.pairwise_map];refine List.Pairwise.imp_of_mem ?_ (List.pairwise_lt_range (n:=(fH x nw).length));intro a b ha hb hab;have h1:=hs a b (qy _) hab (pX.1 hb);unfold Q0;rw[<-pF a (pX.1 ha),<-pF b (pX.1 hb)];exact h1
end
structure TkB (x:cI) (o:jC):Prop where
 n:x.st.length<=10000
 se:∀y∈x.st,DE y=0
 now:0<=x.now
 nw:o.nw<9223372036854775808
 cT:x.v.cT<9223372036854775808
 v:x.v.ax.length<1000
 k:∀i,i<x.st.length->tZ x.v i<x.qs.length
section
variable {W0 W V:AW} {ob sb qb:Nat} {bq:Nat->Nat} {x x':cI} {sv:ad} {o:jC} {s:Int}
def RS(h:fA W0 W ob sb qb bq x sv o s)(yQ:sb<ob/\qb<ob)(hc:o.nw<x.now):lO W0 W ob sb qb bq sv o s 135 x (pW 18):=by refine nf h yQ qW ?_;unfold iz;have LZ:Le W (W.add (.cells [aZ ob])):=(Le.refl W).add _;obtain⟨V,al,hZ,n2,g2⟩:=nB (W.add (.cells [aZ ob]));rw[AW.av]at al n2 g2;have aM:=LZ.trans hZ;have gr:V.get W.next=some (.cells [aZ ob]):=(hZ.get _ (by rw[AW.av];omega)).trans (AW.aI _ _);have lr:bz (aZ W.next) V=some (aZ ob,V):=aO (ao gr) rfl;have h1:=h.mono aM;obtain⟨p1,p2⟩:=uf g2 (pW 18);have d:=aK hc;simp only[SX,zS,al,lr,aR,aJ,Nat.reduceAdd,h1.l18,h1.UT,d,ks,p1,p2,ah];exact⟨ak,gp h h1 (.of_le aM) (by omega) _⟩
def ahI(h:fA W0 W ob sb qb bq x sv o s)(yQ:sb<ob/\qb<ob)(hb:TkB x o)(hc:¬o.nw<x.now):∃L,ym x o.nw L/\lO W0 W ob sb qb bq sv o s 135 (yX x o.nw L) fw:=by
 have hq:∃L,ym x o.nw L/\Ok (iz ba (aZ ob) W) λq=>q.1=gt fw/\fA W0 q.2 ob sb qb bq (yX x o.nw L) sv o s/\W.next<=q.2.next/\∀b,ob<b->b<W.next->q.2.get b=W.get b:=by
  have Tm:=h.hi;have LZ:Le W (W.add (.cells [aZ ob])):=(Le.refl W).add _;obtain⟨V,al,hZ,n2,g2⟩:=nB (W.add (.cells [aZ ob]));rw[AW.av]at al n2 g2;have aM:=LZ.trans hZ;have gr:V.get W.next=some (.cells [aZ ob]):=(hZ.get _ (by rw[AW.av];omega)).trans (AW.aI _ _);have lr:bz (aZ W.next) V=some (aZ ob,V):=aO (ao gr) rfl;have h1:=h.mono aM;obtain⟨V1,st1,h2,n3,o3⟩:=h1.ams o.nw;have gr1:V1.get W.next=some (.cells [aZ ob]):=(o3 _ (by omega)).trans gr;have g3:V1.get (W.next+1)=some (.cells (ig fw)):=(o3 _ (by omega)).trans g2;have lr1:bz (aZ W.next) V1=some (aZ ob,V1):=aO (ao gr1) rfl;have d:=aL hc;have mu:∀{L:List Nat} {U:AW} {R:ai.Fr} {v:ad} {B c:Nat},ym x o.nw L->V1.next<=U.next->(∀b,b<V1.next->U.get b=V1.get b)->R 1=aZ W.next->R 2=aZ (W.next+1)->R 3=v->(v=.slice (some ⟨B,0,none⟩) L.length c\/L=[]/\v=.slice none 0 0)->
   (L≠[]->U.get B=some (.cells (L.map λi:Nat=>Value.int .i64 (i:Int)))/\B<U.next/\V1.next<=B)->∀R',R' 1=aZ W.next->R' 2=aZ (W.next+1)->R' 67=v->R' 68=.ae (L.length:Int)->R' 69=.ae 0->
   Ok (fb (fZ (fO ba) R' U) λZN=>BY 2 ZN.1 (fb (dU Tryz.prog 50 [] ZN.2.2) λr88=>fb (eZ 9 (ZN.2.1 2) r88.1 r88.2) λVw=>iX Tryz.prog [((ZN.2.1 2),some 50)] Vw.2) none) λq=>q.1=gt fw/\fA W0 q.2 ob sb qb bq (yX x o.nw L) sv o s/\W.next<=q.2.next/\∀b,ob<b->b<W.next->q.2.get b=W.get b:=by
   intro L U R v B c hD un uo _ _ _ hv hB R' a1 a2 a67 a68 a69;have hU:fA W0 U ob sb qb bq {x with now:=o.nw} sv o s:=h2.mono ⟨un,uo⟩;have KC:∀i∈L,i<x.st.length:=λi hi=>by have:=hD.1.mem_iff.1 hi;unfold fH at this;rw[pj,pX]at this;exact this.1
   have dv:L.length<=10000:=by rw[hD.1.length_eq];exact eS (AL _ _) (by rw[Ee];exact hb.n)
   refine akd (x:={x with now:=o.nw}) (B:=B) (c:=c) (m:=L.length) (v0:=aZ (W.next+1)) (v:=v) hU yQ ((uo _ (by omega)).trans gr1) (by omega) ⟨by omega,by omega⟩
    (λfp=>let⟨e1,e2,e3⟩:=hB fp;⟨e1,e2,by omega,by omega⟩) KC rfl dv hb.k hb.v hb.nw hb.cT (hv.imp id (·.1)) a1 a2 a67 a68 a69 ?_
   intro R2 V2 z2 zO zF;have g5:V2.get (W.next+1)=some (.cells (ig fw)):=((zF.2 _ (by omega) (by omega) (by omega)).trans (uo _ (by omega))).trans g3;obtain⟨p1,p2⟩:=uf g5 fw;simp only[SX,Co,z2,p1,p2,ah];have zo:∀b,ob<b->b<W.next->V2.get b=W.get b:=λb b1 b2=>(zF.2 b (by omega) (by omega) (by omega)).trans ((uo b (by omega)).trans ((o3 b (by omega)).trans (aM.get b b2)))
   refine⟨ak,zO.other (by have:=h.le.next;omega) (by omega) (by omega) (by omega) (λk=>by have:=h.nq k;omega),by rw[AW.bG];have:=zF.1;omega,λb b1 b2=>(AW.ay _ _ (by omega)).trans (zo b b1 b2)⟩
  by_cases hd:fH x o.nw=[]
  ·refine⟨[],⟨by rw[hd],List.Pairwise.nil⟩,?_⟩;have hI:ym x o.nw []:=⟨by rw[hd],List.Pairwise.nil⟩;unfold iz;simp only[SX,zS,al,lr,aR,aJ,Nat.reduceAdd,h1.l18,h1.UT,d,st1,lr1,h2.l5,dg uS];refine adW (x:={x with now:=o.nw}) (n:=x.st.length) (v0:=aZ (W.next+1)) (rb:=W.next) rfl hb.n h2 gr1 (by omega) hb.se (by show 0<=o.nw;have:=hb.now;omega) rfl rfl rfl rfl rfl rfl ?_;intro R3 V3 v l3 q1 q2 q3 q4;have q4':vT V1.next V3 1 fJ v ((fH x o.nw).map λi:Nat=>(i:Int)):=q4;rw[hd]at q4';rcases q4' with⟨-,rfl⟩|⟨e,-⟩;case inr=>exact absurd rfl e
   simp only[SX,q1,q3,aa9,dg vM];exact mu (B:=0) (c:=0) (v:=.slice none 0 0) (R:=R3) hI l3.next (λb hb=>l3.get b hb) q1 q2 q3 (.inr ⟨rfl,rfl⟩) (λfp=>absurd rfl fp) _ q1 q2 rfl rfl rfl
  ·obtain⟨f,hf⟩:∃f:Nat->Int,f=λt=>((fH x o.nw).map λi:Nat=>(i:Int)).getD t 0:=⟨_,rfl⟩
   have hm:0<(fH x o.nw).length:=vP.2 hd;have I5:∀t (ht:t<(fH x o.nw).length),f t=(((fH x o.nw)[t]:Nat):Int):=λt ht=>by rw[hf];simp[List.getD,ht]
   have dv:(fH x o.nw).length<=10000:=eS (AL _ _) (by rw[Ee];exact hb.n);obtain⟨L,hL⟩:∃L,ym x o.nw L:=by
    classical
    refine⟨(fH x o.nw).mergeSort (λa b=>decide (Q0 x a b\/a=b)),Ir _ _,?_⟩;have h1:=List.pairwise_mergeSort (le:=λa b=>decide (Q0 x a b\/a=b)) (λa b c h1 h2=>by
     simp only[ip]at *;rcases h1 with h1|rfl
     ·rcases h2 with h2|rfl
      ·exact .inl (Lk.trans h1 h2)
      ·exact .inl h1
     ·exact h2) (λa b=>by
     simp only[oA,ip];unfold Q0 Lk;omega) (fH x o.nw);have h2:((fH x o.nw).mergeSort (λa b=>decide (Q0 x a b\/a=b))).Nodup:=(Ir _ _).nodup_iff.2 ((List.nodup_range (n:=x.st.length)).filter _);refine(h1.and h2).imp λ{a b} hh=>?_
    have h3:=hh.1;simp only[ip]at h3;rcases h3 with h3|h3
    ·exact h3
    ·exact absurd h3 hh.2
   refine⟨L,hL,?_⟩;unfold iz;simp only[SX,zS,al,lr,aR,aJ,Nat.reduceAdd,h1.l18,h1.UT,d,st1,lr1,h2.l5,dg uS];refine adW (x:={x with now:=o.nw}) (n:=x.st.length) (v0:=aZ (W.next+1)) (rb:=W.next) rfl hb.n h2 gr1 (by omega) hb.se (by show 0<=o.nw;have:=hb.now;omega) rfl rfl rfl rfl rfl rfl ?_;intro R3 V3 v l3 q1 q2 q3 q4;have q4':vT V1.next V3 1 fJ v ((fH x o.nw).map λi:Nat=>(i:Int)):=q4;rcases q4' with⟨e,-⟩|⟨-,B,i1,i2,rfl,i4⟩
   ·exact absurd (List.map_eq_nil_iff.1 e) hd
   rw[eP]at q3;have hA:kT V3 B (fH x o.nw).length f V3:=⟨rfl,λ_ _=>rfl,i2,by
    rw[i4,Qs,hf];have:=AZ (l:=(fH x o.nw).map λi:Nat=>(i:Int));rw[eP]at this;rw[this]⟩;have asT:H2 V3 B (fH x o.nw).length (.func (.func 167) #[] #[aZ W.next]) (Yn x) (λa=>∃i:Nat,i<x.st.length/\a=(i:Int)):=by
    intro U f' hU a b ⟨i,hi,ea⟩ ⟨j,hj,eb⟩;subst ea eb;have gu:∀b,b<V1.next->aH U b=aH V1 b:=λb hb=>by unfold aH;rw[hU.ot b (by omega),l3.get b hb]
    have e1:=aeQ (ob:=ob) (sb:=sb) (rb:=W.next) (U:=U) (s:=s) (o:=o) (sv:=sv) (nq:=x.qs.length) (qb:=qb) (v:=x.v) (now:=o.nw) (l:=x.st) (i:=i) (j:=j) ((gu _ (by omega)).trans (ao gr1)) ((gu _ (by omega)).trans h2.c) ((gu _ (by omega)).trans (ao h2.gs)) rfl hi hj;refine⟨_,e1,?_⟩;rw[acN];unfold Yn;simp only[vj]
   obtain⟨U,g,e1,e2,e3,e4⟩:=Mc (c:=eG+1) dv asT (λt ht=>⟨_,abV x o.nw ht,I5 t ht⟩) (λi j h1 h2=>by rw[I5 i (by omega),I5 j h2];exact Int.ofNat_lt.2 (aaB x o.nw h1 h2)) hA;rw[hf]at e3;obtain⟨d1,d2⟩:=aeq e3 e4;have eL:=hL.one d1;have arb:L.length=(fH x o.nw).length:=hL.1.length_eq;simp only[SX,q1,q3,e1,dg vM];have q3':R3 3=.slice (some ⟨B,0,none⟩) L.length (eG+1):=by rw[arb];exact q3
   rw[<-arb];refine mu (B:=B) (c:=eG+1) (v:=.slice (some ⟨B,0,none⟩) L.length (eG+1)) (R:=R3) hL (by rw[e2.nx];exact l3.next) (λb hb=>(e2.ot b (by omega)).trans (l3.get b hb)) q1 q2 q3' (.inl rfl) (λ_=>⟨?_,by rw[e2.nx];exact i2,i1⟩) _ q1 q2 rfl rfl rfl;rw[e2.ce,eL];unfold arr;rw[List.map_map];congr 2;refine List.map_congr_left λt ht=>?_
   rw[pX]at ht;show Value.int .i64 (g t)=Value.int .i64 (((g t).toNat:Nat):Int);rw[<-d2 t ht]
 obtain⟨L,hL,ht⟩:=hq;exact⟨L,hL,RX h qW ht⟩
end
def FQ(k se sc t1 e:Int):Int×Int×Int:=
 if e≠0 then(0,0,e)else if k=2\/k=4\/k=5\/k=8 then(se,-1,0)else if k=6\/k=7\/k=9 then(IntKind.i64.wrap t1,-1,0)else if k=3\/k=10\/k=11 then(-1,sc,0)else(-1,-1,0)
def UE(x:Int×Int×Int):ad:=.tuple #[.ae x.1,.ae x.2.1,.ae x.2.2]
def VN(n:Int)(W:AW):tY Tryz.prog 43 3 (.int .u32 n) W=some (.ae (IntKind.i64.wrap n),W):=aS (by kernel_rfl) rfl
def rK(a b:Int):Int:=IntKind.i64.wrap ↑(BitVec.ofInt IntKind.i64.bits a&&&BitVec.ofInt IntKind.i64.bits b).toNat
def Yk{t:af}{c d:Bool}{a b:Int}{W:AW}:bO Tryz.prog .and t c d (.ae a) (.ae b) W=some (.ae (rK a b),W):=aaj
def aoJ:rK 1 4=0/\rK 1 64=0/\rK 1 8=0/\rK 7 4=4/\rK 7 64=0/\rK 7 8=0/\rK 11 4=0/\rK 11 64=0/\rK 11 8=8/\rK 27 4=0/\rK 27 64=0/\rK 27 8=8/\rK 64 4=0/\rK 64 64=64/\rK 64 8=0/\rK 67 4=0/\rK 67 64=64/\rK 67 8=0/\rK 99 4=0/\rK 99 64=64/\rK 99 8=0/\rK 128 4=0/\rK 128 64=0/\rK 128 8=0:=by decide+kernel
def K4(k:Int):k=1\/k=2\/k=3\/k=4\/k=5\/k=6\/k=7\/k=8\/k=9\/k=10\/k=11\/k=12\/k<1\/12<k:=by omega
def WZ{k ow un se sc n to t1 t2 t3 t4 nw:Int}(hk:k<1\/12<k):zH k ow un se sc n to t1 t2 t3 t4 nw=2:=an hk
def L0(k ow un se sc n to t1 t2 t3 t4 nw:Int){W:AW}(hG:GW W):ba (.func (.func 98) #[] #[]) [.agg (jg k ow un se sc n to t1 t2 t3 t4 nw)] W=some (UE (FQ k se sc t1 (zH k ow un se sc n to t1 t2 t3 t4 nw)),W):=by
 refine aP rfl ?_ HS;have hP:∀o,ba (.func (.func 51) #[] #[]) [.agg (jg k ow un se sc n to t1 t2 t3 t4 nw)] (W.add o)=some (.ae (zH k ow un se sc n to t1 t2 t3 t4 nw),W.add o):=λo=>DJ k ow un se sc n to t1 t2 t3 t4 nw (hG.mono ((Le.refl W).add o))
 have hU:∀o,aH (W.add o) 0=some yp:=λo=>GW.cells (hG.mono ((Le.refl W).add o))
 have hp:=hG.pos;have ix:∀(i:Int) (U:AW),0<=i/\i<13->ixA 13 1 (.pointer (some ⟨0,0,none⟩)) (.ae i) U=some (.pointer (some ⟨0,i.toNat,none⟩),U):=λi U hi=>by have:=Wo (len:=13) (z:=1) (b:=0) (o:=0) (n:=i) (k:=.i64) (W:=U) hi.1 (by omega);simpa using this
 have h0:¬(0=W.next):=by omega
 have hUW:=hG.cells;unfold jg at hP;unfold Dy jg FQ;by_cases he:zH k ow un se sc n to t1 t2 t3 t4 nw=0;case neg=>have d:=aL he;simp(maxDischargeDepth:=9) only[SX,MX,HX,Nat.reduceAdd,hP,d,an he];rfl
 obtain rfl|rfl|rfl|rfl|rfl|rfl|rfl|rfl|rfl|rfl|rfl|rfl|h:=K4 k;rotate_right
 ·rw[WZ h]at he;cases he
 all_goals
  simp(maxDischargeDepth:=9) only[SX,MX,HX,Nat.reduceAdd,hP,he,ix,hU,yp,Ut,lj,mS,Yk,Int.reduceToNat,Int.reduceLT,Int.reduceLE,Int.reduceEq,aoJ,VN]
  simp[UE]
def O2(k ow un se sc n to t1 t2 t3 t4 nw:Int)(W:AW):ba (.func (.func 66) #[] #[]) [.agg (jg k ow un se sc n to t1 t2 t3 t4 nw)] W=some (UE (FQ k se sc t1 (zH k ow un se sc n to t1 t2 t3 t4 nw)),W):=by
 refine aP rfl ?_ H7;have hP:∀o,ba (.func (.func 32) #[] #[]) [.agg (jg k ow un se sc n to t1 t2 t3 t4 nw)] (W.add o)=some (.ae (zH k ow un se sc n to t1 t2 t3 t4 nw),W.add o):=λo=>GY k ow un se sc n to t1 t2 t3 t4 nw (W.add o)
 unfold jg at hP;unfold Ez jg FQ;by_cases he:zH k ow un se sc n to t1 t2 t3 t4 nw=0;case neg=>have d:=aL he;simp(maxDischargeDepth:=9) only[SX,MX,HX,Nat.reduceAdd,hP,d,an he];rfl
 obtain rfl|rfl|rfl|rfl|rfl|rfl|rfl|rfl|rfl|rfl|rfl|rfl|h:=K4 k;rotate_right
 ·rw[WZ h]at he;cases he
 all_goals
  simp(maxDischargeDepth:=9) only[SX,MX,HX,Nat.reduceAdd,hP,he,Int.reduceEq,VN,nc,mU,jW]
  simp[UE]
def By(bP ns:Int):Int:=if bP<0\/ns<=bP then 4 else 0
def ZU(k sec nq n:Int):Int:=if sec<0\/nq<=sec then 4 else if k=3/\(n<1\/8<n)then 7 else 0
def wrE(now bP sec ns nq:Int)(o:jC):Int:=if o.k=1\/o.k=12 then 0 else if o.k≠9/\o.un<=now then 13 else if(o.k=8/\o.ow≠0)\/((o.k=6\/o.k=7)/\o.ow≠o.t2)then 14 else if o.k=3\/o.k=10\/o.k=11 then ZU o.k sec nq o.n else By bP ns
def zg:((#[32]:Array af)[0]?).bind Tryz.prog.underlying=some (.slice 88):=by kernel_rfl
def zq:((#[22]:Array af)[0]?).bind Tryz.prog.underlying=some (.slice 63):=by kernel_rfl
section
variable {W:AW} {b ob:Nat} {sh cT fm now bP sec ns nq:Int} {sv sq qq:ad} {o:jC}
def aeH(hc:aH W b=some [.ae sh,.ae cT,.ae fm,sv,.ae now,sq,qq])(hs:∀W',aV Tryz.prog .len #[31] 3 #[false] [sq] W'=some (.ae ns,W')):
 jA ba (.ae bP) (aZ b) W=some (.ae (By bP ns),W):=by
 unfold jA By;by_cases c:bP<0
 ·have d:=aK c;simp(maxDischargeDepth:=9) only[SX,d,an (Or.inl c)]
 ·have d:=aL c;by_cases c2:ns<=bP
  ·have d2:=aK c2;simp(maxDischargeDepth:=9) only[SX,MX,d,hc,hs,d2,an (Or.inr c2)]
  ·have d2:=aL c2;simp(maxDischargeDepth:=9) only[SX,MX,d,hc,hs,d2,ap (show¬(bP<0\/ns<=bP)by omega)]
def Wm(hc:aH W b=some [.ae sh,.ae cT,.ae fm,sv,.ae now,sq,qq])(ho:aH W ob=some (AJ o))(hs:∀W',aV Tryz.prog .len #[31] 3 #[false] [sq] W'=some (.ae ns,W'))(hq:∀W',aV Tryz.prog .len #[32] 3 #[false] [qq] W'=some (.ae nq,W'))(c:Bool):
 jm ba (.ae bP) (.ae sec) (aZ b) (aZ ob) (.bool c) W=some (.ae (bif c then ZU o.k sec nq o.n else By bP ns),W):=by
 unfold jm;cases c
 ·simp(maxDischargeDepth:=9) only[SX,MX,aeH hc hs,gw]
 unfold ZU;by_cases c:sec<0
 ·have d:=aK c;simp(maxDischargeDepth:=9) only[SX,MX,d,eU,an (Or.inl c)]
 have d:=aL c;by_cases c2:nq<=sec
 ·have d2:=aK c2;simp(maxDischargeDepth:=9) only[SX,MX,d,hc,hq,d2,eU,an (Or.inr c2)]
 have d2:=aL c2;have e0:¬(sec<0\/nq<=sec):=by omega
 by_cases k3:o.k=3
 ·have d3:=aK k3;by_cases n1:o.n<1
  ·have d4:=aK n1;simp(maxDischargeDepth:=9) only[SX,MX,d,hc,hq,ho,d2,d3,d4,eU,ap e0,an (show o.k=3/\(o.n<1\/8<o.n)from⟨k3,.inl n1⟩)]
  ·have d4:=aL n1;by_cases n2:8<o.n
   ·have d5:=aK n2;simp(maxDischargeDepth:=9) only[SX,MX,d,hc,hq,ho,d2,d3,d4,d5,eU,ap e0,an (show o.k=3/\(o.n<1\/8<o.n)from⟨k3,.inr n2⟩)]
   ·have d5:=aL n2;simp(maxDischargeDepth:=9) only[SX,MX,d,hc,hq,ho,d2,d3,d4,d5,eU,ap e0,ap (show¬(o.k=3/\(o.n<1\/8<o.n))by omega)]
 ·have d3:=aL k3;simp(maxDischargeDepth:=9) only[SX,MX,HX,d,hc,hq,ho,d2,d3,eU,ap e0,ap (show¬(o.k=3/\(o.n<1\/8<o.n))fromλz=>k3 z.1)]
def w3(k:Int)(a b:Int):Int:=if k=3\/k=10\/k=11 then a else b
def adN(hc:aH W b=some [.ae sh,.ae cT,.ae fm,sv,.ae now,sq,qq])(ho:aH W ob=some (AJ o))(hs:∀W',aV Tryz.prog .len #[31] 3 #[false] [sq] W'=some (.ae ns,W'))(hq:∀W',aV Tryz.prog .len #[32] 3 #[false] [qq] W'=some (.ae nq,W'))(c:Bool):
 lS ba (.ae bP) (.ae sec) (aZ b) (aZ ob) (.ae o.k) (.bool c) W=some (.ae (bif c then(if o.ow=o.t2 then By bP ns else 14)else w3 o.k (ZU o.k sec nq o.n) (By bP ns)),W):=by
 unfold lS w3;cases c
 ·by_cases k3:o.k=3
  ·have d3:=aK k3;simp(maxDischargeDepth:=9) only[SX,MX,Nat.reduceAdd,d3,Wm hc ho hs hq,eU,gw,an (show o.k=3\/o.k=10\/o.k=11 from .inl k3)]
  have d3:=aL k3;by_cases k4:o.k=10
  ·have d4:=aK k4;simp(maxDischargeDepth:=9) only[SX,MX,Nat.reduceAdd,d3,d4,Wm hc ho hs hq,eU,gw,an (show o.k=3\/o.k=10\/o.k=11 from .inr (.inl k4))]
  have d4:=aL k4;by_cases k5:o.k=11
  ·have d5:=aK k5;simp(maxDischargeDepth:=9) only[SX,MX,Nat.reduceAdd,d3,d4,d5,Wm hc ho hs hq,eU,gw,an (show o.k=3\/o.k=10\/o.k=11 from .inr (.inr k5))]
  ·have d5:=aL k5;simp(maxDischargeDepth:=9) only[SX,MX,Nat.reduceAdd,d3,d4,d5,Wm hc ho hs hq,gw,ap (show¬(o.k=3\/o.k=10\/o.k=11)by omega)]
 ·by_cases c:o.ow=o.t2
  ·have d:=aK c;simp(maxDischargeDepth:=9) only[SX,MX,Nat.reduceAdd,ho,d,aeH hc hs,eU,an c]
  ·have d:=aL c;simp(maxDischargeDepth:=9) only[SX,MX,Nat.reduceAdd,ho,d,eU,ap c]
def w4(bP sec ns nq:Int)(o:jC):Int:=if o.k=8 then(if o.ow=0 then By bP ns else 14)else if o.k=6\/o.k=7 then(if o.ow=o.t2 then By bP ns else 14)else w3 o.k (ZU o.k sec nq o.n) (By bP ns)
def aja(hc:aH W b=some [.ae sh,.ae cT,.ae fm,sv,.ae now,sq,qq])(ho:aH W ob=some (AJ o))(hs:∀W',aV Tryz.prog .len #[31] 3 #[false] [sq] W'=some (.ae ns,W'))(hq:∀W',aV Tryz.prog .len #[32] 3 #[false] [qq] W'=some (.ae nq,W')):
 lP ba (.ae bP) (.ae sec) (aZ b) (aZ ob) W=some (.ae (w4 bP sec ns nq o),W):=by
 unfold lP w4;by_cases k8:o.k=8
 ·have d8:=aK k8;by_cases c:o.ow=0
  ·have d:=aK c;simp(maxDischargeDepth:=9) only[SX,MX,ho,d8,d,aeH hc hs,an k8,an c]
  ·have d:=aL c;simp(maxDischargeDepth:=9) only[SX,MX,ho,d8,d,an k8,ap c]
 have d8:=aL k8;by_cases k6:o.k=6
 ·have d6:=aK k6;simp(maxDischargeDepth:=9) only[SX,MX,ho,d8,d6,adN hc ho hs hq,eU,ap k8,an (show o.k=6\/o.k=7 from .inl k6)]
 have d6:=aL k6;by_cases k7:o.k=7
 ·have d7:=aK k7;simp(maxDischargeDepth:=9) only[SX,MX,ho,d8,d6,d7,adN hc ho hs hq,eU,ap k8,an (show o.k=6\/o.k=7 from .inr k7)]
 ·have d7:=aL k7;simp(maxDischargeDepth:=9) only[SX,MX,ho,d8,d6,d7,adN hc ho hs hq,gw,ap k8,ap (show¬(o.k=6\/o.k=7)by omega)]
def w5(now bP sec ns nq:Int)(o:jC):Int:=if o.k=9 then w4 bP sec ns nq o else if o.un<=now then 13 else w4 bP sec ns nq o
def aaK(hc:aH W b=some [.ae sh,.ae cT,.ae fm,sv,.ae now,sq,qq])(ho:aH W ob=some (AJ o))(hs:∀W',aV Tryz.prog .len #[31] 3 #[false] [sq] W'=some (.ae ns,W'))(hq:∀W',aV Tryz.prog .len #[32] 3 #[false] [qq] W'=some (.ae nq,W'))(c:Bool):
 lR ba (.ae bP) (.ae sec) (aZ b) (aZ ob) (.ae o.k) (.bool c) W=some (.ae (bif c then 0 else w5 now bP sec ns nq o),W):=by
 unfold lR w5;cases c
 ·by_cases k9:o.k=9
  ·have d9:=aK k9;simp(maxDischargeDepth:=9) only[SX,MX,ho,d9,aja hc ho hs hq,gw,an k9]
  have d9:=aL k9;by_cases c:o.un<=now
  ·have d:=aK c;simp(maxDischargeDepth:=9) only[SX,MX,hc,ho,d9,d,gw,ap k9,an c]
  ·have d:=aL c;simp(maxDischargeDepth:=9) only[SX,MX,hc,ho,d9,d,aja hc ho hs hq,gw,ap k9,ap c]
 ·simp(maxDischargeDepth:=9) only[SX,MX,eU]
def aml:wrE now bP sec ns nq o=if o.k=1\/o.k=12 then 0 else w5 now bP sec ns nq o:=by
 unfold wrE w5 w4 w3;by_cases h:o.k=1\/o.k=12
 ·rw[an h,an h]
 rw[ap h,ap h];by_cases h9:o.k=9
 ·rw[bM,bM,bM,an h9,bM,bM]
 rw[ap h9];by_cases hu:o.un<=now
 ·rw[an ⟨h9,hu⟩,an hu]
 rw[bM,ap hu];by_cases h8:o.k=8
 ·rw[an h8];by_cases c:o.ow=0
  ·rw[bM,bM,an c]
  ·rw[kJ,ap c]
 rw[ap h8];by_cases h6:o.k=6\/o.k=7
 ·rw[an h6];by_cases c:o.ow=o.t2
  ·rw[bM,bM,an c]
  ·rw[kJ,ap c]
 ·rw[ap h6,bM]
def Tn(hs:∀W',aV Tryz.prog .len #[31] 3 #[false] [sq] W'=some (.ae ns,W'))(hq:∀W',aV Tryz.prog .len #[32] 3 #[false] [qq] W'=some (.ae nq,W')):
 ba (.func (.func 99) #[] #[]) [.agg #[.ae sh,.ae cT,.ae fm,sv,.ae now,sq,qq],wa o,.ae bP,.ae sec] W=some (.ae (wrE now bP sec ns nq o),W):=by
 refine aP rfl ?_ F2;rw[aml];unfold B2;obtain⟨V,hV⟩:∃V,V=(W.add (.cells [.ae sh,.ae cT,.ae fm,sv,.ae now,sq,qq])).add (.cells (AJ o)):=⟨_,rfl⟩;have aM:Le W V:=by rw[hV];exact((Le.refl W).add _).add _
 have hc:aH V W.next=some [.ae sh,.ae cT,.ae fm,sv,.ae now,sq,qq]:=by rw[hV];simp(maxDischargeDepth:=9) only[MX,HX]
 have ho:aH V (W.next+1)=some (AJ o):=by rw[hV];simp(maxDischargeDepth:=9) only[MX,HX]
 simp only[SX,AW.av];rw[<-hV];clear hV;have lk:bz (.pointer (some ⟨W.next+1,0,none⟩)) V=some (.ae o.k,V):=aO ho rfl;by_cases k1:o.k=1
 ·have d1:=aK k1;simp only[SX,aJ,lk,d1,aaK hc ho hs hq,eU,an (show o.k=1\/o.k=12 from .inl k1),ah];exact⟨ak,aM⟩
 have d1:=aL k1;by_cases k2:o.k=12
 ·have d2:=aK k2;simp only[SX,aJ,lk,d1,d2,aaK hc ho hs hq,eU,an (show o.k=1\/o.k=12 from .inr k2),ah];exact⟨ak,aM⟩
 ·have d2:=aL k2;simp only[SX,aJ,lk,d1,d2,aaK hc ho hs hq,gw,ap (show¬(o.k=1\/o.k=12)by omega),ah];exact⟨ak,aM⟩
end
def Cl{α:Type}(lo:Nat)(W:AW)(z:Nat)(f:α->List ad)(u:ad)(l:List α):Prop:=(l=[]/\(u=.slice none 0 0\/∃a,u=.slice (some a) 0 0))\/(l≠[]/\∃B,lo<=B/\B<W.next/\u=.slice (some ⟨B,0,none⟩) l.length (eG+z)/\W.get B=some (.cells (l.flatMap f)))
def UQ{α:Type}{t:af}{z bytes:Nat}{f:α->List ad}(hk:kZ Tryz.prog #[t,t] z bytes=true)(hf:∀a,(f a).length=z)(h1:∀a,(f a).all Eng.one=true){W:AW}{v:ad}{l:List α}(h:Rd W z f v l)
 (hb:l.length<1099511627776)(lF:(2*l.length+192)*bytes<=281474976710656):
 ∃u W',dn Tryz.prog (W.add (.cells [])) #[t,t] (.slice (some ⟨W.next,0,none⟩) 0 0) v=some (u,W')/\Le W W'/\Cl W.next W' z f u l:=by
 obtain⟨a,c,rfl,hh⟩:=h.keep ((Le.refl W).add (.cells []));by_cases h0:l=[]
 ·subst h0;cases a with
  |none=>exact⟨_,_,wP hk (aQ _) (by omega) (by simpa using lF),(Le.refl W).add _,.inl ⟨rfl,.inr ⟨_,rfl⟩⟩⟩
  |some a=>exact⟨_,_,wP hk (aQ _) (by omega) (by simpa using lF),(Le.refl W).add _,.inl ⟨rfl,.inr ⟨_,rfl⟩⟩⟩
 ·rcases hh with hh|⟨b,o,cs,rfl,i2,i3,i4⟩
  ·exact absurd hh h0
  have hl:0<l.length:=vP.2 h0;refine⟨_,_,E3 hk i3 i4.symm (bZ hf l) hl (D0 h1 l) hb lF,((Le.refl W).add _).add _,.inr ⟨h0,_,?_,?_,rfl,AW.aI _ _⟩⟩
  ·simp only[AW.av];omega
  ·simp only[AW.av];omega
def Rv{α:Type}{lo z:Nat}{f:α->List ad}{W W':AW}{v:ad}{l:List α}(h:Cl lo W' z f v l)(hp:bL v=true):Cl lo W z f v l:=by
 rcases h with h|⟨h0,B,i1,i2,rfl,i4⟩
 ·exact .inl h
 ·cases hp
def abL{W:AW}{v:ad}{l:List fx}(h:PL W v l)(hl:l.length<=10000):∃u W',ba (.func (.func 122) #[] #[]) [v] W=some (u,W')/\Le W W'/\Cl W.next W' 5 dK u l:=by
 refine GJ (Q:=λu W'=>Le W W'/\Cl W.next W' 5 dK u l) ?_ mI λu W' hq _ hp=>⟨Le.refl _,Rv hq.2 hp⟩
 unfold iF;obtain⟨a,c,rfl,-⟩:=id h;cases a with
 |none=>cases adX h;simp(maxDischargeDepth:=9) only[SX,MX,HX,Xi u25,Option.isNone_none];exact .inl ⟨rfl,.inl rfl⟩
 |some a=>obtain⟨u,W',k1,k2,k3⟩:=UQ aoE ni VX h (by omega) (by omega);simp(maxDischargeDepth:=9) only[SX,MX,HX,Xi u25,Option.isNone_some,aeg,k1,k2,k3]
def acK{W:AW}{v:ad}{l:List Int}(h:PH W v l)(hl:l.length<=10000):∃u W',ba (.func (.func 123) #[] #[]) [v] W=some (u,W')/\Le W W'/\Cl W.next W' 1 qQ u l:=by
 refine GJ (Q:=λu W'=>Le W W'/\Cl W.next W' 1 qQ u l) ?_ sj λu W' hq _ hp=>⟨Le.refl _,Rv hq.2 hp⟩
 unfold mN;obtain⟨a,c,rfl,-⟩:=id h;cases a with
 |none=>cases adX h;simp(maxDischargeDepth:=9) only[SX,MX,HX,Xi alr,Option.isNone_none];exact .inl ⟨rfl,.inl rfl⟩
 |some a=>obtain⟨u,W',k1,k2,k3⟩:=UQ BQ iA pr h (by omega) (by omega);simp(maxDischargeDepth:=9) only[SX,MX,HX,Xi alr,Option.isNone_some,D8,k1,k2,k3]
def awQ:Tryz.prog.underlying 32=some (.slice 88):=by kernel_rfl
def aud:(Tryz.prog.info? 88).map (·.bytes)=some 24:=by kernel_rfl
def au5:oD Tryz.prog 88=some 1:=by kernel_rfl
def aur:kN Tryz.prog 88=some (.slice none 0 0):=by kernel_rfl
def RA(n:Nat):yP [.slice none 0 0] n=List.replicate n (.slice none 0 0):=by
 induction n with
 |zero=>rfl
 |succ n ih=>show [.slice none 0 0]++yP [.slice none 0 0] n=_;rw[ih,uv];rfl
def aqb{n:Nat}(h:n<=10000)(W:AW):gh Tryz.prog 32 (.ae (n:Int)) (.ae (n:Int)) W=some (oh W.next n,W.add (.cells (List.replicate n (.slice none 0 0)))):=by
 show gh Tryz.prog 32 (.ae (Int.ofNat n)) (.ae (Int.ofNat n)) W=_;unfold gh;have e:=yU (z:=.slice none 0 0) (len:=n) (n:=1) rfl;have e2:(kI (.slice none 0 0) (n*1)).toList=List.replicate n (.slice none 0 0):=by rw[e];exact RA n
 have e3:(List.replicate n (Value.slice none 0 0)).all cC=true:=by rw[<-RA];exact wq _ _ rfl n
 simp only[awQ,au5,aur,aud];rw[e2,an ⟨aQ _,by omega,by omega,e3⟩]
def aws(W:AW)(cs:List ad)(p:Nat)(l:List Int):Prop:=∃u,cs[p]? =some u/\PH W u l
abbrev PF(W:AW)(v:ad)(qs:List (List Int)):Prop:=Row W 1 (aws W) v qs
def PF.mono{W W':AW}{v:ad}{qs:List (List Int)}(h:PF W v qs)(aM:Le W W'):PF W' v qs:=
 Row.imp h aM λcs p l ⟨u,h1,h2⟩=>⟨u,h1,h2.keep aM⟩
def PF.get{W:AW}{v:ad}{qs:List (List Int)}(h:PF W v qs){k:Nat}(hk:k<qs.length):∃b o u,(∀W' kk,pc 1 v (.int kk (k:Int)) W'=some (.pointer (some ⟨b,o,none⟩),W'))/\b<W.next/\PH W u qs[k]/\∀W',W'.get b=W.get b->bz (.pointer (some ⟨b,o,none⟩)) W'=some (u,W'):=by obtain⟨b,o,cs,h1,h2,h3,u,h4,h5⟩:=h.elem hk;exact⟨b,o,u,h1,h2,h5,λW' hg=>aO (by unfold aH at h3|-;rw[hg];exact h3) h4⟩
abbrev eT(x:cI)(sv sq qq:ad):List ad:=[.ae x.v.sh,.ae x.v.cT,.ae x.v.fm,sv,.ae x.now,sq,qq]
abbrev ka(x:cI)(sv sq qq:ad):ad:=.agg #[.ae x.v.sh,.ae x.v.cT,.ae x.v.fm,sv,.ae x.now,sq,qq]
def oE(W:AW):dm Tryz.prog 34 W=some (aZ W.next,W.add (.cells [.ae 0,.ae 0,.ae 0,.slice none 0 0,.ae 0,.slice none 0 0,.slice none 0 0])):=aS (by kernel_rfl) rfl
def EF(x:ad)(W:AW):jx Tryz.prog 34 x W=dJ 7 x W:=by kernel_rfl
structure Cop (W0 V:AW) (sb qb:Nat) (bq:Nat->Nat) (x:cI):Prop where
 le:Le W0 V
 lo:W0.next<=sb/\sb<qb/\qb<V.next
 gs:V.get sb=some (.cells (x.st.flatMap dK))
 qx:QsX V qb bq x.qs
 nq:∀k,W0.next<=bq k/\bq k<V.next/\bq k≠sb/\bq k≠qb
section
variable {W0 W V:AW} {x:cI} {sv sq qq:ad}
def adt{R:ai.Fr}{U:AW}{qb d n:Nat}{v1 v2:ad}{K:LT->Option (ad×AW)}{G:ad×AW->Prop}{qs:List (List Int)}(hn:qs.length=n)(hn2:n<=10000)(hq:PF U qq qs)(hqn:qb=U.next)(hl:∀l∈qs,l.length<=10000)(hd:d<U.next)
 (r1:R 1=v1)(r2:R 2=v2)(r3:R 3=oh qb n)(r15:R 15=qq)(r16:R 16=.ae (n:Int))(r17:R 17=.ae 0)
 (hK:∀R' V bq,R' 1=v1->R' 2=v2->R' 3=oh qb n->Le U V->qb<V.next->QsX V qb bq qs->(∀k,bq k=d\/(qb<bq k/\bq k<V.next))->Ok (K (.exit 0,R',V)) G):Ok (fb (fZ (mX ba) R (U.add (.cells (List.replicate n (.slice none 0 0))))) K) G:=by
 subst hqn
 refine bh n (by omega) (λk R V=>Le U V/\U.next<V.next/\R 1=v1/\R 2=v2/\R 3=oh U.next n/\R 15=qq/\R 16=.ae (n:Int)/\R 17=.ae (k:Int)/\
  ∃qv bq,V.get U.next=some (.cells qv)/\qv.length=n/\(∀j (h:j<qs.length),j<k->∃u,qv[j]? =some u/\QX V u qs[j] (bq j))/\(∀i j (h:i<qs.length) (h':j<qs.length),i<j->j<k->qs[i]≠[]->qs[j]≠[]->bq i<bq j)/\(∀j,bq j=d\/(U.next<bq j/\bq j<V.next)))
  (λr=>r.1=.exit 0/\r.2.1 1=v1/\r.2.1 2=v2/\r.2.1 3=oh U.next n/\Le U r.2.2/\U.next<r.2.2.next/\∃bq,QsX r.2.2 U.next bq qs/\∀j,bq j=d\/(U.next<bq j/\bq j<r.2.2.next))
  ⟨(Le.refl _).add _,by rw[AW.av];omega,r1,r2,r3,r15,r16,r17,_,λ_=>d,AW.aI _ _,mq,λj _ h=>absurd h (by omega),λi j _ _ _ h=>absurd h (by omega),λj=>.inl rfl⟩ ?_ ?_ ?_
 ·rintro k R V hk ⟨aM,Mh,r1,r2,r3,r15,r16,r17,qv,bq,q1,q2,q3,q4,q5⟩;unfold mX;have hkq:k<qs.length:=by omega
  have t1:decide ((k:Int)<(n:Int))=true:=cK;have t2:=λW'=>bm W' k 1
  have e3:((k+1:Nat):Int)=(k:Int)+1:=by omega
  obtain⟨b,i,u,g1,g2,g3,g4⟩:=hq.get hkq;have lu:=g4 V (aM.get _ g2);obtain⟨u',V2,c1,c2,c3⟩:=acK (g3.keep aM) (hl _ (cD _));have M5:k<qv.length:=by omega
  have q1':V2.get U.next=some (.cells qv):=(c2.get _ Mh).trans q1;have one:Eng.one u'=true:=by rcases c3 with⟨-,rfl|⟨a,rfl⟩⟩|⟨-,B,-,-,rfl,-⟩<;>rfl
  have sq:eZ 1 (.pointer (some ⟨U.next,k,none⟩)) u' V2=some (aj,V2.put U.next (.cells (qv.set k u'))):=by rcases c3 with⟨-,rfl|⟨a,rfl⟩⟩|⟨-,B,-,-,rfl,-⟩<;>rw[js,cR q1',bJ,an M5]
  simp only[SX,r3,r15,r16,r17,t1,g1,lu,c1,ixQ hk,sq,t2,ah];have Wc:∀b,b≠U.next->(V2.put U.next (.cells (qv.set k u'))).get b=V2.get b:=λb hb=>AW.ay _ _ (bc hb)
  refine .inl ⟨ak,(aM.trans c2).put (aQ _) _,by rw[AW.bG];have:=c2.next;omega,r1,r2,r3,r15,r16,by rw[e3];rfl,?_⟩;obtain⟨B,hB⟩:∃B,(qs[k]=[]/\B=d)\/(qs[k]≠[]/\V.next<=B/\B<V2.next/\u'=.slice (some ⟨B,0,none⟩) qs[k].length (eG+1)/\V2.get B=some (.cells (qs[k].map (Value.int .u32)))):=by
   rcases c3 with⟨h,-⟩|⟨h,B,b1,b2,b3,b4⟩
   ·exact⟨d,.inl ⟨h,rfl⟩⟩
   ·exact⟨B,.inr ⟨h,b1,b2,b3,by rw[b4,oy]⟩⟩
  refine⟨_,λj=>if j=k then B else bq j,AW.aW _ _ _,by simp[q2],λj hj ZO=>?_,λi j hi hj hij ZO n1 n2=>?_,λj=>?_⟩
  ·by_cases Oy:k=j
   ·subst Oy;refine⟨u',vK M5,?_⟩;simp only[bi];rcases hB with⟨h,e⟩|⟨h,b1,b2,b3,b4⟩
    ·rcases c3 with⟨h',e'⟩|⟨h',-⟩
     ·exact .inl ⟨h',e'⟩
     ·exact absurd h h'
    ·exact .inr ⟨h,by rw[AW.bG];exact b2,b3,(Wc _ (by omega)).trans b4⟩
   ·obtain⟨w,w1,w2⟩:=q3 j hj (by omega);refine⟨w,by rw[vw Oy];exact w1,?_⟩;simp only[ap (bc Oy)];rcases w2.mono c2 with w2|⟨w3,w4,w5,w6⟩
    ·exact .inl w2
    ·refine .inr ⟨w3,by rw[AW.bG];exact w4,w5,(Wc _ ?_).trans w6⟩;rcases q5 j with e|e<;>omega
  ·have hik:i≠k:=by omega
   simp only[ap hik];by_cases Oy:j=k
   ·subst Oy;simp only[bi];rcases hB with⟨h,-⟩|⟨h,b1,-,-,-⟩
    ·exact absurd h n2
    ·obtain⟨w,w1,w2⟩:=q3 i hi hij;rcases w2 with⟨w2,-⟩|⟨w3,w4,w5,w6⟩
     ·exact absurd w2 n1
     ·omega
   ·simp only[ap Oy];exact q4 i j hi hj hij (by omega) n1 n2
  ·rw[AW.bG];by_cases Oy:j=k
   ·simp only[Oy,bi];rcases hB with⟨-,e⟩|⟨h,b1,b2,-,-⟩
    ·exact .inl e
    ·exact .inr ⟨by omega,b2⟩
   ·simp only[ap Oy];have:=c2.next;rcases q5 j with e|e
    ·exact .inl e
    ·exact .inr (by omega)
 ·rintro R V ⟨aM,Mh,r1,r2,r3,r15,r16,r17,qv,bq,q1,q2,q3,q4,q5⟩;unfold mX;have t1:decide ((n:Int)<(n:Int))=false:=cg;simp only[SX,r16,r17,t1,ah];refine⟨by simp,ak,r1,r2,r3,aM,Mh,bq,⟨qv,q1,by omega,λk hk=>q3 k hk (by omega),λi j hi hj hij n1 n2=>?_⟩,q5⟩;rcases qG i j with h|h
  ·have:=q4 i j hi hj h (by omega) n1 n2;omega
  ·have:=q4 j i hj hi (by omega) (by omega) n2 n1;omega
 ·rintro⟨e,R,V⟩ ⟨rfl,a1,a2,a3,a4,a5,bq,a6,a7⟩;exact hK R V bq a1 a2 a3 a4 a5 a6 a7
def XJ(hs:PL W sq x.st)(hq:PF W qq x.qs)(hsv:Eng.one sv=true)(h0:x.st≠[])(hn:x.st.length<=10000)(hqn:x.qs.length<=10000)(hl:∀l∈x.qs,l.length<=10000):
 ∃V sb qb bq,ba (.func (.func 100) #[] #[]) [ka x sv sq qq] W=some (ka x sv (fL sb x.st.length) (oh qb x.qs.length),V)/\Cop W V sb qb bq x:=by
 have hq':Ok (xD ba (ka x sv sq qq) W) λr=>∃sb qb bq,r.1=ka x sv (fL sb x.st.length) (oh qb x.qs.length)/\Cop W r.2 sb qb bq x:=by
  unfold xD;obtain⟨V,hV⟩:∃V,V=(W.add (.cells (eT x sv sq qq))).add (.cells [.ae 0,.ae 0,.ae 0,.slice none 0 0,.ae 0,.slice none 0 0,.slice none 0 0]):=⟨_,rfl⟩;have aM:Le W V:=by rw[hV];exact((Le.refl W).add _).add _
  have g1:V.get W.next=some (.cells (eT x sv sq qq)):=by rw[hV];exact(AW.aE _ _ (by rw[AW.av];omega)).trans (AW.aI _ _)
  have g2:V.get (W.next+1)=some (.cells [.ae 0,.ae 0,.ae 0,.slice none 0 0,.ae 0,.slice none 0 0,.slice none 0 0]):=by rw[hV,<-AW.av W (.cells (eT x sv sq qq))];exact AW.aI _ _
  have nV:V.next=W.next+2:=by rw[hV];rfl
  simp only[SX,oE,AW.av];rw[<-hV];clear hV;have l5:bz (.pointer (some ⟨W.next,5,none⟩)) V=some (sq,V):=aO (ao g1) rfl;obtain⟨u,V2,c1,c2,c3⟩:=abL (hs.keep aM) hn;rcases c3 with⟨h,-⟩|⟨-,sb,b1,b2,rfl,b4⟩
  ·exact absurd h h0
  have g1':V2.get W.next=some (.cells (eT x sv sq qq)):=(c2.get _ (by omega)).trans g1;have s5:eZ 1 (.pointer (some ⟨W.next,5,none⟩)) (fL sb x.st.length) V2=some (aj,V2.put W.next (.cells (eT x sv (fL sb x.st.length) qq))):=by rw[js,cR g1'];rfl
  simp only[SX,aJ,l5,c1,s5];obtain⟨V3,wZ⟩:∃V3,V3=V2.put W.next (.cells (eT x sv (fL sb x.st.length) qq)):=⟨_,rfl⟩;have g3:V3.get W.next=some (.cells (eT x sv (fL sb x.st.length) qq)):=by rw[wZ];exact AW.aW _ _ _
  have o3:∀b,b≠W.next->V3.get b=V2.get b:=λb hb=>by rw[wZ];exact AW.ay _ _ (bc hb)
  have n3:V3.next=V2.next:=by rw[wZ];rfl
  have BB:Le W V3:=by rw[wZ];exact(aM.trans c2).put (aQ _) _
  rw[<-wZ];clear wZ;have l6:bz (.pointer (some ⟨W.next,6,none⟩)) V3=some (qq,V3):=aO (ao g3) rfl;have c2n:=c2.next;have ac1:∀W',aV Tryz.prog .len #[32] 3 #[false] [qq] W'=some (.ae (x.qs.length:Int),W'):=λW'=>(hq.len zg) W' _ _
  have l6':∀W',W'.get W.next=V3.get W.next->bz (.pointer (some ⟨W.next,6,none⟩)) W'=some (qq,W'):=λW' h=>aO (ao (h.trans g3)) rfl
  simp only[SX,l6,ac1,aqb hqn,l6' _ (AW.aE V3 _ (show V3.next≠W.next by omega))];refine adt (U:=V3) (qb:=V3.next) (d:=W.next) (n:=x.qs.length) (v1:=aZ W.next) (v2:=aZ (W.next+1)) rfl hqn (hq.mono BB) rfl hl (by omega) rfl rfl rfl rfl rfl rfl ?_;intro R' V4 bq q1 q2 q3 q4 q5 q6 q7;have g4:V4.get W.next=some (.cells (eT x sv (fL sb x.st.length) qq)):=(q4.get _ (by omega)).trans g3;have s6:eZ 1 (.pointer (some ⟨W.next,6,none⟩)) (oh V3.next x.qs.length) V4=some (aj,V4.put W.next (.cells (eT x sv (fL sb x.st.length) (oh V3.next x.qs.length)))):=by rw[js,cR g4];rfl
  have l7:dJ 7 (aZ W.next) (V4.put W.next (.cells (eT x sv (fL sb x.st.length) (oh V3.next x.qs.length))))=some (ka x sv (fL sb x.st.length) (oh V3.next x.qs.length),V4.put W.next (.cells (eT x sv (fL sb x.st.length) (oh V3.next x.qs.length)))):=
   bB (ao (AW.aW _ _ _)) rfl
  have g5:(V4.put W.next (.cells (eT x sv (fL sb x.st.length) (oh V3.next x.qs.length)))).get (W.next+1)=some (.cells [.ae 0,.ae 0,.ae 0,.slice none 0 0,.ae 0,.slice none 0 0,.slice none 0 0]):=
   (AW.ay _ _ (by omega)).trans ((q4.get _ (by omega)).trans ((o3 _ (by omega)).trans ((c2.get _ (by omega)).trans g2)))
  have s7:=gE (W:=V4.put W.next (.cells (eT x sv (fL sb x.st.length) (oh V3.next x.qs.length)))) (vs:=(eT x sv (fL sb x.st.length) (oh V3.next x.qs.length)).toArray) g5 (n:=7) rfl rfl (by simp[dC,hsv,cF,cL]);obtain⟨V5,Ml⟩:∃V5,V5=(V4.put W.next (.cells (eT x sv (fL sb x.st.length) (oh V3.next x.qs.length)))).put (W.next+1) (.cells (eT x sv (fL sb x.st.length) (oh V3.next x.qs.length))):=⟨_,rfl⟩;have l8:dJ 7 (aZ (W.next+1)) V5=some (ka x sv (fL sb x.st.length) (oh V3.next x.qs.length),V5):=by rw[Ml];exact bB (ao (AW.aW _ _ _)) rfl
  have o5:∀b,b≠W.next->b≠W.next+1->V5.get b=V4.get b:=λb h1 h2=>by rw[Ml];exact(AW.ay _ _ (bc h2)).trans (AW.ay _ _ (bc h1))
  have n5:V5.next=V4.next:=by rw[Ml];rfl
  have PS:eZ 7 (aZ (W.next+1)) (ka x sv (fL sb x.st.length) (oh V3.next x.qs.length)) (V4.put W.next (.cells (eT x sv (fL sb x.st.length) (oh V3.next x.qs.length))))=some (aj,V5):=by rw[Ml];exact s7
  simp only[SX,q1,q2,q3,s6,l7,PS,sB,EF,l8,bJ,ah];have q4n:=q4.next;refine⟨sb,V3.next,bq,rfl,⟨⟨by omega,λb hb=>(o5 b (by omega) (by omega)).trans ((q4.get _ (by omega)).trans (BB.get b hb))⟩,by omega,?_,?_,λk=>?_⟩⟩
  ·exact(o5 _ (by omega) (by omega)).trans ((q4.get _ (by omega)).trans ((o3 _ (by omega)).trans b4))
  ·obtain⟨qv,y1,y2,y3,y4⟩:=q6;refine⟨qv,(o5 _ (by omega) (by omega)).trans y1,y2,λk hk=>?_,y4⟩;obtain⟨w,w1,w2⟩:=y3 k hk;refine⟨w,w1,?_⟩;rcases w2 with w2|⟨w3,w4,w5,w6⟩
   ·exact .inl w2
   ·refine .inr ⟨w3,by omega,w5,(o5 _ ?_ ?_).trans w6⟩
    ·intro e;rw[e,g4]at w6;injection w6 with w6;injection w6 with w6;cases hq2:x.qs[k]with
     |nil=>exact w3 hq2
     |cons a t=>rw[hq2]at w6;simp at w6
    ·rcases q7 k with e|e<;>omega
  ·rcases q7 k with e|e<;>omega
 obtain⟨⟨v,V⟩,h1,sb,qb,bq,rfl,h2⟩:=hq';refine⟨V,sb,qb,bq,?_,h2⟩;rw[HJ h1,kB (by simp[bL,eH,cC])]
end
abbrev xU(r:RunT):List ad:=[.ae r.row,.ae r.fi,.ae r.ma]
abbrev rnV(r:RunT):ad:=.agg #[.ae r.row,.ae r.fi,.ae r.ma]
def wY(r:RunT):(xU r).length=3:=rfl
def WV(r:RunT):(xU r).all Eng.one=true:=rfl
def blC(b:Bool):List ad:=[.bool b]
def IK(b:Bool):(blC b).length=1:=rfl
abbrev NB(W:AW)(v:ad)(l:List Bool):Prop:=Rd W 1 blC v l
def NB.get{W:AW}{v:ad}{l:List Bool}(h:NB W v l){i:Nat}(hi:i<l.length):∃b o,(∀W' k,pc 1 v (.int k (i:Int)) W'=some (.pointer (some ⟨b,o,none⟩),W'))/\b<W.next/\∀W',W'.get b=W.get b->bz (.pointer (some ⟨b,o,none⟩)) W'=some (.bool l[i],W'):=by obtain⟨b,o,cs,h1,h2,h3,h4⟩:=(Fs IK h).elem hi;exact⟨b,o,h1,h2,λW' hg=>aO (by unfold aH at h3|-;rw[hg];exact h3) ((gf h4 (j:=0) (by omega)).trans rfl)⟩
def aip:kZ Tryz.prog #[219,219] 3 24=true:=by kernel_rfl
def acn(r:RunT)(W:AW):cJ Tryz.prog 219 1 [(0,rnV r)] W=some (.slice (some ⟨W.next,0,none⟩) 1 1,W.add (.cells (xU r))):=aS (by kernel_rfl) rfl
def ad1(a b:Int)(W:AW):dU Tryz.prog 222 [(0,.ae a),(1,.ae b)] W=some (rnV ⟨a,b,0⟩,W):=aS (by kernel_rfl) rfl
def aje(W:AW):dm Tryz.prog 222 W=some (aZ W.next,W.add (.cells (xU ⟨0,0,0⟩))):=aS (by kernel_rfl) rfl
def ake{W:AW}{b:Nat}{r0:RunT}(h:W.get b=some (.cells (xU r0)))(r:RunT):eZ 3 (aZ b) (rnV r) W=some (aj,W.put b (.cells (xU r))):=gE (vs:=(xU r).toArray) h rfl rfl rfl
def Bt(W1 V:AW)(rb:Nat)(out:ad)(l:List RunT)(r:RunT):Prop:=Le W1 V/\W1.next<=rb/\rb<V.next/\V.get rb=some (.cells (xU r))/\∃bo,fE V 3 xU out l bo/\∀B,bo=some B->W1.next<=B/\B≠rb
def Bt.put{W1 V:AW}{rb:Nat}{out:ad}{l:List RunT}{r:RunT}(h:Bt W1 V rb out l r)(r':RunT):Bt W1 (V.put rb (.cells (xU r'))) rb out l r':=by obtain⟨h1,h2,h3,h4,bo,h5,h6⟩:=h;exact⟨h1.put h2 _,h2,h3,AW.aW _ _ _,bo,h5.keep (aQ _) λB hB=>AW.ay _ _ (bc (h6 B hB).2),h6⟩
def Bt.push{W1 V:AW}{rb:Nat}{out:ad}{l:List RunT}{r:RunT}(h:Bt W1 V rb out l r)(hl:l.length<=100000):∃pQ V',dn Tryz.prog (V.add (.cells (xU r))) #[219,219] out (.slice (some ⟨V.next,0,none⟩) 1 1)=some (pQ,V')/\Bt W1 V' rb pQ (l++[r]) r:=by
 obtain⟨h1,h2,h3,h4,bo,h5,h6⟩:=h;have h5':=h5.keep (W':=V.add (.cells (xU r))) (by rw[AW.av];omega) λB hB=>AW.aE _ _ (by have:=h5.lt hB;omega)
 obtain⟨pQ,V',k1,k2,k3,k4⟩:=h5'.push aip wY WV (b:=V.next) (c:=1) bF (by omega) (by omega);refine⟨pQ,V',k1,⟨by rw[k3,AW.av];have:=h1.next;omega,λb hb=>?_⟩,h2,by rw[k3,AW.av];omega,?_,_,k2,λB hB=>?_⟩
 ·have:=h1.next;exact(k4 b (by rw[AW.av];omega) (λe=>by have:=(h6 b e).1;omega)).trans ((AW.aE _ _ (by omega)).trans (h1.get b hb))
 ·exact(k4 rb (by rw[AW.av];omega) (λe=>(h6 rb e).2 rfl)).trans ((AW.aE _ _ (by omega)).trans h4)
 ·injection hB with hB;rw[AW.av]at hB;have:=h1.next;exact⟨by omega,by omega⟩
def NL{r:Int}:∀(l:List Bool) (s c m:Int),(t8 r s l c m).length<=l.length+1
 |[],s,c,m=>by simp only[t8];split<;>simp
 |true::l,s,c,m=>by simp only[t8,cQ];have:=NL (r:=r) l (s+1) c (m+1);omega
 |false::l,s,c,m=>by simp only[t8,cx,cQ];have:=NL (r:=r) l (s+1) (s+1) 0;split<;>simp<;>omega
def UU{R:ai.Fr}{W1 U:AW}{fv aeK v3 v27 v28 v29:ad}{free:List Bool}{rb f m:Nat}{row:Int}{l0:List RunT}{K:LT->Option LT}{G:LT->Prop}(hf:NB W1 fv free)(hm:m<=10000)(hfm:f+m<=free.length)(wU:free.length<=10000)(Ss:l0.length<=50000)
 (hI:Bt W1 U rb aeK l0 ⟨row,f,0⟩)(r1:R 1=fv)(r7:R 7=aeK)(r8:R 8=.ae (f:Int))(od:R 11=.ae row)(EI:R 12=.ae (m:Int))(NT:R 13=aZ rb)(Um:R 14=.ae (f:Int))(r3:R 3=v3)(YO:R 27=v27)(Wb:R 28=v28)(VW:R 29=v29)
 (hK:∀R' V out,R' 1=fv->R' 7=out->R' 8=.ae (f:Int)->R' 12=.ae (m:Int)->R' 3=v3->R' 27=v27->R' 28=v28->R' 29=v29->(∃r,Bt W1 V rb out (l0++t8 row f (uU free f m) f 0) r)->Ok (K (.exit 2,R',V)) G):
 Ok (fb (fZ (i9 ba) R U) K) G:=by
 have Ga:(uU free f m).length=m:=by unfold uU;rw[cX,px];omega
 refine bh (m+1) (by omega) (λj R V=>R 1=fv/\R 8=.ae (f:Int)/\R 11=.ae row/\R 12=.ae (m:Int)/\R 13=aZ rb/\R 14=.ae ((f+j:Nat):Int)/\R 3=v3/\R 27=v27/\R 28=v28/\R 29=v29/\
  ∃l c k,Bt W1 V rb (R 7) l ⟨row,c,k⟩/\0<=k/\k<=j/\l.length<=50000+j/\(j<=m->l++t8 row (f+j) ((uU free f m).drop j) c k=l0++t8 row f (uU free f m) f 0)/\(m<j->l=l0++t8 row f (uU free f m) f 0))
  (λr=>r.1=.exit 2/\r.2.1 1=fv/\r.2.1 8=.ae (f:Int)/\r.2.1 12=.ae (m:Int)/\r.2.1 3=v3/\r.2.1 27=v27/\r.2.1 28=v28/\r.2.1 29=v29/\∃x,Bt W1 r.2.2 rb (r.2.1 7) (l0++t8 row f (uU free f m) f 0) x)
  ⟨r1,r8,od,EI,NT,by rw[Um];rfl,r3,YO,Wb,VW,l0,f,0,by rw[r7];exact hI,by omega,by omega,by omega,λ_=>by simp,λh=>by omega⟩ ?_ ?_ ?_
 ·rintro j R V hj ⟨r1,r8,od,EI,NT,Um,r3,YO,Wb,VW,l,c,k,hI,k0,kj,hll,e1,-⟩;unfold i9;have e1:=e1 (by omega);have PD:=hI;obtain⟨i1,i2,i3,i4,bo,i5,i6⟩:=hI;have a1:=λW'=>fd W' f m
  have a2:=λW'=>bm W' ((f+j:Nat):Int) 1
  have a3:=λW'=>bm W' k 1
  have d1:decide (((f+j:Nat):Int)<=(f:Int)+m)=true:=cK;have l2:bz (.pointer (some ⟨rb,2,none⟩)) V=some (.ae k,V):=aO (ao i4) rfl;have e14:((f+j:Nat):Int)+1=((f+(j+1):Nat):Int):=by omega
  have tail:∀(l':List RunT) (JR:Nat->ad) (V':AW) (r':RunT),Bt W1 V' rb (JR 7) l' r'->l'.length<=50000+(j+1)->JR 1=fv->JR 8=.ae (f:Int)->JR 11=.ae row->JR 12=.ae (m:Int)->JR 13=aZ rb->JR 3=v3->JR 27=v27->JR 28=v28->JR 29=v29->
   (j+1<=m->l'++t8 row (f+(j+1:Nat)) ((uU free f m).drop (j+1)) (f+(j+1:Nat)) 0=l0++t8 row f (uU free f m) f 0)->(m<j+1->l'=l0++t8 row f (uU free f m) f 0)->
   Ok (gz ba JR (.ae row) (aZ rb) (.ae ((f+j:Nat):Int)) V') λr=>(r.1=.normal/\(r.2.1 1=fv/\r.2.1 8=.ae (f:Int)/\r.2.1 11=.ae row/\r.2.1 12=.ae (m:Int)/\r.2.1 13=aZ rb/\r.2.1 14=.ae ((f+(j+1):Nat):Int)/\r.2.1 3=v3/\r.2.1 27=v27/\r.2.1 28=v28/\r.2.1 29=v29/\
    ∃l c k,Bt W1 r.2.2 rb (r.2.1 7) l ⟨row,c,k⟩/\0<=k/\k<=((j+1:Nat):Int)/\l.length<=50000+(j+1)/\(j+1<=m->l++t8 row (f+(j+1:Nat)) ((uU free f m).drop (j+1)) c k=l0++t8 row f (uU free f m) f 0)/\(m<j+1->l=l0++t8 row f (uU free f m) f 0)))\/(r.1≠ .normal/\(r.1=.exit 2/\r.2.1 1=fv/\r.2.1 8=.ae (f:Int)/\r.2.1 12=.ae (m:Int)/\r.2.1 3=v3/\r.2.1 27=v27/\r.2.1 28=v28/\r.2.1 29=v29/\∃x,Bt W1 r.2.2 rb (r.2.1 7) (l0++t8 row f (uU free f m) f 0) x)):=by
   intro l' JR V' r' hR Cw j1 j8 j11 j12 j13 j3 j27 j28 j29 h1 h2;unfold gz;simp only[SX,a2,ad1,ake hR.2.2.2.1,ah];refine .inl ⟨ak,j1,j8,j11,j12,j13,by rw[<-e14];rfl,j3,j27,j28,j29,l',((f+j:Nat):Int)+1,0,hR.put _,by omega,by omega,Cw,λh=>?_,h2⟩;rw[<-h1 h];congr 2<;>omega
  by_cases cj:j<m
  ·have d2:decide (((f+j:Nat):Int)<(f:Int)+m)=true:=cK;obtain⟨b,o,g1,g2,g3⟩:=hf.get (i:=f+j) (by omega);have ld:=g3 V (i1.get _ g2);have hd:(uU free f m).drop j=free[f+j]'(by omega)::(uU free f m).drop (j+1):=by rw[rC (by omega)];congr 1;unfold uU;rw[List.getElem_take,List.getElem_drop]
   rw[hd]at e1;cases hb:free[f+j]'(by omega)
   ·rw[hb]at e1 ld;simp only[t8]at e1;by_cases c0:0<k
    ·rw[an c0]at e1;have d3:=aK c0;obtain⟨pQ,V',p1,p2⟩:=PD.push (by omega);have la:dJ 3 (aZ rb) V=some (rnV ⟨row,c,k⟩,V):=bB (ao i4) rfl;simp only[SX,r1,r8,od,EI,NT,Um,aJ,a1,d1,d2,g1,ld,l2,d3,la,acn,p1];exact tail _ _ _ _ p2 (by simp;omega) r1 r8 od EI NT r3 YO Wb VW (λh=>by rw[<-e1,iR];congr 3<;>omega) (λh=>by omega)
    ·rw[ap c0]at e1;have d3:=aL c0;simp only[SX,r1,r8,od,EI,NT,Um,aJ,a1,d1,d2,g1,ld,l2,d3];exact tail _ _ _ _ PD (by omega) r1 r8 od EI NT r3 YO Wb VW (λh=>by rw[<-e1,jF];congr 2<;>omega) (λh=>by omega)
   ·rw[hb]at e1 ld;simp only[t8]at e1;have s2:eZ 1 (.pointer (some ⟨rb,2,none⟩)) (.ae (k+1)) V=some (aj,V.put rb (.cells (xU ⟨row,c,k+1⟩))):=by rw[uZ,cR i4];rfl
    simp only[SX,r1,r8,od,EI,NT,Um,aJ,a1,a2,a3,d1,d2,g1,ld,l2,s2,ah];refine .inl ⟨ak,r1,r8,od,EI,NT,by rw[<-e14];rfl,r3,YO,Wb,VW,l,c,k+1,PD.put _,by omega,by omega,by omega,λh=>?_,λh=>by omega⟩;rw[<-e1];congr 2<;>omega
  ·obtain rfl:j=m:=by omega
   have d2:decide (((f+j:Nat):Int)<(f:Int)+j)=false:=cg;rw[xB (by omega)]at e1;simp only[t8]at e1;by_cases c0:0<k
   ·rw[an c0]at e1;have d3:=aK c0;obtain⟨pQ,V',p1,p2⟩:=PD.push (by omega);have la:dJ 3 (aZ rb) V=some (rnV ⟨row,c,k⟩,V):=bB (ao i4) rfl;simp only[SX,r1,r8,od,EI,NT,Um,aJ,a1,d1,d2,l2,d3,la,acn,p1];exact tail _ _ _ _ p2 (by simp;omega) r1 r8 od EI NT r3 YO Wb VW (λh=>by omega) (λh=>e1)
   ·rw[ap c0,fu]at e1;have d3:=aL c0;simp only[SX,r1,r8,od,EI,NT,Um,aJ,a1,d1,d2,l2,d3];exact tail _ _ _ _ PD (by omega) r1 r8 od EI NT r3 YO Wb VW (λh=>by omega) (λh=>e1)
 ·rintro R V ⟨r1,r8,od,EI,NT,Um,r3,YO,Wb,VW,l,c,k,hI,k0,kj,hll,-,e2⟩;unfold i9;have a1:=λW'=>fd W' f m
  have d1:decide (((f+(m+1):Nat):Int)<=(f:Int)+m)=false:=cg;simp only[SX,r8,EI,Um,a1,d1,ah];rw[e2 (by omega)]at hI;exact⟨by simp,ak,r1,r8,EI,r3,YO,Wb,VW,_,hI⟩
 ·rintro⟨e,R,V⟩ ⟨rfl,h1,h2,h3,h4,h5,h6,h7,h8⟩;exact hK R V _ h1 rfl h2 h3 h4 h5 h6 h7 h8
def vW(v:fo)(k:Nat):List Nat:=((v.ax[k]?).map (·.rows)).getD []|>.map Int.toNat
def CE(v:fo)(k:Nat):Nat:=(bE (v.ax.take k)).toNat
def dD(v:fo)(k:Nat)(free:List Bool):List RunT:=rN free 0 (CE v k) (vW v k)
def fG(l:List Nat):Nat:=l.foldr (· + ·) 0
def F8(l:List Bool):∀(ms:List Nat) (r f m:Nat),rN l r f (ms++[m])=rN l r f ms++t8 ((r+ms.length:Nat):Int) ((f+fG ms:Nat):Int) (uU l (f+fG ms) m) ((f+fG ms:Nat):Int) 0
 |[],r,f,m=>by simp[rN,fG]
 |a::ms,r,f,m=>by simp only[oG,rN];rw[F8 l ms (r+1) (f+a) m,iR];have e:fG (a::ms)=a+fG ms:=rfl;rw[e,cQ,show r+1+ms.length=r+(ms.length+1)by omega,iq f a]
def KF{l:List mV}{i k:Nat}{rows:List Int}{r:iI}(h:r∈tT l i rows k):r.sec=i:=by unfold tT at h;obtain⟨j,-,rfl⟩:=my.1 h;rfl
def CS{l:List mV}(i:Nat):∀{n:Nat},n<=l.length->(rl l n).filter (ie (i:Int))=if h:i<n then tT l i (l.getD i ⟨[],[],0⟩).rows (l.getD i ⟨[],[],0⟩).rows.length else []
 |0,_=>by simp[rl]
 |n+1,hn=>by
  have Lm:n<l.length:=by omega
  rw[nj l Lm,rG,CS i (by omega)];by_cases h:i<n
  ·rw[oF h,oF (by omega)];rw[Et.2,fu];intro x hx;have h1:=KF hx;simp only[ie,ip];omega
  ·rw[dif_neg h,jF];by_cases h2:i=n
   ·subst h2;rw[oF (by omega),List.filter_eq_self.2,jt,bN Lm,pk];intro x hx;have h1:=KF hx;simp only[ie,ip];omega
   ·rw[dif_neg (by omega),Et.2];intro x hx;have h1:=KF hx;simp only[ie,ip];omega
def Ce:∀(l:List Int),(∀n∈l,1<=n)->(fG (l.map Int.toNat):Int)=ii l
 |[],_=>rfl
 |a::l,h=>by have ih:=Ce l (λn hn=>h n (by simp[hn]));have h1:=h a (by simp);have e:fG ((a::l).map Int.toNat)=a.toNat+fG (l.map Int.toNat):=rfl;have e2:ii (a::l)=a+ii l:=rfl;omega
def Jb{l:List mV}{k:Nat}(hk:k<l.length):bE (l.take (k+1))=bE (l.take k)+ii l[k].rows:=by unfold bE;rw[jv hk,rI,lj,mS,SE]
def BE{v:fo}(he:(du v).2=0){k:Nat}(hk:k<v.ax.length):(ofE v k).1=(CE v k:Int)/\vW v k=v.ax[k].rows.map Int.toNat/\(∀n∈v.ax[k].rows,1<=n/\n<=64)/\v.ax[k].rows.length<=16/\(CE v k:Int)+ii v.ax[k].rows<=bE v.ax/\bE v.ax<=4096/\0<=ii v.ax[k].rows/\0<ii v.ax[k].rows:=by
 obtain⟨hg,-,-,hb,ht,-⟩:=cE he;obtain⟨r1,r2,r3⟩:=hg.rows _ (cD hk);have fp:v.ax[k].rows≠[]:=by intro e;rw[e]at r1;simp at r1
 have hms:vW v k=v.ax[k].rows.map Int.toNat:=by unfold vW;rw[bN hk];rfl
 have aun:dV (tT v.ax k v.ax[k].rows v.ax[k].rows.length)=ii v.ax[k].rows:=by rw[DO _ _ _ (aQ _),cM]
 have hN:=Ce v.ax[k].rows (λn hn=>(r3 n hn).1);have pF:0<ii v.ax[k].rows:=by
  cases hr:v.ax[k].rows with
  |nil=>exact absurd hr fp
  |cons a t=>rw[hr]at r3 hN;have:=(r3 a (by simp)).1;have e:fG ((a::t).map Int.toNat)=a.toNat+fG (t.map Int.toNat):=rfl;omega
 have mono:∀{a b:Nat},a<=b->b<=v.ax.length->bE (v.ax.take a)<=bE (v.ax.take b):=by
  intro a b hab hb;induction b with
  |zero=>obtain rfl:a=0:=by omega
         exact sy _
  |succ b ih=>
   by_cases e:a=b+1
   ·subst e;exact sy _
   ·have h1:=ih (by omega) (by omega);have h2:=Jb (l:=v.ax) (k:=b) (by omega);obtain⟨-,-,r3'⟩:=hg.rows _ (cD (show b<v.ax.length by omega));have h3:=Ce v.ax[b].rows (λn hn=>(r3' n hn).1);omega
 have h0:0<=bE (v.ax.take k):=by have:=mono (qy k) (by omega);rwa [pd]at this
 have hf:(CE v k:Int)=bE (v.ax.take k):=by unfold CE;omega
 have aM:=mono (a:=k+1) (b:=v.ax.length) (by omega) (aQ _);rw[Jb hk,cM]at aM;have UZ:(eY v.ax).filter (ie (k:Int))=tT v.ax k v.ax[k].rows v.ax[k].rows.length:=by unfold eY;rw[CS k (aQ _),oF hk,jt,bN hk,pk]
 have DX:(ofE v k).1=bE (v.ax.take k):=by
  unfold ofE;rw[an he,UZ,aun,bM];show Sy (tT v.ax k v.ax[k].rows v.ax[k].rows.length)=_;cases hr:v.ax[k].rows with
  |nil=>exact absurd hr fp
  |cons a t=>unfold tT;rw[cQ,List.range_succ_eq_map,lj];simp[Sy,ii]
 exact⟨by rw[DX,hf],hms,r3,r2,by omega,ht,by omega,pF⟩
def rz(W1 V:AW)(out:ad)(l:List RunT):Prop:=Le W1 V/\∃bo,fE V 3 xU out l bo/\∀B,bo=some B->W1.next<=B
def Bt.o{W1 V:AW}{rb:Nat}{out:ad}{l:List RunT}{r:RunT}(h:Bt W1 V rb out l r):rz W1 V out l:=⟨h.1,let⟨bo,h5,h6⟩:=h.2.2.2.2;⟨bo,h5,λB hB=>(h6 B hB).1⟩⟩
def rz.box{W1 V:AW}{out:ad}{l:List RunT}(h:rz W1 V out l)(r:RunT):Bt W1 (V.add (.cells (xU r))) V.next out l r:=by obtain⟨h1,bo,h2,h3⟩:=h;refine⟨h1.add _,h1.next,by rw[AW.av];omega,AW.aI _ _,bo,h2.keep (by rw[AW.av];omega) λB hB=>AW.aE _ _ (by have:=h2.lt hB;omega),λB hB=>⟨h3 B hB,by have:=h2.lt hB;omega⟩⟩
abbrev ZR(W:AW)(v:ad)(l:List RunT):Prop:=Rd W 3 xU v l
def ze(l:List Bool):∀(ms:List Nat) (r f:Nat),(∀m∈ms,m<=64)->(rN l r f ms).length<=65*ms.length
 |[],r,f,_=>by simp[rN]
 |m::t,r,f,h=>by simp only[rN,cx,cQ];have h1:=NL (r:=r) (uU l f m) f f 0;have h2:=Tg l f m;have h3:=h m (by simp);have h4:=ze l t (r+1) (f+m) (λm hm=>h m (by simp[hm]));omega
def afX{W:AW}{v:fo}{sv fv:ad}{free:List Bool}{k:Nat}(hs:eW W sv v.ax)(he:(du v).2=0)(hv:v.ax.length<1000)(hk:k<v.ax.length)(hf:NB W fv free)(wU:(free.length:Int)=bE v.ax):
 ∃u W',ba (.func (.func 192) #[] #[]) [eQ v sv,fv,.ae (k:Int)] W=some (u,W')/\Le W W'/\ZR W' u (dD v k free):=by
 refine GJ (Q:=λu W'=>Le W W'/\ZR W' u (dD v k free)) ?_ Fw λu W' hq _ hp=>⟨Le.refl _,?_⟩
 case refine_2=>
  obtain⟨a,c,rfl,h⟩:=hq.2;rcases h with h|⟨b,o,cs,rfl,-⟩
  ·exact⟨a,c,rfl,.inl h⟩
  ·cases hp
 unfold B8;obtain⟨s1,s2,s3,s4,s5,s6,s7,s8⟩:=BE he hk;obtain⟨W1,hB,aM,hn,c4,c0,c3⟩:=jO v sv W;obtain⟨b,i,rv,g1,g2,-,-,g4,-⟩:=gZ.get hs.1 hk;have DX:=aq7 (W:=W1) (sec:=(k:Int)) (hs.mono aM) hv;simp only[SX,hB,aJ,c4 _ (Le.refl _),DX,c3 _ (Le.refl _),g1,g4 _ aM,g2.len yY];have aaS:dD v k free=rN free 0 (CE v k) ((vW v k).take v.ax[k].rows.length):=by unfold dD;rw[oz (by rw[s2,eP];exact aQ _)]
 rw[s1];have hW1:=aM;have ala:∀j,j<=v.ax[k].rows.length->((CE v k+fG ((vW v k).take j):Nat):Int)<=free.length:=λj hj=>by
  have e:fG ((vW v k).take j)<=fG (vW v k):=by
   have:∀(l:List Nat) (j:Nat),fG (l.take j)<=fG l:=by
    intro l;induction l with
    |nil=>intro j;simp
    |cons a l ih=>
     intro j;cases j with
     |zero=>simp[fG]
     |succ j=>have:=ih j;have e1:fG ((a::l).take (j+1))=a+fG (l.take j):=rfl;have e2:fG (a::l)=a+fG l:=rfl;omega
   exact this _ _
  have e2:=Ce v.ax[k].rows (λn hn=>(s3 n hn).1);rw[<-s2]at e2;omega
 refine bh v.ax[k].rows.length (by omega) (λj R V=>R 1=fv/\R 3=aZ W.next/\R 8=.ae ((CE v k+fG ((vW v k).take j):Nat):Int)/\R 27=rv/\R 28=.ae (v.ax[k].rows.length:Int)/\R 29=.ae (j:Int)/\rz W1 V (R 7) (rN free 0 (CE v k) ((vW v k).take j)))
  (λr=>r.1=.exit 0/\rz W1 r.2.2 (r.2.1 7) (dD v k free)) ⟨rfl,rfl,rfl,rfl,rfl,rfl,⟨Le.refl _,none,.inl ⟨rfl,rfl,rfl⟩,λB hB=>by cases hB⟩⟩ ?_ ?_ ?_
 ·rintro j R V hj ⟨r1,r3,r8,YO,Wb,VW,hO⟩;unfold pT;obtain⟨p,p1,p2⟩:=g2.get hj;have t1:decide ((j:Int)<(v.ax[k].rows.length:Int))=true:=cK;have t2:=λW'=>bm W' j 1
  have e3:((j+1:Nat):Int)=(j:Int)+1:=by omega
  have hr:=s3 _ (cD hj);have hm:(v.ax[k].rows[j]:Int)=((v.ax[k].rows[j].toNat:Nat):Int):=by omega
  have hjm:j<(vW v k).length:=by rw[s2,eP];exact hj
  have emj:(vW v k)[j]=v.ax[k].rows[j].toNat:=by simp[s2]
  have Jm:(vW v k).take (j+1)=(vW v k).take j++[v.ax[k].rows[j].toNat]:=by rw[jv hjm,emj]
  have esn:∀(l:List Nat) (m:Nat),fG (l++[m])=fG l+m:=by
   intro l m;induction l with
   |nil=>simp[fG]
   |cons a l ih=>have e1:fG (a::l++[m])=a+fG (l++[m]):=rfl;have e2:fG (a::l)=a+fG l:=rfl;omega
  have hZ:=hO.1;have aui:=hO.box ⟨(j:Int),((CE v k+fG ((vW v k).take j):Nat):Int),0⟩;have VO:eZ 3 (aZ V.next) (rnV ⟨(j:Int),((CE v k+fG ((vW v k).take j):Nat):Int),0⟩) (V.add (.cells (xU ⟨0,0,0⟩)))=some (aj,V.add (.cells (xU ⟨(j:Int),((CE v k+fG ((vW v k).take j):Nat):Int),0⟩))):=by rw[ake (AW.aI _ _),i8]
  simp only[SX,r8,YO,Wb,VW,t1,p1,p2 _ (aM.trans hZ),ad1,aje,VO];have wS:=ala (j+1) hj;rw[Jm,esn]at wS;refine UU (W1:=W1) (fv:=fv) (v3:=aZ W.next) (v27:=rv) (v28:=.ae (v.ax[k].rows.length:Int)) (v29:=.ae (j:Int)) (free:=free) (rb:=V.next) (f:=CE v k+fG ((vW v k).take j)) (m:=v.ax[k].rows[j].toNat) (row:=(j:Int)) (hf.keep aM) (by omega) (by omega) (by omega) (by
   have h1:=ze free ((vW v k).take j) 0 (CE v k) (λm hm=>by have:=Dr hm;rw[s2]at this;obtain⟨n,hn,rfl⟩:=my.1 this;have:=(s3 n hn).2;omega);have h2:((vW v k).take j).length<=j:=by rw[cX];omega
   omega) aui r1 rfl r8 rfl (by rw[<-hm];rfl) rfl (by rw[<-r8];rfl) r3 YO Wb VW ?_;intro R' V' out q1 q7 q8 q12 q3 q27 q28 q29 ⟨r,hI⟩;have t3:=λW'=>fd W' ((CE v k+fG ((vW v k).take j):Nat):Int) ((v.ax[k].rows[j].toNat:Nat):Int)
  simp only[SX,q8,q12,q29,t3,t2,ah];refine .inl ⟨ak,q1,q3,?_,q27,q28,by rw[e3];rfl,?_⟩
  ·rw[Jm,esn];show Value.int .i64 _=Value.int .i64 _;congr 1;omega
  ·show rz W1 V' (R' 7) _;rw[q7,Jm,F8,cX,pg (by omega),aJ];exact hI.o
 ·rintro R V ⟨r1,r3,r8,YO,Wb,VW,hO⟩;unfold pT;have t1:decide ((v.ax[k].rows.length:Int)<(v.ax[k].rows.length:Int))=false:=cg;simp only[SX,Wb,VW,t1,ah];rw[<-aaS]at hO;exact⟨by simp,ak,hO⟩
 ·rintro⟨e,R,V⟩ ⟨rfl,h1,bo,h2,h3⟩;simp only[SX,ah];exact⟨aM.trans h1,(h2.gJ.el).rd wY⟩
def StE(lo:Nat)(V:AW)(tb mb:Nat)(v:fo)(sv ev:ad)(s:TL):Prop:=∃ov pv bo bp,V.get tb=some (.cells (Wz v sv ev ov pv))/\fE V 25 km ov s.ops bo/\fE V 1 fJ pv s.wg bp/\(∀B,bo=some B->lo<=B/\bp≠some B)/\(∀B,bp=some B->lo<=B)/\xY V mb (λt=>(s.busy t).map (.ae ·)) s.vY
def auu{W:AW}{mb n:Nat}{m:Int->Option ad}(h:xY W mb m n)(k:Int):∃W',aV Tryz.prog .delete #[112,3] 0 #[false,false] [.map (some mb),.ae k] W=some (.tuple #[],W')/\xY W' mb (λx=>if x=k then none else m x) (if(m k).isSome then n-1 else n)/\W'.next=W.next/\∀b,b≠mb->W'.get b=W.get b:=by obtain⟨es,c,d1,d2⟩:=ac6 h adY ty3 [3] k;refine⟨_,?_,d2,AW.bG _ _ _,λb hb=>AW.ay _ _ (bc hb)⟩;show(uz Tryz.prog W #[112,3] (.map (some mb)) (.ae k)).map _=_;have:(#[112,3]:Array af)=(112::[3]).toArray:=rfl;rw[this,d1];rfl
def av4{W:AW}{mb n:Nat}{m:Int->Option ad}(h:xY W mb m n)(k:Int)(v:ad):∃W',jI Tryz.prog 112 (.map (some mb)) (.ae k) v W=some (aj,W')/\xY W' mb (λx=>if x=k then some v else m x) (if(m k).isSome then n else n+1)/\W'.next=W.next/\∀b,b≠mb->W'.get b=W.get b:=by obtain⟨es,c,d1,d2⟩:=QV h adY ty3 k v;exact⟨_,d1,d2,AW.bG _ _ _,λb hb=>AW.ay _ _ (bc hb)⟩
section
variable {W V:AW} {v:fo} {sv ev:ad} {l:List lD} {tb mb i:Nat} {s:TL} {x:lD} {R:Nat->ad}
abbrev RdR(R:Nat->ad)(ev:ad)(n tb mb i:Nat):Prop:=R 32=ev/\R 33=.ae (n:Int)/\R 34=.ae (i:Int)/\R 7=.pointer (some ⟨tb,0,none⟩)/\R 8=.map (some mb)
abbrev RdQ(W:AW)(lo:Nat)(v:fo)(sv ev:ad)(l:List lD)(tb mb:Nat)(r:LT):Prop:=
 Le W r.2.2/\((r.1=.exit 0/\mb<r.2.2.next/\r.2.1 7=.pointer (some ⟨tb,0,none⟩)/\∃s,wD l l.length s/\StE lo r.2.2 tb mb v sv ev s)\/(r.1=.ret/\∃(k:Nat) (s:TL) (x:lD),wD l k s/\l[k]? =some x/\fY s x≠0/\r.2.1 2=.pointer none/\r.2.1 3=.ae (k:Int)/\r.2.1 4=.ae (fY s x)))
open Classical in
def XR(hG:GW W)(aM:Le W V)(hev:EvL W ev l)(hl:l.length<=400)(hW:W.next<=tb)(htm:tb<mb)(y5:mb<V.next)(hs:wD l i s)(hx:l[i]? =some x)(hR:RdR R ev l.length tb mb i)(hS:StE (mb+1) V tb mb v sv ev s):
 Ok (mW ba R V) λr=>(r.1=.normal/\Le W r.2.2/\mb<r.2.2.next/\RdR r.2.1 ev l.length tb mb (i+1)/\∃s,wD l (i+1) s/\StE (mb+1) r.2.2 tb mb v sv ev s)\/(r.1≠ .normal/\RdQ W (mb+1) v sv ev l tb mb r):=by
 obtain⟨r32,r33,r34,r7,r8⟩:=hR;obtain⟨hi,hxe⟩:=dh.1 hx;have h1:=hev.mono aM;unfold mW;obtain⟨b,o,i1,i2,i3⟩:=EvL.get h1 hi;obtain⟨fa,-⟩:=i3 V rfl;rw[hxe]at fa;obtain⟨V1,V2,a1,a2,l2,n2,x2⟩:=apj x V;have I:=hs.inv;have t1:((i:Int)<(l.length:Int)):=by omega
 have t2:=λW'=>bm W' i 1
 have e3:((i+1:Nat):Int)=(i:Int)+1:=by omega
 have hZ:=aM.trans l2;have Xh:=aah x2;have S4:=adq x2;have auT:s.vY<1000->True:=λ_=>trivial
 have bad:∀{e:Int} {R':Nat->ad},fY s x=e->e≠0->R' 2=.pointer none->R' 3=.ae (i:Int)->R' 4=.ae e->RdQ W (mb+1) v sv ev l tb mb (.ret,R',V2):=λhe h0 q2 q3 q4=>⟨hZ,.inr ⟨rfl,i,s,x,hs,hx,by rw[he];exact h0,q2,q3,by rw[he];exact q4⟩⟩
 by_cases c1:x.th<1
 ·have e7:fY s x=7:=by unfold fY;rw[an (.inl c1)]
  simp only[↓PX,SX,r32,r33,r34,t1,i1,fa,a1,a2,aJ,Xh,c1,ah];exact .inr ⟨by simp,bad e7 (by decide) rfl rfl rfl⟩
 by_cases c2:64<x.th
 ·have e7:fY s x=7:=by unfold fY;rw[an (.inr c2)]
  simp only[↓PX,SX,r32,r33,r34,t1,i1,fa,a1,a2,aJ,Xh,c1,c2,ah];exact .inr ⟨by simp,bad e7 (by decide) rfl rfl rfl⟩
 have cc:¬(x.th<1\/64<x.th):=by omega
 simp only[↓PX,SX,r32,r33,r34,t1,i1,fa,a1,a2,aJ,Xh,c1,c2];obtain⟨ov,pv,bo,bp,z1,z2,z3,s4,s5,z6⟩:=hS;have s1:=(l2.get tb (by omega)).trans z1;have s2:fE V2 25 km ov s.ops bo:=z2.keep (by omega) λB hB=>l2.get B (z2.lt hB)
 have s3:fE V2 1 fJ pv s.wg bp:=z3.keep (by omega) λB hB=>l2.get B (z3.lt hB)
 have s6:=z6.keep (l2.get mb y5);have mg:=Ys s6 adY ty3 tz3 x.th;cases hr:x.ret with
 |true=>
  have HQ:=Wy x2;rw[hr]at HQ;cases hb:s.busy x.th with
  |none=>
   have e6:fY s x=6:=by unfold fY;rw[ap cc,an hr,ap (by rw[hb];simp)]
   rw[hb]at mg;simp only[Option.map_none,Option.getD_none,vR]at mg;simp only[SX,r7,r8,Xh,mg,HQ,ah];exact .inr ⟨by simp,bad e6 (by decide) rfl rfl rfl⟩
  |some id'=>
   rw[hb]at mg;simp only[dA,pk,Bg]at mg;by_cases d1:id'=x.id;case neg=>
    have e6:fY s x=6:=by unfold fY;rw[ap cc,an hr,ap (λh=>d1 (by have:=hb.symm.trans h.1;injection this))]
    have d1':decide (id'=x.id)=false:=aL d1;simp only[SX,r7,r8,Xh,mg,HQ,S4,d1',ah];exact .inr ⟨by simp,bad e6 (by decide) rfl rfl rfl⟩
   subst d1;have d1':decide (x.id=x.id)=true:=aK rfl;have nq:=ape x.op UB false false V2;by_cases d2:x.op=UB;case neg=>
    rw[aL d2]at nq;have e6:fY s x=6:=by unfold fY;rw[ap cc,an hr,ap (λh=>d2 h.2)]
    simp only[SX,r7,r8,Xh,mg,HQ,S4,KW x2,air,nq,ah];exact .inr ⟨by simp,bad e6 (by decide) rfl rfl rfl⟩
   rw[aK d2]at nq;have he:fY s x=0:=by unfold fY;rw[ap cc,an hr,an ⟨hb,d2⟩]
   obtain⟨j,o0,g0,gid,gth,gto⟩:=(I.bsy _ _).1 hb;have hj:=(dh.1 g0).1;have vd:=I.opk;have t3:∀W',bO Tryz.prog .sub 3 false true (.ae x.id) (.ae 1) W'=some (.ae (j:Int),W'):=λW'=>by rw[tJ (by omega) (by omega),show x.id-1=(j:Int)by omega]
   have bpt:bp≠some tb:=λe=>by have:=s5 tb e;omega
   obtain⟨V3,m1,m2,m3,m4⟩:=auu s6 x.th;simp only[hb,dA,Bg,bi]at m2;have x3:V3.get V.next=some (.cells (Io x)):=(m4 _ (by omega)).trans x2;have u1:=(m4 tb (by omega)).trans s1;have u2:fE V3 25 km ov s.ops bo:=s2.keep (by omega) λB hB=>m4 B (by have:=(s4 B hB).1;omega)
   have u3:fE V3 1 fJ pv s.wg bp:=s3.keep (by omega) λB hB=>m4 B (by have:=s5 B hB;omega)
   have c53:bz (.pointer (some ⟨tb,5,none⟩)) V3=some (ov,V3):=BJ u1 rfl;obtain⟨B,cs,hbo,hB,ix,st1,st2,st3⟩:=ajB u2 g0 (i:Int) x.rp;have hBm:=(s4 B hbo).1;have hBp:=(s4 B hbo).2;have hBv:=z2.lt hbo;obtain⟨V4,y1,x4,V5,y2,n5,Wl,v2⟩:∃V4,eZ 1 (.pointer (some ⟨B,j*25+3,none⟩)) (.ae (i:Int)) V3=some (aj,V4)/\V4.get V.next=some (.cells (Io x))/\∃V5,eZ 9 (.pointer (some ⟨B,j*25+16,none⟩)) (gt x.rp) V4=some (aj,V5)/\V5.next=V3.next/\(∀b,b≠B->V5.get b=V3.get b)/\fE V5 25 km ov (s.ops.set j {o0 with to:=(i:Int),rp:=x.rp}) bo:=
    ⟨_,st1 V3 rfl,(AW.ay _ _ (by omega)).trans x3,_,st2 _ (AW.aW _ _ _),rfl,λb hb=>(AW.ay _ _ (bc hb)).trans (AW.ay _ _ (bc hb)),st3 _ (aQ _) (AW.aW _ _ _)⟩
   have v1:=(Wl tb (by omega)).trans u1;have v3:fE V5 1 fJ pv s.wg bp:=u3.keep (by omega) λb hb=>Wl b (λe=>hBp (e▸hb))
   have vm:=m2.keep (Wl mb (by omega));obtain⟨pv',U3,U4,w1,w2,w3,w4,w5,w6⟩:=RR v1 v3 bpt (by omega) (by rw[I.opl];omega) ((s.vY-1:Nat):Int);have g6:bz (.pointer (some ⟨tb,6,none⟩)) V5=some (pv,V5):=BJ v1 rfl;have ml:=QY vm abZ 3 #[false];simp only[SX,r7,r8,aJ,Xh,mg,HQ,aR,S4,KW x2,air,nq,m1,c53,t3,ix,KE x3,y1,KE x4,dd,wQ x.rp,mZ,y2,g6,ml,acF,w1,w2,t2,ah];have t7:nQ s i x=⟨s.ops.set j {o0 with to:=(i:Int),rp:=x.rp},s.wg++[((s.vY-1:Nat):Int)],λt=>if t=x.th then none else s.busy t,s.vY-1⟩:=by unfold nQ Rl;rw[an hr,show(x.id-1).toNat=j by omega,g0]
   refine .inl ⟨ak,⟨by have:=hZ.next;omega,λb hb=>?_⟩,by omega,⟨r32,r33,by rw[e3];rfl,r7,r8⟩,nQ s i x,.succ hs hx he,?_⟩
   ·have h4:=hZ.next;rw[w6 b (by omega) (by omega) λe=>by have:=s5 b e;omega,Wl b (by omega),m4 b (by omega)];exact hZ.get b hb
   ·rw[t7];refine⟨ov,pv',bo,_,w3,v2.keep (by omega) λb hb=>w6 b (v2.lt hb) (by have:=(s4 b hb).1;omega) (s4 b hb).2,w4,λb hb=>⟨(s4 b hb).1,λe=>by have:=v2.lt hb;injection e with e;omega⟩,λb hb=>by injection hb with hb;omega,?_⟩;have:=vm.keep (w6 mb (by omega) (by omega) (λe=>by have:=s5 mb e;omega));have hf:(λy=>if y=x.th then none else(s.busy y).map (Value.int .i64 ·))=λt=>(if t=x.th then none else s.busy t).map (Value.int .i64 ·):=by
     funext t;by_cases e:t=x.th
     ·rw[an e,an e];rfl
     ·rw[ap e,ap e]
    rw[hf]at this;exact this
 |false=>
  have HQ:=Wy x2;rw[hr]at HQ;cases hb:s.busy x.th with
  |some id'=>
   have e6:fY s x=6:=by unfold fY;rw[ap cc,ap (by rw[hr];simp),an (.inl (by rw[hb];rfl))]
   rw[hb]at mg;simp only[dA,pk,Bg]at mg;simp only[SX,r7,r8,Xh,mg,HQ,ah];exact .inr ⟨by simp,bad e6 (by decide) rfl rfl rfl⟩
  |none=>
   rw[hb]at mg;simp only[Option.map_none,Option.getD_none,vR]at mg;have c5:bz (.pointer (some ⟨tb,5,none⟩)) V2=some (ov,V2):=BJ s1 rfl;have ho:SB V2 ov s.ops:=s2.gJ.row qF (AN qF);have vd:=I.opk;have t3:=λW'=>bm W' (s.ops.length:Int) 1
   have e6:(x.id≠(s.ops.length:Int)+1\/x.rp≠fw\/Bp x.op≠0)->fY s x=6:=λh=>by unfold fY;rw[ap cc,ap (by rw[hr];simp),an (.inr h)]
   have hG2:=hG.mono hZ;have bt:bo≠some tb:=λe=>by have:=(s4 tb e).1;omega
   have bpt:bp≠some tb:=λe=>by have:=s5 tb e;omega
   have nq:=acB x.rp fw false false V2;by_cases d1:x.id=(s.ops.length:Int)+1;case neg=>have d1':decide (x.id=(s.ops.length:Int)+1)=false:=aL d1;simp only[SX,r7,r8,aJ,Xh,mg,HQ,aR,S4,c5,ho.len Np,t3,d1',ah];exact .inr ⟨by simp,bad (e6 (.inl d1)) (by decide) rfl rfl rfl⟩
   have d1':decide (x.id=(s.ops.length:Int)+1)=true:=aK d1;by_cases d2:x.rp=fw;case neg=>rw[aL d2]at nq;simp only[SX,r7,r8,aJ,Xh,mg,HQ,aR,S4,c5,ho.len Np,t3,d1',KE x2,acv,nq,ah];exact .inr ⟨by simp,bad (e6 (.inr (.inl d2))) (by decide) rfl rfl rfl⟩
   rw[aK d2]at nq;by_cases d3:Bp x.op=0;case neg=>have d3':decide (Bp x.op=0)=false:=aL d3;simp only[SX,r7,r8,aJ,Xh,mg,HQ,aR,S4,c5,ho.len Np,t3,d1',KE x2,acv,nq,KW x2,MY x.op hG2,d3',ah];exact .inr ⟨by simp,bad (e6 (.inr (.inr d3))) (by decide) rfl rfl rfl⟩
   have d3':decide (Bp x.op=0)=true:=aK d3;have he:fY s x=0:=by unfold fY;rw[ap cc,ap (by rw[hr];simp),ap (by simp[hb,d1,d2,d3])]
   obtain⟨V3,m1,m2,m3,m4⟩:=av4 s6 x.th (.ae x.id);simp only[hb,Option.map_none,vR,ik,cn]at m2;have x3:V3.get V.next=some (.cells (Io x)):=(m4 _ (by omega)).trans x2;have u1:=(m4 tb (by omega)).trans s1;have u2:fE V3 25 km ov s.ops bo:=s2.keep (by omega) λB hB=>m4 B (by have:=(s4 B hB).1;omega)
   have u3:fE V3 1 fJ pv s.wg bp:=s3.keep (by omega) λB hB=>m4 B (by have:=s5 B hB;omega)
   have c53:bz (.pointer (some ⟨tb,5,none⟩)) V3=some (ov,V3):=BJ u1 rfl;obtain⟨n,hn⟩:∃n:iw,n=⟨x.id,x.th,(i:Int),-1,x.op,fw⟩:=⟨_,rfl⟩;have b0:=λW=>aqr x.id x.th (i:Int) (-1) x.op W
   rw[<-hn]at b0;obtain⟨ov',U1,U2,p1,p2,p3,p4,p5,p6⟩:=ahC u1 u2 bt (by omega) (by omega) n;have q3:fE U2 1 fJ pv s.wg bp:=u3.keep (by omega) λB hB=>p6 B (u3.lt hB) (by have:=s5 B hB;omega) (λe=>(s4 B e).2 hB)
   have qm:=m2.keep (p6 mb (by omega) (by omega) (λe=>by have:=(s4 mb e).1;omega));obtain⟨pv',U3,U4,w1,w2,w3,w4,w5,w6⟩:=RR p3 q3 bpt (by omega) (by rw[I.opl];omega) ((s.vY+1:Nat):Int);have g6:bz (.pointer (some ⟨tb,6,none⟩)) U2=some (pv,U2):=BJ p3 rfl;have ml:=QY qm abZ 3 #[false];simp only[SX,r7,r8,aJ,Xh,mg,HQ,aR,S4,c5,ho.len Np,t3,d1',KE x2,acv,nq,KW x2,MY x.op hG2,d3',m1,c53,adq x3,aah x3,KW x3,b0,avk,p1,p2,g6,ml,acF,w1,w2,t2,ah];have t7:nQ s i x=⟨s.ops++[n],s.wg++[((s.vY+1:Nat):Int)],λt=>if t=x.th then some x.id else s.busy t,s.vY+1⟩:=by unfold nQ;rw[ap (by rw[hr];simp),hn]
   refine .inl ⟨ak,⟨by have:=hZ.next;omega,λb hb=>?_⟩,by omega,⟨r32,r33,by rw[e3];rfl,r7,r8⟩,nQ s i x,.succ hs hx he,?_⟩
   ·have h4:=hZ.next;rw[w6 b (by omega) (by omega) λe=>by have:=s5 b e;omega,p6 b (by omega) (by omega) λe=>by have:=(s4 b e).1;omega,m4 b (by omega)];exact hZ.get b hb
   ·rw[t7];refine⟨ov',pv',_,_,w3,p4.keep (by omega) λB hB=>w6 B (p4.lt hB) (by injection hB with hB;omega) (λe=>by injection hB with hB;have:=u3.lt e;omega),w4,λB hB=>⟨by injection hB with hB;omega,λe=>by injection hB with hB;injection e with e;omega⟩,λB hB=>by injection hB with hB;omega,?_⟩;have:=qm.keep (w6 mb (by omega) (by omega) (λe=>by have:=s5 mb e;omega));have hf:(λy=>if y=x.th then some (Value.int .i64 x.id)else(s.busy y).map (.ae ·))=λt=>(if t=x.th then some x.id else s.busy t).map (.ae ·):=by
     funext t;by_cases e:t=x.th
     ·rw[an e,an e];rfl
     ·rw[ap e,ap e]
    rw[hf]at this;exact this
end
def RdA(W:AW)(v:fo)(sv ev:ad)(l:List lD)(q:ad)(W':AW):Prop:=∃(a e:Int) (p:ad),N4 (du v).2 l a e/\q=.tuple #[p,.ae a,.ae e]/\Le W W'/\
 ((e≠0/\p=.pointer none)\/(e=0/\∃(s:TL) (tb:Nat) (ov pv:ad),wD l l.length s/\p=.pointer (some ⟨tb,0,none⟩)/\W.next<=tb/\tb<W'.next/\W'.get tb=some (.cells (Wz v sv ev ov pv))/\SB W' ov s.ops/\gG W' pv s.wg))
def Xe{W:AW}{v:fo}{sv ev:ad}{l:List lD}(hG:GW W)(h:HiA W v sv ev l):∃q W',ba (.func (.func 22) #[] #[]) [P5 v sv ev] W=some (q,W')/\RdA W v sv ev l q W':=by
 have pu:Ok (xh ba (P5 v sv ev) W) λr=>RdA W v sv ev l r.1 r.2:=by
  unfold xh;have aM:Le W (W.add (.cells [.ae v.sh,.ae v.cT,.ae v.fm,sv,ev])):=(Le.refl W).add _;have hc:aH (W.add (.cells [.ae v.sh,.ae v.cT,.ae v.fm,sv,ev])) W.next=some [.ae v.sh,.ae v.cT,.ae v.fm,sv,ev]:=bF;have hg:(W.add (.cells [.ae v.sh,.ae v.cT,.ae v.fm,sv,ev])).get W.next=some (.cells [.ae v.sh,.ae v.cT,.ae v.fm,sv,ev]):=AW.aI _ _;have hn1:(W.add (.cells [.ae v.sh,.ae v.cT,.ae v.fm,sv,ev])).next=W.next+1:=AW.av _ _;simp only[SX,aJ];generalize W.add (.cells [.ae v.sh,.ae v.cT,.ae v.fm,sv,ev])=W1 at *;have h1:=h.mono aM;have c4:bz (.pointer (some ⟨W.next,4,none⟩)) W1=some (ev,W1):=aO hc rfl;have cA:dJ 4 (.pointer (some ⟨W.next,0,none⟩)) W1=some (eQ v sv,W1):=bB hc rfl;have cB:dJ 5 (.pointer (some ⟨W.next,0,none⟩)) W1=some (P5 v sv ev,W1):=bB hc rfl;have hv:=uT h1.ax h1.small;by_cases e0:(du v).2=0;case neg=>have d0:decide ((du v).2=0)=false:=aL e0;simp only[SX,cA,hv,d0,ah];exact⟨-1,_,_,.EO e0,rfl,aM,.inl ⟨e0,rfl⟩⟩
  have d0:decide ((du v).2=0)=true:=aK e0;by_cases e1:400<l.length;case pos=>have d1:decide ((400:Int)<(l.length:Int))=true:=cK;simp only[SX,cA,hv,d0,c4,h1.ZT.len MG,d1,ah];exact⟨-1,3,_,.len e0 e1,rfl,aM,.inl ⟨by decide,rfl⟩⟩
  have d1:decide ((400:Int)<(l.length:Int))=false:=cg;obtain⟨W2,b1,b2,b3,b4⟩:∃W2,pP (.agg #[.ae v.sh,.ae v.cT,.ae v.fm,sv,ev,.slice none 0 0,.slice none 0 0]) W1=some (.pointer (some ⟨W1.next,0,none⟩),W2)/\W2.get W1.next=some (.cells (Wz v sv ev (.slice none 0 0) (.slice none 0 0)))/\W2.next=W1.next+1/\Le W1 W2:=
   ⟨_,iB _,AW.aI _ _,AW.av _ _,(Le.refl _).add _⟩
  obtain⟨W3,m1,m2,m3,m4⟩:∃W3,vi Tryz.prog 112 none W2=some (.map (some W2.next),W3)/\xY W3 W2.next (λ_=>none) 0/\W3.next=W2.next+1/\Le W2 W3:=⟨_,aqA _,PV,AW.av _ _,(Le.refl _).add _⟩;have l3:=(aM.trans b4).trans m4;have c43:bz (.pointer (some ⟨W.next,4,none⟩)) W3=some (ev,W3):=BJ ((m4.get _ (by omega)).trans ((b4.get _ (by omega)).trans hg)) rfl;have ev3:=h.ZT.mono l3;simp only[SX,cA,hv,d0,c4,h1.ZT.len MG,d1,cB,anP,b1,m1,c43];refine bh l.length (by omega) (λi R V=>Le W V/\W2.next<V.next/\RdR R ev l.length W1.next W2.next i/\∃s,wD l i s/\StE (W2.next+1) V W1.next W2.next v sv ev s)
   (λr=>RdQ W (W2.next+1) v sv ev l W1.next W2.next r) ⟨l3,by omega,⟨rfl,rfl,rfl,rfl,rfl⟩,_,.zero,?_⟩ ?_ ?_ ?_
  ·exact⟨_,_,none,none,(m4.get _ (by omega)).trans b2,.inl ⟨rfl,rfl,rfl⟩,.inl ⟨rfl,rfl,rfl⟩,(λB hB=>by cases hB),(λB hB=>by cases hB),m2⟩
  ·rintro i R V hi ⟨g1,g2,g3,s,g4,g5⟩;refine(XR hG g1 h.ZT (by omega) (by omega) (by omega) g2 g4 (bN hi) g3 g5).mono ?_;rintro r (⟨k1,k2,k3,k4,k5⟩|k)
   ·exact .inl ⟨k1,k2,k3,k4,k5⟩
   ·exact .inr k
  ·rintro R V ⟨g1,g2,⟨r32,r33,r34,r7,r8⟩,s,g4,g5⟩;unfold mW;have t1:¬((l.length:Int)<(l.length:Int)):=by omega
   simp only[SX,r33,r34,t1,ah];exact⟨by simp,g1,.inl ⟨rfl,g2,r7,s,g4,g5⟩⟩
  ·rintro⟨q,R,V⟩ ⟨g1,hq⟩;simp only at hq g1;rcases hq with⟨rfl,g2,r7,s,hs,ov,pv,bo,bp,k1,k2,k3,-⟩|⟨rfl,k,s,x,hs,hx,he,r2,r3,r4⟩
   ·simp only[SX,r7,ah];exact⟨0,0,_,.ok e0 (by omega) hs,rfl,g1,.inr ⟨rfl,s,W1.next,ov,pv,hs,rfl,by omega,by omega,k1,k2.gJ.row qF (AN qF),k3.gJ.ints⟩⟩
   ·simp only[SX,r2,r3,r4,ah];exact⟨_,_,_,.bad e0 (by omega) hs hx he,rfl,g1,.inl ⟨he,rfl⟩⟩
 refine GJ pu Hw ?_;rintro q W' ⟨a,e,p,h1,rfl,h2,h3⟩ aM hp;refine⟨a,e,p,h1,rfl,Le.refl _,?_⟩;rcases h3 with h3|⟨-,s,tb,ov,pv,-,rfl,-⟩
 ·exact .inl h3
 ·exact absurd hp (by simp[bL,eH,cC])
def Sz(r:jC):iD (wa r) (wa r)=true:=pV (by simp[Y5,zG])
def auO{W:AW}{b:Nat}{n m:iw}(h:W.get b=some (.cells (km n))):eZ 25 (.pointer (some ⟨b,0,none⟩)) (Jh m) W=some (aj,W.put b (.cells (km m))):=gE h rfl rfl rfl
def OB(a b:iw):Bool:=decide (0<=a.to)&&decide (a.to<b.fr)
def avF(e:iw)(W:AW):pP (Jh e) W=some (.pointer (some ⟨W.next,0,none⟩),W.add (.cells (km e))):=iB _
def ON(a b:iw)(W:AW):ba (.func (.func 42) #[] #[]) [Jh a,Jh b] W=some (.bool (OB a b),W):=by
 refine aP rfl ?_ Ei;unfold Ad;simp only[SX,aJ];have x1:((W.add (.cells (km a))).add (.cells (km b))).get W.next=some (.cells (km a)):=by rw[AW.aE _ _ (by rw[AW.av];omega),AW.aI]
 have x2:((W.add (.cells (km a))).add (.cells (km b))).get (W.add (.cells (km a))).next=some (.cells (km b)):=AW.aI _ _;have aM:Le W ((W.add (.cells (km a))).add (.cells (km b))):=((Le.refl _).add _).add _;generalize(W.add (.cells (km a))).add (.cells (km b))=W1 at *;unfold OB;cases c1:decide (0<=a.to)
 ·simp only[SX,NA x1,c1,p8,ah];exact⟨ak,aM⟩
 ·simp only[SX,NA x1,c1,alN x2,il,ah];exact⟨ak,aM⟩
def amr(a b:Int)(W:AW):aV Tryz.prog .max #[3,3] 3 #[false,false] [.ae a,.ae b] W=some (.ae (max a b),W):=by
 have e:aV Tryz.prog .max #[3,3] 3 #[false,false] [.ae a,.ae b] W=(nX Tryz.prog ([Value.int .i64 a,.ae b].all bL) (builtin .max #[3,3] 3 #[false,false] #[.ae a,.ae b])).map λv=>(v,W):=by unfold aV;rfl
 rw[e];have e2:builtin .max #[3,3] 3 #[false,false] #[.ae a,.ae b]=(do pure (.value (<-Builtin.max_ #[3,3] 3 #[.ae a,.ae b]))):=rfl;rw[e2];refine Hk ?_ rfl _ rfl;unfold Builtin.max_;simp only[List.foldlM_cons,List.foldlM_nil,fh,Builtin.max2,gl,bJ];congr 2;by_cases h:a<b
 ·rw[an h];omega
 ·rw[ap h];omega
def wu1:tn aj false=false:=aS rfl rfl
def wu2:tn aj true=false:=aS rfl rfl
structure yW where
 r:RunT
 b:Int
 a:Int
abbrev Aa(c:yW):List ad:=[.ae c.r.row,.ae c.r.fi,.ae c.r.ma,.ae c.b,.ae c.a]
abbrev S7(c:yW):ad:=.agg #[.ae c.r.row,.ae c.r.fi,.ae c.r.ma,.ae c.b,.ae c.a]
def ch0:yW:=⟨⟨0,0,0⟩,0,0⟩
def chR(n:Int)(r:RunT)(k:Nat):List yW:=(List.range k).map λi:Nat=>⟨r,(i:Int),r.ma-n-i⟩
def rW(n:Int)(l:List RunT):List yW:=l.flatMap λr=>chR n r (max (r.ma-n+1) 0).toNat
def ke(c:yW):Int:=BG c.b+BG c.a-BG c.r.ma
def Qd(b:Option yW)(c:yW):Option yW:=match b with
 |none=>some c
 |some d=>if ke c<ke d then some c else some d
def xI(l:List yW):Option yW:=l.foldl Qd none
def adV(n:Int)(W:AW):ba (.func (.func 209) #[] #[]) [.ae n] W=some (.ae (BG n),W):=by
 refine aP rfl ?_ C8;unfold zi BG;by_cases c:n=1
 ·have d:=aK c;simp(maxDischargeDepth:=9) only[SX,MX,HX,d,an c]
 ·have d:=aL c;simp(maxDischargeDepth:=9) only[SX,MX,HX,d,ap c]
def JX(n:Int):0<=BG n/\BG n<=1:=by unfold BG;split<;>omega
def WK(c:yW)(W:AW):ba (.func (.func 208) #[] #[]) [S7 c] W=some (.ae (ke c),W):=by
 refine aP rfl ?_ CL;unfold yd ke;have h1:=JX c.b;have h2:=JX c.a;have h3:=JX c.r.ma;have a1:=λW'=>fd W' (BG c.b) (BG c.a)
 have a2:=λW'=>Ji W' (BG c.b+BG c.a) (BG c.r.ma)
 simp(maxDischargeDepth:=9) only[SX,MX,HX,adV,a1,a2]
def aqy(r:RunT)(b a:Int)(W:AW):dU Tryz.prog 240 [(0,rnV r),(1,.ae b),(2,.ae a)] W=some (S7 ⟨r,b,a⟩,W):=aS (by kernel_rfl) rfl
def Xr(W:AW):dm Tryz.prog 240 W=some (aZ W.next,W.add (.cells (Aa ch0))):=aS (by kernel_rfl) rfl
def al4(W:AW):dm Tryz.prog 4 W=some (aZ W.next,W.add (.cells [.bool false])):=aS (by kernel_rfl) rfl
def aob(W:AW):dm Tryz.prog 252 W=some (aZ W.next,W.add (.cells [.nilFunc])):=aS (by kernel_rfl) rfl
def an2(x:ad)(W:AW):jx Tryz.prog 240 x W=dJ 5 x W:=by kernel_rfl
def oL4(x:ad)(W:AW):jx Tryz.prog 4 x W=bz x W:=by kernel_rfl
def ahv{W:AW}{b:Nat}{c0:yW}(h:W.get b=some (.cells (Aa c0)))(c:yW):eZ 5 (aZ b) (S7 c) W=some (aj,W.put b (.cells (Aa c))):=gE (vs:=(Aa c).toArray) h rfl rfl rfl
def agi{W:AW}{b:Nat}{c:yW}(h:W.get b=some (.cells (Aa c))):dJ 5 (aZ b) W=some (S7 c,W):=bB (ao h) rfl
def Pd:((#[219]:Array af)[0]?).bind Tryz.prog.underlying=some (.slice 222):=by kernel_rfl
def ZR.get{W:AW}{v:ad}{l:List RunT}(h:ZR W v l){i:Nat}(hi:i<l.length):∃b o,(∀W' k,pc 3 v (.int k (i:Int)) W'=some (.pointer (some ⟨b,o,none⟩),W'))/\b<W.next/\∀W',W'.get b=W.get b->dJ 3 (.pointer (some ⟨b,o,none⟩)) W'=some (rnV l[i],W'):=by
 obtain⟨b,o,cs,h1,h2,h3,h4⟩:=(Fs wY h).elem hi;refine⟨b,o,h1,h2,λW' hg=>?_⟩;have hc:aH W' b=some cs:=by unfold aH at h3|-;rw[hg];exact h3
 have e0:(cs.drop o).take 3=xU l[i]:=h4;have:=bB (n:=3) (o:=o) hc (by rw[e0];rfl);rw[e0]at this;exact this
def ahs(a b:Int)(W:AW):aV Tryz.prog .max #[3,3] 3 #[false,true] [.ae a,.ae b] W=some (.ae (max a b),W):=by
 have e:aV Tryz.prog .max #[3,3] 3 #[false,true] [.ae a,.ae b] W=(nX Tryz.prog ([Value.int .i64 a,.ae b].all bL) (builtin .max #[3,3] 3 #[false,true] #[.ae a,.ae b])).map λv=>(v,W):=by unfold aV;rfl
 rw[e];have e2:builtin .max #[3,3] 3 #[false,true] #[.ae a,.ae b]=(do pure (.value (<-Builtin.max_ #[3,3] 3 #[.ae a,.ae b]))):=rfl;rw[e2];refine Hk ?_ rfl _ rfl;unfold Builtin.max_;simp only[List.foldlM_cons,List.foldlM_nil,fh,Builtin.max2,gl,bJ];congr 2;by_cases h:a<b
 ·rw[an h];omega
 ·rw[ap h];omega
def QG{f lv:ad}{b1 b2 b0:Nat}{W0 W:AW}{n:Int}{l:List RunT}(hl:ZR W0 lv l)(hll:l.length<=100000)(hn:1<=n/\n<=8)(hma:∀r∈l,0<r.ma/\r.ma<=10000)
 (I:List yW->AW->Prop)(hI:I [] W)(hS:∀pre V,I pre V->Le W0 V/\b0<V.next/\V.get b1=some (.cells [lv])/\V.get b2=some (.cells [.ae n]))(hA:∀pre V cs,I pre V->I pre (V.add (.cells cs)))
 (step:∀pre c V,I pre V->∃V2,ba f [S7 c] V=some (.bool true,V2)/\I (pre++[c]) V2/\V.next<=V2.next/\∀b,b0<b->b<V.next->V2.get b=V.get b):
 ∃W2,ba (.func (.func 220) #[] #[aZ b1,aZ b2]) [f] W=some (.tuple #[],W2)/\I (rW n l) W2:=by
 have pu:Ok (nC ba f (aZ b1) (aZ b2) W) λr=>r.1=.tuple #[]/\I (rW n l) r.2:=by
  unfold nC;have l1:∀pre V,I pre V->bz (aZ b1) V=some (lv,V):=λpre V hV=>aO (ao (hS _ _ hV).2.2.1) rfl
  have l2:∀pre V,I pre V->bz (aZ b2) V=some (.ae n,V):=λpre V hV=>aO (ao (hS _ _ hV).2.2.2) rfl
  simp only[SX,l1 _ W hI,jk hl Pd];refine bh l.length (by omega) (λi R V=>R 0=f/\R 2=aZ b2/\R 7=lv/\R 8=.ae (l.length:Int)/\R 9=.ae (i:Int)/\I (rW n (l.take i)) V)
   (λr=>r.1=.exit 0/\I (rW n l) r.2.2) ⟨rfl,rfl,rfl,rfl,rfl,hI⟩ ?_ ?_ ?_
  ·rintro i R V hi ⟨r0,r2,r7,r8,r9,hV⟩;unfold kD;have t1:decide ((i:Int)<(l.length:Int))=true:=cK;have t2:=λW'=>bm W' i 1
   have e3:((i+1:Nat):Int)=(i:Int)+1:=by omega
   obtain⟨b,o,g1,g2,g3⟩:=hl.get hi;have aM:=(hS _ _ hV).1;have aBu:=(hS _ _ hV).2.1;have hr:=hma _ (cD hi);have kS:=hA _ _ (xU l[i]) hV;have VO:eZ 3 (aZ V.next) (rnV l[i]) (V.add (.cells (xU ⟨0,0,0⟩)))=some (aj,V.add (.cells (xU l[i]))):=by rw[ake (AW.aI _ _),i8]
   have lm:bz (.pointer (some ⟨V.next,2,none⟩)) (V.add (.cells (xU l[i])))=some (.ae l[i].ma,V.add (.cells (xU l[i]))):=aO bF rfl;have s1:=λW'=>Ji W' (l[i].ma) n
   have s2:=λW'=>bm W' (l[i].ma-n) 1
   simp only[SX,r2,r7,r8,r9,t1,g1,g3 V (aM.get _ g2),aje,VO,aJ,lm,l2 _ _ kS,s1,s2,ahs];have hgb:(V.add (.cells (xU l[i]))).get V.next=some (.cells (xU l[i])):=AW.aI _ _;have hbV:V.next<(V.add (.cells (xU l[i]))).next:=by rw[AW.av];omega
   generalize V.add (.cells (xU l[i]))=V1 at *;generalize hrb:V.next=rb at *;have hk:max (l[i].ma-n+1) 0=(((max (l[i].ma-n+1) 0).toNat:Nat):Int):=by omega
   rw[hk];generalize VT:(max (l[i].ma-n+1) 0).toNat=kk at *;refine bh kk (by omega) (λj R V=>R 0=f/\R 2=aZ b2/\R 5=aZ rb/\R 7=lv/\R 8=.ae (l.length:Int)/\R 9=.ae (i:Int)/\R 18=.ae (kk:Int)/\R 19=.ae (j:Int)/\V.get rb=some (.cells (xU l[i]))/\rb<V.next/\I (rW n (l.take i)++chR n l[i] j) V)
    (λr=>r.1=.exit 2/\r.2.1 0=f/\r.2.1 2=aZ b2/\r.2.1 7=lv/\r.2.1 8=.ae (l.length:Int)/\r.2.1 9=.ae (i:Int)/\I (rW n (l.take (i+1))) r.2.2)
    ⟨r0,r2,rfl,r7,r8,r9,rfl,rfl,hgb,hbV,by rw[show chR n l[i] 0=[]from rfl,fu];exact kS⟩ ?_ ?_ ?_
   ·rintro j R V' hj ⟨r0,r2,r5,r7,r8,r9,Oi,r19,gb,hbV,PD⟩;unfold iM;have t1:decide ((j:Int)<(kk:Int))=true:=cK;have t2:=λW'=>bm W' j 1
    have e3:((j+1:Nat):Int)=(j:Int)+1:=by omega
    have la:dJ 3 (aZ rb) V'=some (rnV l[i],V'):=bB (ao gb) rfl;have lm:bz (.pointer (some ⟨rb,2,none⟩)) V'=some (.ae l[i].ma,V'):=aO (ao gb) rfl;have s3:=λW'=>Ji W' (l[i].ma-n) j
    obtain⟨V2,k1,k2,k3,k4⟩:=step _ ⟨l[i],(j:Int),l[i].ma-n-j⟩ V' PD;simp only[SX,r0,r2,r5,Oi,r19,t1,la,aJ,lm,l2 _ _ PD,s1,s3,aqy,k1,t2,ah];refine .inl ⟨ak,r0,r2,r5,r7,r8,r9,Oi,by rw[e3];rfl,(k4 _ (by omega) hbV).trans gb,by omega,?_⟩;rw[iR]at k2;unfold chR;rw[ql,rI];exact k2
   ·rintro R V' ⟨r0,r2,r5,r7,r8,r9,Oi,r19,gb,hbV,PD⟩;unfold iM;have t1:decide ((kk:Int)<(kk:Int))=false:=cg;simp only[SX,Oi,r19,t1,ah];refine⟨by simp,ak,r0,r2,r7,r8,r9,?_⟩;have e:rW n (l.take (i+1))=rW n (l.take i)++chR n l[i] kk:=by unfold rW;rw[jv hi,iS,fy,A4,fu,VT]
    rw[e];exact PD
   ·rintro⟨e,R,V'⟩ ⟨rfl,r0,r2,r7,r8,r9,PD⟩;simp only at r0 r2 r7 r8 r9 PD;simp only[SX,r9,t2,ah];exact .inl ⟨ak,r0,r2,r7,r8,by rw[e3];rfl,PD⟩
  ·rintro R V ⟨r0,r2,r7,r8,r9,hV⟩;unfold kD;have t1:decide ((l.length:Int)<(l.length:Int))=false:=cg;rw[cM]at hV;simp only[SX,r8,r9,t1,ah];exact⟨by simp,ak,hV⟩
  ·rintro⟨e,R,V⟩ ⟨rfl,hV⟩;simp only[SX,ah];exact⟨ak,hV⟩
 obtain⟨⟨v,V⟩,h1,rfl,h2⟩:=pu;exact⟨V,by rw[yI h1,kB rfl],h2⟩
def auq{W:AW}{b:Nat}{x:ad}{f:Nat}(h:W.get b=some (.cells [x])):eZ 1 (aZ b) (.func (.func f) #[] #[]) W=some (aj,W.put b (.cells [.func (.func f) #[] #[]])):=by rw[qC rfl rfl,cR h];rfl
def aoF{W:AW}{b:Nat}{x:ad}{c:Bool}(h:W.get b=some (.cells [x])):eZ 1 (aZ b) (.bool c) W=some (aj,W.put b (.cells [.bool c])):=by rw[Ap,cR h];rfl
def SP(c:yW):iD (S7 c) (S7 c)=true:=pV (by simp[Y5,zG])
def RH(f:Nat):iD (.func (.func f) #[] #[]) (.func (.func f) #[] #[])=true:=by simp[iD,zG]
def Yy(r:Option (ad×AW))(v:ad):kA false r v=true:=aS (by unfold kA;rfl) rfl
def PJ(b:Option yW):yW:=b.getD ch0
structure Us (W V:AW) (lv:ad) (n:Int) (lp:dI) (b:Option yW):Prop where
 le:Le W V
 nx:W.next+5<V.next
 g0:V.get W.next=some (.cells (Aa (PJ b)))
 g1:V.get (W.next+1)=some (.cells [.bool b.isSome])
 g2:V.get (W.next+2)=some (.cells [.func (.func 208) #[] #[]])
 g3:V.get (W.next+3)=some (.cells [lv])
 g4:V.get (W.next+4)=some (.cells [.ae n])
 g5:V.get (W.next+5)=some lp
def Us.add{W V:AW}{lv:ad}{n:Int}{lp:dI}{b:Option yW}(h:Us W V lv n lp b)(o:dI):Us W (V.add o) lv n lp b:=by
 have hn:=h.nx;have g:∀c,c<V.next->(V.add o).get c=V.get c:=λc hc=>AW.aE _ _ (by omega)
 exact⟨h.le.add _,by rw[AW.av];omega,(g _ (by omega)).trans h.g0,(g _ (by omega)).trans h.g1,(g _ (by omega)).trans h.g2,(g _ (by omega)).trans h.g3,(g _ (by omega)).trans h.g4,(g _ (by omega)).trans h.g5⟩
def Us.lp{W V:AW}{lv:ad}{n:Int}{lp:dI}{b:Option yW}(h:Us W V lv n lp b)(o:dI):Us W (V.put (W.next+5) o) lv n o b:=by
 have g:∀c,c≠W.next+5->(V.put (W.next+5) o).get c=V.get c:=λc hc=>AW.ay _ _ (bc hc)
 exact⟨h.le.put (by omega) _,h.nx,(g _ (by omega)).trans h.g0,(g _ (by omega)).trans h.g1,(g _ (by omega)).trans h.g2,(g _ (by omega)).trans h.g3,(g _ (by omega)).trans h.g4,AW.aW _ _ _⟩
def Us.set{W V:AW}{lv:ad}{n:Int}{lp:dI}{b:Option yW}(h:Us W V lv n lp b)(c:yW):Us W ((V.put W.next (.cells (Aa c))).put (W.next+1) (.cells [.bool true])) lv n lp (some c):=by
 have g:∀d,d≠W.next->d≠W.next+1->((V.put W.next (.cells (Aa c))).put (W.next+1) (.cells [.bool true])).get d=V.get d:=λd h1 h2=>(AW.ay _ _ (bc h2)).trans (AW.ay _ _ (bc h1))
 exact⟨(h.le.put (by omega) _).put (by omega) _,h.nx,(AW.ay _ _ (by omega)).trans (AW.aW _ _ _),AW.aW _ _ _,(g _ (by omega) (by omega)).trans h.g2,(g _ (by omega) (by omega)).trans h.g3,(g _ (by omega) (by omega)).trans h.g4,(g _ (by omega) (by omega)).trans h.g5⟩
def Z7{W V:AW}{lv:ad}{n:Int}{lp:dI}{b:Option yW}{c:yW}{cb:Nat}{R:Nat->ad}(h:Us W V lv n lp b)(hc:V.get cb=some (.cells (Aa c)))(Ll:W.next+5<cb)(r4:R 4=aZ W.next)(r5:R 5=aZ (W.next+1))(r6:R 6=aZ (W.next+2))(r7:R 7=aZ cb):
 ∃R' V',oP ba R V=some (.normal,R',V')/\Us W V' lv n lp (Qd b c)/\V'.next=V.next/\∀d,W.next+5<d->V'.get d=V.get d:=by
 unfold oP;have l5:bz (aZ (W.next+1)) V=some (.bool b.isSome,V):=aO (ao h.g1) rfl;have l6:bz (aZ (W.next+2)) V=some (.func (.func 208) #[] #[],V):=aO (ao h.g2) rfl;have l7:=agi hc;have l4:=agi h.g0;have s1:=ahv h.g0 c;have s2:eZ 1 (aZ (W.next+1)) (.bool true) (V.put W.next (.cells (Aa c)))=some (aj,(V.put W.next (.cells (Aa c))).put (W.next+1) (.cells [.bool true])):=aoF ((AW.ay _ _ (by omega)).trans h.g1);have o:∀d,W.next+5<d->((V.put W.next (.cells (Aa c))).put (W.next+1) (.cells [.bool true])).get d=V.get d:=λd hd=>(AW.ay _ _ (by omega)).trans (AW.ay _ _ (by omega))
 cases b with
 |none=>simp only[SX,r4,r5,r6,r7,l5,vR,Yy,fN,l7,s1,s2];exact⟨_,_,rfl,h.set c,rfl,o⟩
 |some d=>
  have e:PJ (some d)=d:=rfl;rw[e]at l4;by_cases c0:ke c<ke d
  ·have d0:=aK c0;simp only[SX,r4,r5,r6,r7,l5,Bg,l6,l7,l4,WK,dd,SP,RH,fN,d0,s1,s2];refine⟨_,_,rfl,?_,rfl,o⟩;show Us W _ lv n lp (if ke c<ke d then some c else some d);rw[an c0];exact h.set c
  ·have d0:=aL c0;simp only[SX,r4,r5,r6,r7,l5,Bg,l6,l7,l4,WK,dd,SP,RH,fN,d0];refine⟨_,_,rfl,?_,rfl,λ_ _=>rfl⟩;show Us W _ lv n lp (if ke c<ke d then some c else some d);rw[ap c0];exact h
def agO{W:AW}{lv:ad}{n:Int}{l:List RunT}(hl:ZR W lv l)(hll:l.length<=100000)(hn:1<=n/\n<=8)(hma:∀r∈l,0<r.ma/\r.ma<=10000):
 ba (.func (.func 191) #[] #[]) [lv,.ae n] W=some (.tuple #[S7 (PJ (xI (rW n l))),.bool (xI (rW n l)).isSome],W):=by
 refine aP rfl ?_ Gp;unfold BL;obtain⟨a,c,hlv,-⟩:=id hl;obtain⟨V3,wZ⟩:∃V3,V3=((W.add (.cells (Aa ch0))).add (.cells [.bool false])).add (.cells [.func (.func 208) #[] #[]]):=⟨_,rfl⟩;have n3:V3.next=W.next+3:=by rw[wZ];rfl
 have J1:Le W V3:=by rw[wZ];exact(((Le.refl W).add _).add _).add _
 have st3:eZ 1 (aZ (W.next+2)) (.func (.func 208) #[] #[]) (((W.add (.cells (Aa ch0))).add (.cells [.bool false])).add (.cells [.nilFunc]))=some (aj,V3):=by have e:W.next+2=((W.add (.cells (Aa ch0))).add (.cells [.bool false])).next:=rfl;rw[e,auq (AW.aI _ _),i8,wZ]
 have q2:V3.get (W.next+2)=some (.cells [.func (.func 208) #[] #[]]):=by rw[wZ];exact AW.aI ((W.add (.cells (Aa ch0))).add (.cells [.bool false])) _
 have q1:V3.get (W.next+1)=some (.cells [.bool false]):=by rw[wZ];exact(AW.aE _ _ (by simp only[AW.av];omega)).trans (AW.aI (W.add (.cells (Aa ch0))) _)
 have q0:V3.get W.next=some (.cells (Aa ch0)):=by rw[wZ];exact(AW.aE _ _ (by simp only[AW.av];omega)).trans ((AW.aE _ _ (by simp only[AW.av];omega)).trans (AW.aI _ _))
 obtain⟨V5,Ml⟩:∃V5,V5=(V3.add (.cells [lv])).add (.cells [.ae n]):=⟨_,rfl⟩;have n5:V5.next=W.next+5:=by rw[Ml,AW.av,AW.av,n3]
 have le5:Le V3 V5:=by rw[Ml];exact((Le.refl V3).add _).add _
 have q4:V5.get (W.next+4)=some (.cells [.ae n]):=by
  have e:W.next+4=(V3.add (.cells [lv])).next:=by rw[AW.av,n3]
  rw[e,Ml];exact AW.aI _ _
 have q3:V5.get (W.next+3)=some (.cells [lv]):=by rw[Ml,AW.aE _ _ (by rw[AW.av,n3];omega),<-n3];exact AW.aI _ _
 have hch:ba (.func (.func 210) #[] #[]) [lv,.ae n] V3=some (.func (.func 220) #[] #[aZ (W.next+3),aZ (W.next+4)],V5):=by
  have:qg ba lv (.ae n) V3=some (.func (.func 220) #[] #[aZ (W.next+3),aZ (W.next+4)],V5):=by unfold qg;rw[hlv];simp only[SX,n3,AW.av];rw[Ml,hlv]
  rw[Bv this,kB rfl]
 simp only[SX,Xr,al4,aob,AW.av,iq,Nat.reduceAdd,st3,hch];generalize hR:(q (q (cG 0 [lv,Value.int IntKind.i64 n] ai.blank) 4 [aZ W.next,aZ (W.next+1),aZ (W.next+2)]) 8 [lv,Value.int IntKind.i64 n,Value.func (Fn.func 220) #[] #[aZ (W.next+3),aZ (W.next+4)]])=R;have R4:R 4=aZ W.next:=by rw[<-hR];rfl
 have R5:R 5=aZ (W.next+1):=by rw[<-hR];rfl
 have R6:R 6=aZ (W.next+2):=by rw[<-hR];rfl
 clear hR;obtain⟨lp,hlp⟩:∃lp,lp=dI.loop .ready none R 26 #[11] (BF [1,1,0,1,0,0] (Fz 191)) (BF [1,1,0,1,0,1] (Fz 191)):=⟨_,rfl⟩;have I0:Us W (V5.add lp) lv n lp none:=by
  have g:∀d,d<W.next+5->(V5.add lp).get d=V5.get d:=λd hd=>AW.aE _ _ (by omega)
  have g':∀d,d<W.next+3->(V5.add lp).get d=V3.get d:=λd hd=>(g d (by omega)).trans (le5.get d (by omega))
  exact⟨(J1.trans le5).add _,by rw[AW.av];omega,(g' _ (by omega)).trans q0,(g' _ (by omega)).trans q1,(g' _ (by omega)).trans q2,(g _ (by omega)).trans q3,(g _ (by omega)).trans q4,by rw[<-n5];exact AW.aI _ _⟩
 obtain⟨W2,k1,k2⟩:=QG (f:=.func (.yield V5.next) #[] #[]) (b1:=W.next+3) (b2:=W.next+4) (b0:=W.next+5) (W0:=W) (W:=V5.add lp) (n:=n) hl hll hn hma
  (λpre V=>Us W V lv n lp (xI pre)) I0 (λpre V h=>⟨h.le,h.nx,h.g3,h.g4⟩) (λpre V cs h=>h.add _)
  (λpre c V h=>by
    have hg:V.get V5.next=some (.loop .ready none R 26 #[11] (BF [1,1,0,1,0,0] (Fz 191)) (BF [1,1,0,1,0,1] (Fz 191))):=by rw[n5,<-hlp];exact h.g5
    have Mh:=h.nx;have VO:eZ 5 (aZ V.next) (S7 c) (V.add (.cells (Aa ch0)))=some (aj,V.add (.cells (Aa c))):=by rw[ahv (AW.aI _ _),i8]
    have h1:ga Tryz.prog ba false 26 (BF [1,1,0,1,0,0] (Fz 191)) LT (nT (#[11]:Array Tmp).toList [S7 c] R) V nG=some (.normal,iU (iU R (some 11) (S7 c)) (some 7) (aZ V.next),V.add (.cells (Aa c))):=by rw[y6,asL];unfold ui;have e11:(iU R (some 11) (S7 c):Nat->ad) 11=S7 c:=rfl;simp only[SX,Xr,e11,VO];rfl
    have hI2:=(h.add (.cells (Aa c))).lp (.loop .busy none R 26 #[11] (BF [1,1,0,1,0,0] (Fz 191)) (BF [1,1,0,1,0,1] (Fz 191)));obtain⟨R',V',p1,p2,p3,p4⟩:=Z7 (c:=c) (cb:=V.next) (R:=iU (iU R (some 11) (S7 c)) (some 7) (aZ V.next)) hI2 ((AW.ay _ _ (by omega)).trans (AW.aI _ _)) Mh R4 R5 R6 rfl;have hy:=Fm (P:=Tryz.prog) (bad:=UJ) (spec:=specs) (args:=[S7 c]) hg rfl h1 ((AW.aE _ _ (by omega)).trans hg) (by rw[zh,n5];exact p1) (by rw[n5];exact p2.g5);refine⟨_,hy,?_,?_,λd hd hd2=>?_⟩
    ·have:=p2.lp lp;rw[hlp]at this;rw[n5];have e:xI (pre++[c])=Qd (xI pre) c:=by unfold xI;rw[xJ];rfl
     rw[e,hlp];exact this
    ·show V.next<=V'.next;rw[p3,AW.bG,AW.av];omega
    ·rw[n5];exact(AW.ay _ _ (by omega)).trans ((p4 d hd).trans ((AW.ay _ _ (by omega)).trans (AW.aE _ _ (by omega)))))
 have hr:=wX (call:=ba) (W:=V5) (obj:=lp) k1 (by rw[n5];rw[hlp]at k2;exact k2.g5) (by simp);rw[hlp]at hr;rw[hr];have o6:∀d,d<W.next+5->(W2.kill V5.next).get d=W2.get d:=λd hd=>AW.de _ (by omega)
 have la:=agi ((o6 _ (by omega)).trans k2.g0);have lb:bz (aZ (W.next+1)) (W2.kill V5.next)=some (.bool (xI (rW n l)).isSome,W2.kill V5.next):=aO (ao ((o6 _ (by omega)).trans k2.g1)) rfl;have sa:=ahv ((o6 _ (by omega)).trans k2.g0) (PJ (xI (rW n l)));have lc:bz (aZ (W.next+1)) ((W2.kill V5.next).put W.next (.cells (Aa (PJ (xI (rW n l))))))=some (.bool (xI (rW n l)).isSome,(W2.kill V5.next).put W.next (.cells (Aa (PJ (xI (rW n l)))))):=
  aO (ao ((AW.ay _ _ (by omega)).trans ((o6 _ (by omega)).trans k2.g1))) rfl
 have sb:=aoF (c:=(xI (rW n l)).isSome) ((AW.ay (W2.kill V5.next) (b:=W.next) (c:=W.next+1) (.cells (Aa (PJ (xI (rW n l))))) (by omega)).trans ((o6 _ (by omega)).trans k2.g1));have ld:dJ 5 (aZ W.next) (((W2.kill V5.next).put W.next (.cells (Aa (PJ (xI (rW n l)))))).put (W.next+1) (.cells [.bool (xI (rW n l)).isSome]))=some (S7 (PJ (xI (rW n l))),((W2.kill V5.next).put W.next (.cells (Aa (PJ (xI (rW n l)))))).put (W.next+1) (.cells [.bool (xI (rW n l)).isSome])):=
  agi ((AW.ay _ _ (by omega)).trans (AW.aW _ _ _))
 have le:bz (aZ (W.next+1)) (((W2.kill V5.next).put W.next (.cells (Aa (PJ (xI (rW n l)))))).put (W.next+1) (.cells [.bool (xI (rW n l)).isSome]))=some (.bool (xI (rW n l)).isSome,((W2.kill V5.next).put W.next (.cells (Aa (PJ (xI (rW n l)))))).put (W.next+1) (.cells [.bool (xI (rW n l)).isSome])):=
  aO (ao (AW.aW _ _ _)) rfl
 simp only[SX,la,lb,sa,lc,dd,I6,fN,sb,AX,an2,oL4,ld,le,bJ,ah];exact⟨ak,((k2.le.kill (by omega)).put (aQ _) _).put (by omega) _⟩
def acM:((#[135]:Array af)[0]?).bind Tryz.prog.underlying=some (.slice 4):=by kernel_rfl
def WR{l:List Bool}:∀(ms:List Nat) (r f:Nat) (x:RunT),(∀m∈ms,m<=64)->x∈rN l r f ms->0<x.ma/\x.ma<=64/\(f:Int)<=x.fi/\x.fi+x.ma<=((f+fG ms:Nat):Int)
 |[],r,f,x,_,h=>by cases h
 |m::t,r,f,x,hm,h=>by
  have e:fG (m::t)=m+fG t:=rfl;simp only[rN]at h;rcases lH.mp h with h|h
  ·obtain⟨a,c,K,e1,e2,e3,e4,-,-,e7⟩:=Kr (uU l f m) f 0 x (by rw[show(f:Int)-((0:Nat):Int)=f by omega];exact h);simp only[List.replicate_zero,jF]at e7;have hl:=Tg l f m;rw[e7,cx,cx,mq]at hl;have:=hm m (by simp);omega
  ·have:=WR t (r+1) (f+m) x (λm hm'=>hm m (by simp[hm'])) h;omega
def qH{v:fo}(he:(du v).2=0){k:Nat}(hk:k<v.ax.length){free:List Bool}{x:RunT}(h:x∈dD v k free):0<x.ma/\x.ma<=64/\0<=x.fi/\x.fi+x.ma<=bE v.ax:=by obtain⟨s1,s2,s3,s4,s5,s6,s7,s8⟩:=BE he hk;have h1:=WR (vW v k) 0 (CE v k) x (λm hm=>by rw[s2]at hm;obtain⟨n,hn,rfl⟩:=my.1 hm;have:=(s3 n hn).2;omega) h;have h2:=Ce v.ax[k].rows (λn hn=>(s3 n hn).1);rw[<-s2]at h2;omega
def KJ{n:Int}{l:List RunT}{c:yW}(h:c∈rW n l):c.r∈l/\0<=c.b/\c.b+n<=c.r.ma/\c.a=c.r.ma-n-c.b:=by unfold rW at h;obtain⟨r,hr,hc⟩:=List.mem_flatMap.1 h;unfold chR at hc;obtain⟨i,hi,rfl⟩:=my.1 hc;rw[pX]at hi;exact⟨hr,by show(0:Int)<=(i:Int);omega,by show(i:Int)+n<=r.ma;omega,rfl⟩
def abF(l:List yW):∀(b:Option yW) (c:yW),l.foldl Qd b=some c->c∈l\/b=some c:=by
 induction l with
 |nil=>intro b c h;exact .inr h
 |cons a l ih=>
  intro b c h;rw[uQ]at h;rcases ih _ _ h with h|h
  ·exact .inl (by simp[h])
  ·cases b with
   |none=>injection h with h;subst h;exact .inl (by simp)
   |some d=>
    unfold Qd at h;simp only at h;split at h
    ·injection h with h;subst h;exact .inl (by simp)
    ·exact .inr h
def OM{l:List yW}{c:yW}(h:xI l=some c):c∈l:=by
 rcases abF l none c h with h|h
 ·exact h
 ·cases h
def qY(v:fo)(k:Nat)(n:Int)(free:List Bool):Int×Int:=match xI (rW n (dD v k free))with
 |none=>(0,15)
 |some c=>(c.r.fi+c.b,0)
def PW{v:fo}(he:(du v).2=0){k:Nat}(hk:k<v.ax.length){n:Int}{free:List Bool}(h:(qY v k n free).2=0):0<=(qY v k n free).1/\(qY v k n free).1+n<=bE v.ax:=by
 unfold qY at h|-;cases e:xI (rW n (dD v k free))with
 |none=>rw[e]at h;exact absurd h (by decide)
 |some c=>obtain⟨h1,h2,h3,-⟩:=KJ (OM e);have:=qH he hk h1;simp only;omega
def Hs{W:AW}{v:fo}{sv fv:ad}{free:List Bool}{k:Nat}(hs:eW W sv v.ax)(he:(du v).2=0)(hv:v.ax.length<1000)(hk:k<v.ax.length)(hf:NB W fv free)(wU:(free.length:Int)=bE v.ax):
 ba (.func (.func 189) #[] #[]) [eQ v sv,fv,.ae (k:Int)] W=some (.ae 0,W):=by
 refine aP rfl ?_ DW;unfold zW;obtain⟨W1,hB,aM,hn,c4,c0,c3⟩:=jO v sv W;have nh:=JS (W:=W1) (hs.mono aM) hv;have e1:(b9 v).2=0:=by unfold b9;rw[an he]
 have e2:(b9 v).1=bE v.ax:=by unfold b9;rw[an he]
 rw[e1,e2]at nh;have d1:decide ((free.length:Int)=bE v.ax)=true:=aK wU;have d2:decide ((k:Int)<0)=false:=cg;have d3:decide ((v.ax.length:Int)<=(k:Int))=false:=cg;have d0:decide ((0:Int)=0)=true:=rfl;simp only[SX,hB,aJ,c4 _ (Le.refl _),nh,jk hf acM,d1,d2,c3 _ (Le.refl _),Row.len hs.1 zq,d3,ah];exact⟨ak,aM⟩
def Rh{n:Int}(h:1<=n/\n<=8)(W:AW):ba (.func (.func 190) #[] #[]) [.ae n] W=some (.bool true,W):=by refine aP rfl ?_ DG;unfold zM;have d1:=aK h.1;have d2:=aK h.2;simp(maxDischargeDepth:=9) only[SX,MX,HX,d1,d2]
def agG{W:AW}{v:fo}{sv fv:ad}{free:List Bool}{k:Nat}{n:Int}(hs:eW W sv v.ax)(he:(du v).2=0)(hv:v.ax.length<1000)(hk:k<v.ax.length)(hf:NB W fv free)(wU:(free.length:Int)=bE v.ax)(hn:1<=n/\n<=8):
 ba (.func (.func 153) #[] #[]) [eQ v sv,fv,.ae (k:Int),.ae n] W=some (.tuple #[.ae (qY v k n free).1,.ae (qY v k n free).2],W):=by
 refine aP rfl ?_ Fk;unfold B3;obtain⟨W1,hB,aM,Mh,c4,c0,c3⟩:=jO v sv W;obtain⟨u,W2,k1,k2,k3⟩:=afX (hs.mono aM) he hv hk (hf.keep aM) wU;have ht:=(BE he hk).2.2.2.2.2.1;have nP:∀r∈dD v k free,0<r.ma/\r.ma<=10000:=λr hr=>by have:=qH he hk hr;omega
 have dv:(dD v k free).length<=100000:=by
  obtain⟨s1,s2,s3,s4,-⟩:=BE he hk;have:=ze free (vW v k) 0 (CE v k) (λm hm=>by rw[s2]at hm;obtain⟨n,hn,rfl⟩:=my.1 hm;have:=(s3 n hn).2;omega);have e:(vW v k).length<=16:=by rw[s2,eP];exact s4
  unfold dD;omega
 have hb:=agO k3 dv hn nP;have d0:decide ((0:Int)=0)=true:=rfl;have hZ:=aM.trans k2;have VO:=ahv (AW.aI W2 (.cells (Aa ch0))) (PJ (xI (rW n (dD v k free))));rw[i8]at VO;have BB:Le W (W2.add (.cells (Aa (PJ (xI (rW n (dD v k free))))))):=hZ.add _;unfold qY;cases e:xI (rW n (dD v k free))with
 |none=>rw[e]at hb VO BB;simp only[SX,hB,aJ,c4 _ (Le.refl _),Hs (hs.mono aM) he hv hk (hf.keep aM) wU,Rh hn,k1,hb,Xr,VO,vR,ah];exact⟨ak,BB⟩
 |some c=>
  rw[e]at hb VO BB;obtain⟨h1,h2,h3,-⟩:=KJ (OM e);have h4:=qH he hk h1;have l1:bz (.pointer (some ⟨W2.next,1,none⟩)) (W2.add (.cells (Aa (PJ (some c)))))=some (.ae c.r.fi,W2.add (.cells (Aa (PJ (some c))))):=aO bF rfl;have l3:bz (.pointer (some ⟨W2.next,3,none⟩)) (W2.add (.cells (Aa (PJ (some c)))))=some (.ae c.b,W2.add (.cells (Aa (PJ (some c))))):=aO bF rfl;have a1:=λW'=>fd W' c.r.fi c.b
  simp only[SX,hB,aJ,c4 _ (Le.refl _),Hs (hs.mono aM) he hv hk (hf.keep aM) wU,Rh hn,k1,hb,Xr,VO,Bg,l1,l3,a1,ah];exact⟨ak,BB⟩
def yS(x:cI):List Bool:=x.st.map λs=>decide (s.st=0)
def qS(ow t:Int)(a:Nat)(y:cI)(i:Nat):cI:={y with st:=y.st.set (a+i) (ML (cr y (a+i)) ow t)}
def Rs(x:cI)(a n:Nat)(ow t:Int):cI:=(List.range n).foldl (qS ow t a) x
def rpB(a n d:Int):mK:={fw with se:=a,n:=n,dl:=d}
def abx(a n d:Int)(W:AW):dU Tryz.prog 50 [(1,.ae a),(2,.ae n),(3,.ae d)] W=some (gt (rpB a n d),W):=aS (by kernel_rfl) rfl
def auG:Tryz.prog.underlying 135=some (.slice 4):=by kernel_rfl
def b4:(Tryz.prog.info? 4).map (·.bytes)=some 1:=by kernel_rfl
def t4:oD Tryz.prog 4=some 1:=by kernel_rfl
def z4:kN Tryz.prog 4=some (.bool false):=by kernel_rfl
def M6(n:Nat):yP [.bool false] n=List.replicate n (.bool false):=by
 induction n with
 |zero=>rfl
 |succ n ih=>show [.bool false]++yP [.bool false] n=_;rw[ih,uv];rfl
def aoG{n:Nat}(h:n<=10000)(W:AW):gh Tryz.prog 135 (.ae (n:Int)) (.ae (n:Int)) W=some (oh W.next n,W.add (.cells (List.replicate n (.bool false)))):=by
 show gh Tryz.prog 135 (.ae (Int.ofNat n)) (.ae (Int.ofNat n)) W=_;unfold gh;have e:=yU (z:=.bool false) (len:=n) (n:=1) rfl;have e2:(kI (.bool false) (n*1)).toList=List.replicate n (.bool false):=by rw[e];exact M6 n
 have e3:(List.replicate n (Value.bool false)).all cC=true:=by rw[<-M6];exact wq _ _ rfl n
 simp only[auG,t4,z4,b4];rw[e2,an ⟨aQ _,by omega,by omega,e3⟩]
def As(ow t:Int)(a:Nat)(x:cI)(L:List Nat):(L.foldl (qS ow t a) x).v=x.v/\(L.foldl (qS ow t a) x).now=x.now/\(L.foldl (qS ow t a) x).st.length=x.st.length/\(L.foldl (qS ow t a) x).qs=x.qs:=by
 induction L generalizing x with
 |nil=>exact⟨rfl,rfl,rfl,rfl⟩
 |cons i L ih=>rw[uQ];obtain⟨a,b,c,d⟩:=ih (qS ow t a x i);exact⟨a,b,c.trans (by simp[qS]),d⟩
section
variable {W0 W V:AW} {ob sb qb:Nat} {bq:Nat->Nat} {x x':cI} {sv:ad} {o:jC} {s:Int}
def fA.Jo(h:fA W0 W ob sb qb bq x sv o s):bz (.pointer (some ⟨ob,12,none⟩)) W=some (.ae o.n,W):=h.ld rfl
def aho{R:ai.Fr}{U:AW}{n:Nat}{v0 vr:ad}{K:LT->Option (ad×AW)}{G:ad×AW->Prop}(h:fA W0 U ob sb qb bq x sv o s)(hn:x.st.length=n)(hn2:n<=10000)
 (r0:R 0=v0)(r2:R 2=vr)(r3:R 3=oh U.next n)(r21:R 21=fL sb n)(r22:R 22=.ae (n:Int))(r23:R 23=.ae 0)
 (hK:∀R' V,R' 0=v0->R' 2=vr->R' 3=oh U.next n->Le U V->NB V (oh U.next n) (yS x)->Ok (K (.exit 0,R',V)) G):Ok (fb (fZ (gU ba) R (U.add (.cells (List.replicate n (.bool false))))) K) G:=by
 refine bh n (by omega) (λk R V=>Le U V/\U.next<V.next/\R 0=v0/\R 2=vr/\R 3=oh U.next n/\R 21=fL sb n/\R 22=.ae (n:Int)/\R 23=.ae (k:Int)/\∃cs,V.get U.next=some (.cells cs)/\cs.length=n/\cs.take k=((yS x).take k).map Value.bool)
  (λr=>r.1=.exit 0/\Le U r.2.2/\U.next<r.2.2.next/\r.2.1 0=v0/\r.2.1 2=vr/\r.2.1 3=oh U.next n/\r.2.2.get U.next=some (.cells ((yS x).map Value.bool)))
  ⟨(Le.refl _).add _,by rw[AW.av];omega,r0,r2,r3,r21,r22,r23,_,AW.aI _ _,mq,by simp⟩ ?_ ?_ ?_
 ·rintro k R V hk ⟨aM,Mh,r0,r2,r3,r21,r22,r23,cs,c1,c2,c3⟩;unfold gU;have t1:decide ((k:Int)<(n:Int))=true:=cK;have t2:=λW'=>bm W' k 1
  have e3:((k+1:Nat):Int)=(k:Int)+1:=by omega
  have hV:=h.mono aM;have ls:=hV.lsi (show k<x.st.length by omega);have VO:=LO (x:=cr x k) (AW.aI V (.cells (dK CO)));rw[i8]at VO;have l0:bz (.pointer (some ⟨V.next,0,none⟩)) (V.add (.cells (dK (cr x k))))=some (.ae (cr x k).st,V.add (.cells (dK (cr x k)))):=aO bF rfl;have g1:(V.add (.cells (dK (cr x k)))).get U.next=some (.cells cs):=(AW.aE _ _ (by omega)).trans c1;have sb1:eZ 1 (.pointer (some ⟨U.next,k,none⟩)) (.bool (decide ((cr x k).st=0))) (V.add (.cells (dK (cr x k))))=some (aj,(V.add (.cells (dK (cr x k)))).put U.next (.cells (cs.set k (.bool (decide ((cr x k).st=0)))))):=by rw[Ap,cR g1,bJ,kJ]
  simp only[SX,r3,r21,r22,r23,t1,rJ hk,ls,qd,VO,aJ,l0,ixQ hk,sb1,t2,ah];refine .inl ⟨ak,(aM.add _).put (aQ _) _,by rw[AW.bG,AW.av];omega,r0,r2,r3,r21,r22,by rw[e3];rfl,_,AW.aW _ _ _,by simp[c2],?_⟩;have hkf:k<(yS x).length:=by unfold yS;rw[eP];omega
  have ef:(yS x)[k]=decide ((cr x k).st=0):=by simp only[yS,List.getElem_map];congr 2;simp[cr,bN (show k<x.st.length by omega)]
  rw[jv (show k<(cs.set k (.bool (decide ((cr x k).st=0)))).length by simp;omega),List.take_set_of_le (aQ _),AH,c3,jv hkf,rI,ef];rfl
 ·rintro R V ⟨aM,Mh,r0,r2,r3,r21,r22,r23,cs,c1,c2,c3⟩;unfold gU;have t1:decide ((n:Int)<(n:Int))=false:=cg;simp only[SX,r22,r23,t1,ah];have e1:cs.take n=cs:=oz (by omega);have e2:(yS x).take n=yS x:=oz (by unfold yS;rw[eP];omega);rw[e1,e2]at c3;rw[c3]at c1;exact⟨by simp,ak,aM,Mh,r0,r2,r3,c1⟩
 ·rintro⟨e,R,V⟩ ⟨rfl,h1,h2,h3,h4,h5,h6⟩;have wU:(yS x).length=n:=by unfold yS;rw[eP];exact hn
  refine hK R V h3 h4 h5 h1 ⟨_,n,by rw[wU],.inr ⟨U.next,0,_,rfl,h2,ao h6,?_⟩⟩;have e:(yS x).flatMap blC=(yS x).map Value.bool:=by
   induction yS x with
   |nil=>rfl
   |cons a l ih=>rw[fy,ih];rfl
  rw[e,jj,gK,oz (by rw[eP];exact aQ _)]
def abo{R:ai.Fr}{U:AW}{a n:Nat}{t:Int}{vr:ad}{K:LT->Option (ad×AW)}{G:ad×AW->Prop}(h:fA W0 U ob sb qb bq x sv o s)(hx:a+n<=x.st.length)(hx2:x.st.length<=10000)(hn:n<=100)
 (r0:R 0=aZ ob)(r2:R 2=vr)(r6:R 6=.ae (a:Int))(r8:R 8=.ae t)(r71:R 71=.ae (n:Int))(r72:R 72=.ae 0)
 (hK:∀R' V,R' 0=aZ ob->R' 2=vr->R' 6=.ae (a:Int)->R' 8=.ae t->fA W0 V ob sb qb bq (Rs x a n o.ow t) sv o s->Fr U V sb qb->Ok (K (.exit 2,R',V)) G):Ok (fb (fZ (gY ba) R U) K) G:=by
 refine bh n (by omega) (λk R V=>fA W0 V ob sb qb bq ((List.range k).foldl (qS o.ow t a) x) sv o s/\Fr U V sb qb/\R 0=aZ ob/\R 2=vr/\R 6=.ae (a:Int)/\R 8=.ae t/\R 71=.ae (n:Int)/\R 72=.ae (k:Int))
  (λr=>r.1=.exit 2/\r.2.1 0=aZ ob/\r.2.1 2=vr/\r.2.1 6=.ae (a:Int)/\r.2.1 8=.ae t/\fA W0 r.2.2 ob sb qb bq (Rs x a n o.ow t) sv o s/\Fr U r.2.2 sb qb) ⟨h,.refl _ _ _,r0,r2,r6,r8,r71,r72⟩ ?_ ?_ ?_
 ·rintro k R V hk ⟨hO,hF,r0,r2,r6,r8,r71,r72⟩;unfold gY;have t1:decide ((k:Int)<(n:Int))=true:=cK;have t2:=λW'=>bm W' k 1
  have t3:=λW'=>fd W' a k
  have e3:((k+1:Nat):Int)=(k:Int)+1:=by omega
  have e4:(a:Int)+k=((a+k:Nat):Int):=by omega
  obtain⟨s1,s2,s3,s4⟩:=As o.ow t a x (List.range k);generalize hy:(List.range k).foldl (qS o.ow t a) x=y at *;have hi:a+k<y.st.length:=by omega
  have Lq:=hO.lsi hi;have t7:=zI (z:=ML (cr y (a+k)) o.ow t) hO.gs (show y.st[a+k]? =some (cr y (a+k))by rw[bN hi];simp[cr,bN hi]);have Wc:∀b,b≠sb->(V.put sb (.cells ((y.st.set (a+k) (ML (cr y (a+k)) o.ow t)).flatMap dK))).get b=V.get b:=λb hb=>AW.ay _ _ (bc hb)
  have hf1:Fr V (V.put sb (.cells ((y.st.set (a+k) (ML (cr y (a+k)) o.ow t)).flatMap dK))) sb qb:=⟨aQ _,λb _ h1 _=>Wc b h1⟩;have O1:=hO.step (x':={y with st:=y.st.set (a+k) (ML (cr y (a+k)) o.ow t)}) hf1 rfl rfl (by simp) rfl (AW.aW _ _ _) (hO.gq.keep (Wc _ (bc hO.ne.2.2)) λj=>Wc _ (hO.nq j).2.2.2.1);simp only[SX,r0,r6,r8,r71,r72,t1,t3,e4,aR,aJ,Nat.reduceAdd,hO.l5,rJ hi,Lq,hO.l8,Bm,dd,fQ,fN,t7,t2,ah];refine .inl ⟨ak,?_,hF.trans hf1,r0,r2,r6,r8,r71,by rw[e3];rfl⟩;rw[ql,xJ,hy];exact O1
 ·rintro R V ⟨hO,hF,r0,r2,r6,r8,r71,r72⟩;unfold gY;have t1:decide ((n:Int)<(n:Int))=false:=cg;simp only[SX,r71,r72,t1,ah];exact⟨by simp,ak,r0,r2,r6,r8,hO,hF⟩
 ·rintro⟨e,R,V⟩ ⟨rfl,a1,a2,a3,a4,a5,a6⟩;exact hK R V a1 a2 a3 a4 a5 a6
def nu(x:cI)(k:Nat)(n:Int):Int×Int:=qY x.v k n (yS x)
def oC(x:cI)(k:Nat)(n ow:Int):cI:=if(nu x k n).2=0 then Rs x (nu x k n).1.toNat n.toNat ow (dY x.now x.v.cT)else x
def zp(x:cI)(k:Nat)(n:Int):mK:=if(nu x k n).2=0 then rpB (nu x k n).1 n (dY x.now x.v.cT)else pW (nu x k n).2
def abN(h:fA W0 W ob sb qb bq x sv o s)(yQ:sb<ob/\qb<ob)(he:(du x.v).2=0)(hv:x.v.ax.length<1000){k:Nat}(N9:o.sc=(k:Int))(hk:k<x.v.ax.length)(t7:(x.st.length:Int)=bE x.v.ax)(hn:1<=o.n/\o.n<=8)(yA:x.now<9223372036854775808)(ak2:x.v.cT<9223372036854775808):
 lO W0 W ob sb qb bq sv o s 126 (oC x k o.n o.ow) (zp x k o.n):=by
 refine nf h yQ yD ?_;unfold tB;obtain⟨V,al,aM,n2,g2⟩:=nB W;have h1:=h.mono aM;have ht:=(BE he hk).2.2.2.2.2.1;have Tm:=h.hi;have wR:Le V (V.add (.cells (List.replicate x.st.length (.bool false)))):=(Le.refl V).add _;have HF:=h1.mono wR;simp only[SX,al,aR,aJ,h1.l5,dg uS,aoG (show x.st.length<=10000 by omega),HF.l5];refine aho (v0:=aZ ob) (vr:=aZ W.next) h1 rfl (by omega) rfl rfl rfl rfl rfl rfl ?_;intro R2 V2 q0 q2 q3 q4 q5;have h2:=h1.mono q4;have wU:((yS x).length:Int)=bE x.v.ax:=by unfold yS;rw[eP];exact t7
 have Jy:=agG (n:=o.n) (h2.sec.mono h2.le) he hv hk q5 wU hn;rw[show qY x.v k o.n (yS x)=nu x k o.n from rfl]at Jy;have g3:V2.get W.next=some (.cells (ig fw)):=(q4.get _ (by omega)).trans g2;by_cases c:(nu x k o.n).2=0
 ·have e1:oC x k o.n o.ow=Rs x (nu x k o.n).1.toNat o.n.toNat o.ow (dY x.now x.v.cT):=an c;have e2:zp x k o.n=rpB (nu x k o.n).1 o.n (dY x.now x.v.cT):=an c;rw[e1,e2];have nP:=PW he hk (show(qY x.v k o.n (yS x)).2=0 from c);rw[show qY x.v k o.n (yS x)=nu x k o.n from rfl]at nP;have d:=aK c;have ea:(nu x k o.n).1=(((nu x k o.n).1.toNat:Nat):Int):=by omega
  have en:o.n=((o.n.toNat:Nat):Int):=by omega
  simp only[SX,q0,q2,q3,aR,aJ,Nat.reduceAdd,h2.l4,h2.l11,N9,h2.Jo,Jy,d,h2.l1,zC h2 yA ak2];refine abo (a:=(nu x k o.n).1.toNat) (n:=o.n.toNat) (t:=dY x.now x.v.cT) (vr:=aZ W.next) h2 (by omega) (by omega) (by omega) q0 q2 (by rw[<-ea];rfl) rfl (by rw[<-en];rfl) rfl ?_;intro R3 V3 z0 z2 z6 z8 zO zF;have g4:V3.get W.next=some (.cells (ig fw)):=(zF.2 _ (by have:=q4.next;omega) (by omega) (by omega)).trans g3;obtain⟨p1,p2⟩:=uf g4 (rpB (nu x k o.n).1 o.n (dY x.now x.v.cT));rw[<-ea]at z6;simp only[SX,z0,z2,z6,z8,aR,aJ,Nat.reduceAdd,zO.Jo,abx,p1,p2,ah];exact⟨ak,gp h zO ((Fr.of_le (aM.trans q4)).trans zF) (aQ _) _⟩
 ·have e1:oC x k o.n o.ow=x:=ap c;have e2:zp x k o.n=pW (nu x k o.n).2:=ap c;rw[e1,e2];obtain⟨p1,p2⟩:=uf g3 (pW (nu x k o.n).2);have d:=aL c;simp only[SX,q0,q2,q3,aR,aJ,Nat.reduceAdd,h2.l4,h2.l11,N9,h2.Jo,Jy,d,ks,p1,p2,ah];exact⟨ak,gp h h2 (.of_le (aM.trans q4)) (aQ _) _⟩
end
end Go.Proofs.YtmaoneengdafhaaGreatDoor
