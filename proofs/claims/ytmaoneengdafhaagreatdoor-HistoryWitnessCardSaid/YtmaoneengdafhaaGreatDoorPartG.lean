/- A part: contracts and laws. -/
import Derived.Test.YtmaoneengdafhaaGreatDoorPartF
set_option linter.unusedVariables false
set_option linter.unusedSectionVars false
set_option linter.defProp false
noncomputable section
open Go renaming TypeId->ag,Value->ad,World->ar,undef->ak
set_option maxRecDepth 100000
namespace Go.Proofs.YtmaoneengdafhaaGreatDoor
open Go Go.Eng
section
variable {Z W V V1 U U':AW} {lo sb qb b4 b5:Nat} {x x' X X' Y:cS} {sv sq qq:ad} {o:kP} {R R':mE}
def amn(h:kb Z W V sb qb X sv):MdK Z W V (ku sb qb X sv) X:=by
 intro U hn hu;have zB:=h.lo;refine⟨sv,_,_,rfl,h.sec,⟨_,_,rfl,.inr ⟨sb,0,_,rfl,by omega,ao ((hu _ (.inr (by omega)) (by omega)).trans h.gs),?_⟩⟩,?_⟩
 ·rw[jB,<-cm na X.st,cO]
 ·obtain⟨qv,q1,q2,q3⟩:=h.gq;refine⟨_,_,rfl,.inr ⟨qb,0,qv,rfl,by omega,ao ((hu _ (.inr (by omega)) (by omega)).trans q1),λi hi=>?_⟩⟩;obtain⟨u,u1,u2⟩:=q3 i hi;refine⟨u,by rw[aI,iI];exact u1,?_⟩;have hs:LS W.next sb qb U u X.qs[i]:=by
   rcases u2 with u2|⟨z0,B,c,z1,z2,z3,z4,z5,z6,z7⟩
   ·exact .inl u2
   ·exact .inr ⟨z0,B,c,z1,by omega,z3,z4,z5,z6,(hu _ (.inr z1) z2).trans z7⟩
  exact hs.rd
def kb.base(h:kb Z V1 U sb qb X sv)(hw:Le W V1)(hz:Le Z W):kb Z W U sb qb X sv:=by
 have zB:=h.lo;have hn:=hw.next;refine⟨hz,hw.trans h.le,by omega,h.sec,h.gs,?_⟩;obtain⟨qv,q1,q2,q3⟩:=h.gq;refine⟨qv,q1,q2,λk hk=>?_⟩;obtain⟨u,u1,u2⟩:=q3 k hk;refine⟨u,u1,?_⟩;rcases u2 with u2|⟨z0,B,c,z1,z2⟩
 ·exact .inl u2
 ·exact .inr ⟨z0,B,c,by omega,z2⟩
abbrev mdX(sb qb:Nat)(X:cS)(sv:ad):List ad:=eT X sv (fI sb X.st.length) (lG qb X.qs.length)
structure DB (Z W V1 U:AW) (sb qb b4 b5:Nat) (x X Y:cS) (sv sq qq:ad) (o:kP) (R:mE):Prop where
 F:F4 W V1 x sv sq qq o
 r:kb Z V1 U sb qb X sv
 b:V1.next<=b4/\V1.next<=b5/\b4≠sb/\b4≠qb/\b5≠sb/\b5≠qb/\b4≠b5/\b4<U.next/\b5<U.next
 g4:U.get b4=some (.cells (mdX sb qb Y sv))
 g5:U.get b5=some (.cells (jr R))
def DB.step(h:DB Z W V1 U sb qb b4 b5 x X Y sv sq qq o R)(hr:kb Z V1 U' sb qb X' sv)(hf:Fr U U' sb qb):DB Z W V1 U' sb qb b4 b5 x X' Y sv sq qq o R:=by have hb:=h.b;have:=hf.1;exact⟨h.F,hr,by omega,(hf.2 _ (by omega) (by omega) (by omega)).trans h.g4,(hf.2 _ (by omega) (by omega) (by omega)).trans h.g5⟩
def DB.w4(h:DB Z W V1 U sb qb b4 b5 x X Y sv sq qq o R)(Y':cS):fm 7 (ba b4) (ku sb qb Y' sv) U=some (ak,U.put b4 (.cells (mdX sb qb Y' sv)))/\DB Z W V1 (U.put b4 (.cells (mdX sb qb Y' sv))) sb qb b4 b5 x X Y' sv sq qq o R:=by
 have hb:=h.b;have s7:=gU (W:=U) (b:=b4) (n:=7) (vs:=(mdX sb qb Y' sv).toArray) h.g4 rfl rfl (by simp[dz,row_one h.r.sec.1,cI,cJ]);refine⟨s7,h.F,h.r.box (aR _) λb IE=>?_,hb,AW.aW _ _ _,(AW.ay _ _ (by omega)).trans h.g5⟩;by_cases e:b=b4
 ·exact .inr ⟨by omega,by omega,by omega,_,_,by rw[e];exact h.g4⟩
 ·exact .inl (AW.ay _ _ (bh e))
def DB.w5(h:DB Z W V1 U sb qb b4 b5 x X Y sv sq qq o R)(R':mE):fm 9 (ba b5) (fX R') U=some (ak,U.put b5 (.cells (jr R')))/\DB Z W V1 (U.put b5 (.cells (jr R'))) sb qb b4 b5 x X Y sv sq qq o R':=by
 have hb:=h.b;have s9:=gU (W:=U) (b:=b5) (n:=9) (vs:=(jr R').toArray) h.g5 rfl rfl rfl;refine⟨s9,h.F,h.r.box (aR _) λb IE=>?_,hb,(AW.ay _ _ (by omega)).trans h.g4,AW.aW _ _ _⟩;by_cases e:b=b5
 ·exact .inr ⟨by omega,by omega,by omega,_,_,by rw[e];exact h.g5⟩
 ·exact .inl (AW.ay _ _ (bh e))
def DB.box(h:DB Z W V1 U sb qb b4 b5 x X Y sv sq qq o R){j:Nat}(hj:j<4):U.get (W.next+j)=V1.get (W.next+j):=h.r.le.get _ (by have:=h.F.n;omega)
def DB.l0(h:DB Z W V1 U sb qb b4 b5 x X Y sv sq qq o R):dF 7 (ba W.next) U=some (ky x sv sq qq,U):=bz (ao ((h.box (j:=0) (by omega)).trans h.F.g0)) rfl
def DB.l1(h:DB Z W V1 U sb qb b4 b5 x X Y sv sq qq o R):dF 12 (ba (W.next+1)) U=some (yc o,U):=bz (ao ((h.box (j:=1) (by omega)).trans h.F.g1)) rfl
def DB.l4(h:DB Z W V1 U sb qb b4 b5 x X Y sv sq qq o R):dF 7 (ba b4) U=some (ku sb qb Y sv,U):=bz (ao h.g4) rfl
def DB.l5(h:DB Z W V1 U sb qb b4 b5 x X Y sv sq qq o R):dF 9 (ba b5) U=some (fX R,U):=bz (ao h.g5) rfl
def KW(F:F4 W V1 x sv sq qq o)(h1:Eng.one sv=true)(h2:Eng.one sq=true)(h3:Eng.one qq=true)(aM:Le V1 U)(r:mE)(e:Int):
 ∃V8 V9,fm 7 (ba (W.next+2)) (ky x sv sq qq) U=some (ak,V8)/\(∀b,b≠W.next+2->V8.get b=U.get b)/\fm 9 (ba (W.next+3)) (fX r) V8=some (ak,V9)/\iP Tryz.prog [(ba (W.next+2),some 34),(ba (W.next+3),some 50),(.ae e,none)] V9=some (.tuple #[ky x sv sq qq,fX r,.ae e],V9)/\Le W V9:=by
 have n1:=F.n;have nU:=aM.next;obtain⟨V8,V9,p1,p0,QM,p2,p3,p4,p5⟩:=C4 (x:=x) h1 h2 h3 ((aM.get _ (by omega)).trans F.g2) rfl ((aM.get _ (by omega)).trans F.g3) (by omega) r (.ae e);have le9:Le W V9:=⟨by omega,λb hb=>(p5 b (by omega) (by omega)).trans ((aM.get b (by omega)).trans (F.le.get b hb))⟩;exact⟨V8,V9,p1,QM,p2,p3,le9⟩
def alD(h:DB Z W V1 U sb qb b4 b5 x X X sv sq qq o R)(h2:Eng.one sq=true)(h3:Eng.one qq=true)(hz:Le Z W):
 Ok (ju aY (ba W.next) (ba (W.next+2)) (ba (W.next+3)) (ba b4) (ba b5) U) λr=>∃dQ,r.1=.tuple #[dQ,fX R,.ae 0]/\Le W r.2/\Xn Z W r.2 (ky x sv sq qq) x dQ (if R.er=0 then X else x):=by
 unfold ju;have hb:=h.b;have n1:=h.F.n;have h1:=row_one h.r.sec.1;have ler:bu (ba b5) U=some (.ae R.er,U):=aP (ao h.g5) rfl;have l9:∀V8,(∀b,b≠W.next+2->V8.get b=U.get b)->dF 9 (ba b5) V8=some (fX R,V8):=λV8 h8=>bz (ao ((h8 _ (by omega)).trans h.g5)) rfl
 by_cases c:R.er=0
 ·have d:=aK c;rw[an c];have aM:=h.r.le;have nU:=aM.next;obtain⟨V8,V9,p1,p0,QM,p2,p3,p4,p5⟩:=C4 (x:=X) (sq:=fI sb X.st.length) (qq:=lG qb X.qs.length) h1 (cJ _ _ _) (cJ _ _ _) ((aM.get _ (by omega)).trans h.F.g2) rfl ((aM.get _ (by omega)).trans h.F.g3) (by omega) R (.ae 0);have zB:=h.r.lo;have hr9:kb Z W V9 sb qb X sv:=(h.r.base h.F.le hz).box (by omega) λb IE=>by
   by_cases e2:b=W.next+2
   ·exact .inr ⟨by omega,by omega,by omega,_,_,by rw[e2];exact(aM.get _ (by omega)).trans h.F.g2⟩
   by_cases e3:b=W.next+3
   ·exact .inr ⟨by omega,by omega,by omega,_,_,by rw[e3];exact(aM.get _ (by omega)).trans h.F.g3⟩
   ·exact .inl (p5 b e2 e3)
  simp only[SX,aI,ler,d,h.l4,h.l5,p1,l9 V8 QM,cV,wo,fM,p2,p3,af];exact⟨_,rfl,hr9.le,.inr (amn hr9)⟩
 ·have d:=aJ c;rw[aq c];obtain⟨V8,V9,p1,QM,p2,p3,p4⟩:=KW h.F h1 h2 h3 h.r.le R 0;simp only[SX,aI,ler,d,h.l0,h.l5,p1,l9 V8 QM,cV,wo,fM,p2,p3,af];exact⟨_,rfl,p4,.inl ⟨rfl,rfl⟩⟩
end
section
variable {Z W V V1 U U':AW} {lo sb qb b4 b5:Nat} {x x' X X' Y:cS} {sv sq qq:ad} {o:kP} {R R':mE}
def On{v:ge}(h:(dn v).2=0):∀s∈v.ax,s.rows.length<1000:=λs hs=>by obtain⟨hg,-⟩:=cF h;have:=(hg.rows s hs).2.1;omega
def afK(h:DB Z W V1 U sb qb b4 b5 x x x sv sq qq o gz)(hg:MdG x)(ho:zZ o=0)(hw:Qe x o=0)(yx:x.now<9223372036854775808)(EO:o.nw<9223372036854775808):
 (o.k=12->¬o.nw<x.now->∃U',aY (.func (.func 36) #[] #[]) [ku sb qb x sv,.ae o.nw] U=some (ku sb qb (bX x o).1 sv,U')/\DB Z W V1 U' sb qb b4 b5 x (bX x o).1 x sv sq qq o gz/\(bX x o).2=gz)/\
 (o.k=3->∃U',aY (.func (.func 37) #[] #[]) [ku sb qb x sv,yc o] U=some (.tuple #[ku sb qb (bX x o).1 sv,fX (bX x o).2],U')/\DB Z W V1 U' sb qb b4 b5 x (bX x o).1 x sv sq qq o gz)/\
 (o.k=10\/o.k=11->∃U',aY (.func (.func 38) #[] #[]) [ku sb qb x sv,yc o] U=some (.tuple #[ku sb qb (bX x o).1 sv,fX (bX x o).2],U')/\DB Z W V1 U' sb qb b4 b5 x (bX x o).1 x sv sq qq o gz)/\
 (o.k=2\/o.k=4\/o.k=5\/o.k=6\/o.k=7\/o.k=8\/o.k=9->∃U',aY (.func (.func 39) #[] #[]) [ku sb qb x sv,yc o] U=some (.tuple #[ku sb qb (bX x o).1 sv,fX (bX x o).2],U')/\DB Z W V1 U' sb qb b4 b5 x (bX x o).1 x sv sq qq o gz):=by
 have hvb:=aeL hg.Db;have FH:=On hg.Db;obtain⟨HE,-,Ti,-,an5,-⟩:=cF hg.Db;have dS:=HE.len;have ug:=hg.st;have hqs:=hg.qs;have hl:∀l∈x.qs,l.length<=64:=λl hl=>by obtain⟨k,hk,rfl⟩:=By hl;have:=(hg.q k hk).1;simpa[ik,List.getD,bJ hk]using this
 have Cy:∀l∈x.qs,l.length<=10000:=λl C0=>by have:=hl l C0;omega
 have hkp:∀i,i<x.st.length->tV x.v i<x.qs.length:=λi hi=>by rw[hqs];exact aeb hg.Db (by omega)
 refine⟨λk hp=>?_,λk=>?_,λk=>?_,λk=>?_⟩
 ·obtain⟨U',k1,k2,k3⟩:=ac5 (nw:=o.nw) h.r (by omega) hkp (by omega) FH Cy EO (by omega) hg.se (by have:=hg.now;omega);have e:=bX.eq_1 x o;simp only[k,Int.reduceEq,b9]at e;rw[aq hp]at e;rw[e];exact⟨U',k1,h.step k2 k3,rfl⟩
 ·obtain⟨e1,e2,e3,e4⟩:=K3 (by omega) hw;have e5:o.sc=(((pr o).toNat:Nat):Int):=by omega
  obtain⟨U',k1,k2,k3⟩:=ZM (o:=o) h.r hg.Db (by omega) FH e5 (by omega) ug (e3 k) yx (by omega);have e:=bX.eq_1 x o;simp only[k,Int.reduceEq,bi,b9]at e;rw[e];exact⟨U',k1,h.step k2 k3⟩
 ·obtain⟨e1,e2,e3,e4⟩:=K3 (by omega) hw;have e5:o.sc=(((pr o).toNat:Nat):Int):=by omega
  obtain⟨U',k1,k2,k3⟩:=Yk (o:=o) h.r (k:=(pr o).toNat) (by omega) (by omega) e5 (by have:=(hg.q (pr o).toNat (by omega)).1;omega) k;have e:=bX.eq_1 x o;rcases k with k|k
  ·simp only[k,Int.reduceEq,bi,b9]at e k1 k2;rw[e];exact⟨U',k1,h.step k2 k3⟩
  ·simp only[k,Int.reduceEq,bi,b9]at e k1 k2;rw[e];exact⟨U',k1,h.step k2 k3⟩
 ·obtain⟨e1,e2⟩:=Wv k hw;obtain⟨U',k1,k2,k3⟩:=acH (o:=o) h.r ho k (i:=(cN o).toNat) (by omega) ⟨by omega,hkp _ (by omega),by omega,yx,by omega,by omega⟩ (by omega) FH Cy;exact⟨U',k1,h.step k2 k3⟩
def abT(h:DB Z W V1 U sb qb b4 b5 x X x sv sq qq o gz)(h2:Eng.one sq=true)(h3:Eng.one qq=true)(hz:Le Z W)(R:mE):
 ∃U1 U2,fm 7 (ba b4) (ku sb qb X sv) U=some (ak,U1)/\fm 9 (ba b5) (fX R) U1=some (ak,U2)/\Ok (ju aY (ba W.next) (ba (W.next+2)) (ba (W.next+3)) (ba b4) (ba b5) U2) λr=>∃dQ,r.1=.tuple #[dQ,fX R,.ae 0]/\Le W r.2/\Xn Z W r.2 (ky x sv sq qq) x dQ (if R.er=0 then X else x):=by
 obtain⟨p1,p2⟩:=h.w4 X;obtain⟨p3,p4⟩:=p2.w5 R;exact⟨_,_,p1,p3,alD p4 h2 h3 hz⟩
end
section
variable {Z W V V1 U U':AW} {lo sb qb b4 b5:Nat} {x x' X X' Y:cS} {sv sq qq:ad} {o:kP} {R R':mE}
def ajq(ho:zZ o=0)(hw:Qe x o=0):yX x o=(if(bX x o).2.er=0 then(bX x o).1 else x,(bX x o).2,0):=by unfold yX;rw[an ho,an hw];split<;>rfl
def ati(F:F4 W V1 x sv sq qq o)(GZ:fC Z sv x.v.ax)(hz:Le Z W)(n8:Qb W sq x.st)(hq:Qf W qq x.qs)(hx:Sn x=0)(hb:Bnd x)(EO:o.nw<9223372036854775808){e:Int}(he:e=zZ o):
 Ok (qK aY (ba W.next) (ba (W.next+1)) (ba (W.next+2)) (ba (W.next+3)) (.ae e) V1) λr=>∃dQ,r.1=.tuple #[dQ,fX (yX x o).2.1,.ae (yX x o).2.2]/\Le W r.2/\Xn Z W r.2 (ky x sv sq qq) x dQ (yX x o).1:=by
 subst he;unfold qK;have hs:=GZ.mono hz;have HY:=row_one hs.1;have DA:=C5 n8;have EF:=row_one hq;have hg:=abY hx;have n1:=F.n;have d0:decide ((0:Int)=0)=true:=rfl;have l0:dF 7 (ba W.next) V1=some (ky x sv sq qq,V1):=bz (ao F.g0) rfl;have l1:dF 12 (ba (W.next+1)) V1=some (yc o,V1):=bz (ao F.g1) rfl;by_cases d1:zZ o=0;case neg=>
  have d:=aJ d1;have eD:yX x o=(x,gz,zZ o):=by unfold yX;rw[aq d1]
  rw[eD];obtain⟨V8,V9,p1,QM,p2,p3,p4⟩:=KW F HY DA EF (.refl _) gz (zZ o);simp only[SX,d,l0,CO,p1,p2,p3,af];exact⟨_,rfl,p4,.inl ⟨rfl,rfl⟩⟩
 have hwr:=YN (W:=V1) (x:=x) (sv:=sv) (qq:=qq) d1 (hs.mono F.le) (n8.keep F.le) hg.qs;by_cases d2:Qe x o=0;case neg=>
  have d:=aJ d2;have eD:yX x o=(x,pY (Qe x o),0):=by unfold yX;rw[an d1,aq d2]
  rw[eD];obtain⟨V8,V9,p1,QM,p2,p3,p4⟩:=KW F HY DA EF (.refl _) (pY (Qe x o)) 0;simp only[SX,d1,l0,l1,hwr,d,km,p1,p2,p3,af];exact⟨_,rfl,p4,.inl ⟨rfl,rfl⟩⟩
 rw[ajq d1 d2];have hk:=JM d1;have hvb:=aeL hg.Db;obtain⟨HE,-,Ti,-,an5,-⟩:=cF hg.Db;have ako:x.st≠[]:=λe=>by
  have h8:=(BZ hg.Db Ti).2.2.2.2.1;have h9:=(BZ hg.Db Ti).2.2.2.2.2.2.2;have:=hg.st;rw[e]at this;simp at this;have:(0:Int)<=CZ x.v 0:=by omega
  omega
 have hq0:x.qs≠[]:=λe=>by have:=hg.qs;rw[e]at this;simp at this;rw[<-this]at Ti;cases Ti
 obtain⟨V2,sb,qb,c1,c2⟩:=ab8 (Z:=Z) (W:=V1) (sv:=sv) (hz.trans F.le) GZ (n8.keep F.le) (hq.mono F.le) ako hq0 hb.st hb.qs hb.q;have zB:=c2.lo;have hln:=c2.le.next;have a4:=gU (W:=V2.add (.cells [.ae 0,.ae 0,.ae 0,.slice none 0 0,.ae 0,.slice none 0 0,.slice none 0 0])) (b:=V2.next) (n:=7) (vs:=(mdX sb qb x sv).toArray) (AW.aL _ _) rfl rfl (by simp[dz,HY,cI,cJ]);rw[jy]at a4;have a4':fm 7 (ba V2.next) (ku sb qb x sv) (V2.add (.cells [.ae 0,.ae 0,.ae 0,.slice none 0 0,.ae 0,.slice none 0 0,.slice none 0 0]))=some (ak,V2.add (.cells (mdX sb qb x sv))):=a4;have hD:DB Z W V1 ((V2.add (.cells (mdX sb qb x sv))).add (.cells (jr gz))) sb qb V2.next (V2.next+1) x x x sv sq qq o gz:=by refine⟨F,c2.mono (((Le.refl _).add _).add _),by simp only[AW.av];omega,(AW.aG _ _ (by rw[AW.av];omega)).trans (AW.aL _ _),?_⟩;rw[<-AW.av V2 (.cells (mdX sb qb x sv))];exact AW.aL _ _
 simp only[SX,d1,l0,l1,hwr,d2,c1,nO,a4',Cb,AW.av];generalize(V2.add (.cells (mdX sb qb x sv))).add (.cells (jr gz))=U at hD|-;have lk:bu (ba (W.next+1)) U=some (.ae o.k,U):=aP (ao ((hD.box (j:=1) (by omega)).trans F.g1)) rfl;obtain⟨k12,k3,k10,k2⟩:=afK hD hg d1 d2 hb.now EO;simp only[SX,lk];by_cases e1:o.k=1
 ·have d:=aK e1;have e:=bX.eq_1 x o;rw[an e1]at e;rw[e];have auo:bu (.pointer (some ⟨W.next,2,none⟩)) U=some (.ae x.v.eO,U):=aP (ao ((hD.box (j:=0) (by omega)).trans F.g0)) rfl;have lun:=BB (W:=U) (val:=ky x sv sq qq) (more:=x.v.eO) rfl hb.now (by omega) (cI _ _) (cI _ _) (cI _ _) HY DA EF;have s13:=aoH hD.g5 (eu x.now x.v.eO);have J:=alD (hD.w5 (Ul (eu x.now x.v.eO))).2 DA EF hz;have amq:fm 1 (.pointer (some ⟨V2.next+1,3,none⟩)) (.ae (eu x.now x.v.eO)) U=some (ak,U.put (V2.next+1) (.cells (jr (Ul (eu x.now x.v.eO))))):=s13;simp only[SX,d,aI,hD.l0,auo,lun,amq];exact J
 have f1:=aJ e1;by_cases e12:o.k=12
 ·have d:=aK e12;have lnw:bu (.pointer (some ⟨W.next+1,11,none⟩)) U=some (.ae o.nw,U):=aP (ao ((hD.box (j:=1) (by omega)).trans F.g1)) rfl;have Ua:bu (.pointer (some ⟨W.next,4,none⟩)) U=some (.ae x.now,U):=aP (ao ((hD.box (j:=0) (by omega)).trans F.g0)) rfl;by_cases hp:o.nw<x.now
  ·have dp:=aK hp;have e:=bX.eq_1 x o;simp only[e12,Int.reduceEq,b9,an hp]at e;rw[e];obtain⟨V8,V9,p1,QM,p2,p3,p4⟩:=KW F HY DA EF hD.r.le (pY 18) 0;simp only[SX,f1,d,aI,lnw,Ua,dp,hD.l0,km,p1,p2,p3,af];exact⟨_,rfl,p4,.inl ⟨rfl,by simp[pY]⟩⟩
  ·have dp:=aJ hp;obtain⟨U',m1,m2,m3⟩:=k12 e12 hp;obtain⟨p1,p2⟩:=m2.w4 (bX x o).1;have J:=alD p2 DA EF hz;rw[m3];simp only[SX,f1,d,aI,lnw,Ua,dp,hD.l4,m1,p1];exact J
 have Xz:=aJ e12;by_cases e3:o.k=3
 ·have d:=aK e3;obtain⟨U',m1,m2⟩:=k3 e3;obtain⟨U1,U2,p1,p2,J⟩:=abT m2 DA EF hz (bX x o).2;simp only[SX,f1,Xz,d,hD.l4,hD.l1,m1,p1,p2];exact J
 have f3:=aJ e3;have aiL:o.k=10\/o.k=11->Ok (qn aY (ba W.next) (ba (W.next+1)) (ba (W.next+2)) (ba (W.next+3)) (ba V2.next) (ba (V2.next+1)) (.bool true) U) λr=>∃dQ,r.1=.tuple #[dQ,fX (bX x o).2,.ae 0]/\Le W r.2/\Xn Z W r.2 (ky x sv sq qq) x dQ (if(bX x o).2.er=0 then(bX x o).1 else x):=λhk=>by unfold qn;obtain⟨U',m1,m2⟩:=k10 hk;obtain⟨U1,U2,p1,p2,J⟩:=abT m2 DA EF hz (bX x o).2;simp only[SX,hD.l4,hD.l1,m1,p1,p2];exact J
 by_cases e10:o.k=10
 ·have d:=aK e10;simp only[SX,f1,Xz,f3,d];exact aiL (.inl e10)
 have f10:=aJ e10;by_cases e11:o.k=11
 ·have d:=aK e11;simp only[SX,f1,Xz,f3,f10,d];exact aiL (.inr e11)
 have f11:=aJ e11;simp only[SX,f1,Xz,f3,f10,f11];unfold qn;obtain⟨U',m1,m2⟩:=k2 (by omega);obtain⟨U1,U2,p1,p2,J⟩:=abT m2 DA EF hz (bX x o).2;simp only[SX,hD.l4,hD.l1,m1,p1,p2];exact J
def akG{val:ad}(hm:Gi Z W val x)(hz:Le Z W)(hr:∀s∈x.v.ax,s.rows.length<1000)(hb:Bnd x)(EO:o.nw<9223372036854775808):
 ∃dQ W',aY (.func (.func 13) #[] #[]) [val,yc o] W=some (.tuple #[dQ,fX (wm x o).2.1,.ae (wm x o).2.2],W')/\Le W W'/\Xn Z W W' val x dQ (wm x o).1:=by
 obtain⟨sv,sq,qq,rfl,GZ,n8,hq⟩:=id hm;have hs:=GZ.mono hz;have HY:=row_one hs.1;have DA:=C5 n8;have EF:=row_one hq;have jL:Ok (KX aY (ky x sv sq qq) (yc o) W) λr=>∃dQ,r.1=.tuple #[dQ,fX (wm x o).2.1,.ae (wm x o).2.2]/\Le W r.2/\Xn Z W r.2 (ky x sv sq qq) x dQ (wm x o).1:=by
  unfold KX;obtain⟨V1,ko⟩:∃V1,V1=((((W.add (.cells (eT x sv sq qq))).add (.cells (Da o))).add (.cells [.ae 0,.ae 0,.ae 0,.slice none 0 0,.ae 0,.slice none 0 0,.slice none 0 0])).add (.cells (jr gz))):=⟨_,rfl⟩;have F:=f4 W x sv sq qq o;rw[<-ko]at F;simp only[SX,nO,Cb,AW.av,gV,Nat.reduceAdd];rw[<-ko];clear ko;have n1:=F.n;have hck:=Vt (W:=V1) (x:=x) (sv:=sv) (hs.mono F.le) hb.v hr (n8.keep F.le) (hq.mono F.le) hb.st hb.qs hb.q;have l0:dF 7 (ba W.next) V1=some (ky x sv sq qq,V1):=bz (ao F.g0) rfl;have l1:dF 12 (ba (W.next+1)) V1=some (yc o,V1):=bz (ao F.g1) rfl;simp only[SX,l0,hck];by_cases c:Sn x=0
  ·have d:=aK c;have eM:wm x o=yX x o:=an c;rw[eM];simp only[SX,d,l1,GI];exact ati F GZ hz n8 hq c hb EO rfl
  ·have d:=aJ c;have eM:wm x o=(x,gz,Sn x):=aq c;rw[eM];obtain⟨V8,V9,p1,QM,p2,p3,p4⟩:=KW F HY DA EF (.refl _) gz (Sn x);simp only[SX,d];unfold qK;simp only[SX,d,l0,CO,p1,p2,p3,af];exact⟨_,rfl,p4,.inl ⟨rfl,rfl⟩⟩
 obtain⟨⟨v,V⟩,h1,dQ,rfl,h2,h3⟩:=jL;have rJ:=RY h1;unfold OG at rJ;unfold gc at rJ;by_cases hp:(bN (.tuple #[dQ,fX (wm x o).2.1,.ae (wm x o).2.2])&& !Yq (.tuple #[dQ,fX (wm x o).2.1,.ae (wm x o).2.2]))=true/\Le W V
 ·rw[an hp]at rJ;refine⟨_,W,rJ,.refl _,?_⟩;obtain⟨Wl,sq',qq',rfl,m1,m2,m3⟩:=h3.at (hm.mono h2);exact .inr λU hUn hU=>Gi.flat hp.1 m1 m2 m3
 ·rw[aq hp]at rJ;exact⟨_,V,rJ,h2,h3⟩
end
def ag1(s:ByteArray)(W:AW):∃n:Int,aZ Tryz.prog .len #[9] 3 #[false] [.string s] W=some (.ae n,W):=⟨_,rfl⟩
end Go.Proofs.YtmaoneengdafhaaGreatDoor
namespace Go.Proofs.YtmaoneengdafhaaGreatDoor
open Go Go.Eng Go.RowKit
structure HiR (W:AW) (v:ge) (sv ev:ad) (l:List gD):Prop where
 ax:fC W sv v.ax
 Fu:QF W ev l
 nw:∀e∈l,e.op.nw<9223372036854775808
def HiR.mono{W W':AW}{v:ge}{sv ev:ad}{l:List gD}(h:HiR W v sv ev l)(aM:Le W W'):HiR W' v sv ev l:=⟨h.ax.mono aM,h.Fu.mono aM,h.nw⟩
def agJ{W:AW}{v:ge}{sv ev:ad}{l:List gD}(h:HiR W v sv ev l)(n:Int):∃c:Bool,aY (.func (.func 6) #[] #[]) [KY v sv ev,.ae n] W=some (.bool c,W)/\(c=false->HiA W v sv ev l/\l.length<=410/\((l.length:Int)<=n\/400<l.length)):=by
 have jL:Ok (FM aY (KY v sv ev) (.ae n) W) λr=>∃c:Bool,r.1=.bool c/\Le W r.2/\(c=false->v.ax.length<=10/\(∀s∈v.ax,s.rows.length<=20)/\l.length<=410/\((l.length:Int)<=n\/400<l.length)):=by
  unfold FM;have aM:Le W (W.add (.cells [.ae v.sh,.ae v.cL,.ae v.eO,sv,ev])):=(Le.refl W).add _;have hg:(W.add (.cells [.ae v.sh,.ae v.cL,.ae v.eO,sv,ev])).get W.next=some (.cells [.ae v.sh,.ae v.cL,.ae v.eO,sv,ev]):=AW.aL _ _;simp only[SX];generalize W.add (.cells [.ae v.sh,.ae v.cL,.ae v.eO,sv,ev])=W1 at *;have h1:=h.mono aM;have c3:bu (.pointer (some ⟨W.next,3,none⟩)) W1=some (sv,W1):=BI hg rfl;have c4:bu (.pointer (some ⟨W.next,4,none⟩)) W1=some (ev,W1):=BI hg rfl;refine a8 (min v.ax.length 20) (by omega) (λi R V=>V=W1/\R 1=.ae n/\R 2=.pointer (some ⟨W.next,0,none⟩)/\R 5=.ae (i:Int)/\∀j (hj:j<v.ax.length),j<i->v.ax[j].rows.length<=20)
   (λr=>r.2.2=W1/\((r.1=.exit 0/\r.2.1 1=.ae n/\r.2.1 2=.pointer (some ⟨W.next,0,none⟩)/\∀j (hj:j<v.ax.length),j<20->v.ax[j].rows.length<=20)\/(r.1=.ret/\r.2.1 4=.bool true))) ⟨rfl,rfl,rfl,rfl,λj hj h=>by omega⟩ ?_ ?_ ?_
  ·rintro i R V hi ⟨rfl,r1,r2,r5,hj⟩;unfold xv;have sf:i<v.ax.length:=by omega
   have t1:((i:Int)<(v.ax.length:Int)):=by omega
   have t0:((i:Int)<20):=by omega
   have t2:=λW'=>bc W' i 1
   have e3:((i+1:Nat):Int)=(i:Int)+1:=by omega
   obtain⟨b,o,rv,i1,i2,-,i4,i5,-⟩:=ig.get h1.ax.1 sf;obtain⟨m,hm⟩:=ag1 (bf v.ax[i].name) V;cases d2:decide (100<m)
   ·by_cases c3':v.ax[i].rows.length<=20
    ·have d3:decide ((20:Int)<(v.ax[i].rows.length:Int))=false:=bS;simp only[SX,r2,r5,aI,eQ,c3,h1.ax.1.len tW,t1,t0,i1,i4 _ (Le.refl _),hm,d2,i5 _ (Le.refl _),i2.len NJ,d3,t2,af];exact .inl ⟨aj,aj,r1,r2,by rw[e3];rfl,λj hj' mC=>by
      by_cases e:j=i
      ·subst e;exact c3'
      ·exact hj j hj' (by omega)⟩
    ·have d3:decide ((20:Int)<(v.ax[i].rows.length:Int))=true:=cd;simp only[SX,r2,r5,aI,eQ,c3,h1.ax.1.len tW,t1,t0,i1,i4 _ (Le.refl _),hm,d2,i5 _ (Le.refl _),i2.len NJ,d3,t2,af];exact .inr ⟨by simp,aj,.inr ⟨aj,rfl⟩⟩
   ·simp only[SX,r2,r5,aI,eQ,c3,h1.ax.1.len tW,t1,t0,i1,i4 _ (Le.refl _),hm,d2,t2,af];exact .inr ⟨by simp,aj,.inr ⟨aj,rfl⟩⟩
  ·rintro R V ⟨rfl,r1,r2,r5,hj⟩;unfold xv;by_cases c:v.ax.length<=20
   ·have t1:¬(((min v.ax.length 20:Nat):Int)<(v.ax.length:Int)):=by omega
    simp only[SX,r2,r5,aI,c3,h1.ax.1.len tW,t1,af];exact⟨by simp,aj,.inl ⟨aj,r1,r2,λj h1 h2=>hj j h1 (by omega)⟩⟩
   ·have t1:(((min v.ax.length 20:Nat):Int)<(v.ax.length:Int)):=by omega
    have t0:¬(((min v.ax.length 20:Nat):Int)<20):=by omega
    simp only[SX,r2,r5,aI,c3,h1.ax.1.len tW,t1,t0,af];exact⟨by simp,aj,.inl ⟨aj,r1,r2,λj h1 h2=>hj j h1 (by omega)⟩⟩
  ·rintro⟨q,R,V⟩ ⟨rfl,hq⟩;simp only at hq;rcases hq with⟨rfl,r1,r2,hj⟩|⟨rfl,r4⟩
   ·have hsm:v.ax.length<=10->∀s∈v.ax,s.rows.length<=20:=λhl s hs=>by obtain⟨j,hj',rfl⟩:=List.mem_iff_getElem.1 hs;exact hj j hj' (by omega)
    by_cases k1:v.ax.length<=10
    ·have d1:decide ((10:Int)<(v.ax.length:Int))=false:=bS;by_cases k4:l.length<=410
     ·have d4:decide ((410:Int)<(l.length:Int))=false:=bS;by_cases k2:n<(l.length:Int)
      ·have d2:decide (n<(l.length:Int))=true:=aK k2;by_cases k3:(l.length:Int)<=400
       ·have d3:decide ((l.length:Int)<=400)=true:=aK k3;simp only[SX,r1,r2,aI,c3,c4,h1.ax.1.len tW,h1.Fu.len sY,d1,d2,d3,af];exact⟨true,rfl,aM,λh=>by cases h⟩
       ·have d3:decide ((l.length:Int)<=400)=false:=aJ k3;simp only[SX,r1,r2,aI,c3,c4,h1.ax.1.len tW,h1.Fu.len sY,d1,d2,d3,d4,af];exact⟨false,rfl,aM,λ_=>⟨k1,hsm k1,k4,.inr (by omega)⟩⟩
      ·have d2:decide (n<(l.length:Int))=false:=aJ k2;simp only[SX,r1,r2,aI,c3,c4,h1.ax.1.len tW,h1.Fu.len sY,d1,d2,d4,af];exact⟨false,rfl,aM,λ_=>⟨k1,hsm k1,k4,.inl (by omega)⟩⟩
     ·have d4:decide ((410:Int)<(l.length:Int))=true:=cd;cases d2:decide (n<(l.length:Int))<;>cases d3:decide ((l.length:Int)<=400)<;>
       (simp only[SX,r1,r2,aI,c3,c4,h1.ax.1.len tW,h1.Fu.len sY,d1,d2,d3,d4,af];exact⟨true,rfl,aM,λh=>by cases h⟩)
    ·have d1:decide ((10:Int)<(v.ax.length:Int))=true:=cd;simp only[SX,wu2,r2,aI,c3,h1.ax.1.len tW,d1,af];exact⟨true,rfl,aM,λh=>by cases h⟩
   ·simp only[SX,r4,af];exact⟨true,rfl,aM,λh=>by cases h⟩
 obtain⟨⟨q,W'⟩,h1,c,h2,h3,h4⟩:=jL;simp only at h2;subst h2;refine⟨c,aQ rfl ⟨_,h1,rfl,h3⟩ PM,λhc=>?_⟩;obtain⟨k1,k2,k3⟩:=h4 hc;exact⟨⟨h.ax,by omega,λs hs=>by have:=k2 s hs;omega,h.Fu⟩,k3⟩
end Go.Proofs.YtmaoneengdafhaaGreatDoor
namespace Go.Proofs.YtmaoneengdafhaaGreatDoor
open Go Go.Eng
def ig.aq2{W:AW}{v:ad}{l:List mZ}(h:ig W v l){i:Nat}(hi:i<l.length):∃b o rv,(∀W' k,nY 3 v (.int k (i:Int)) W'=some (.pointer (some ⟨b,o,none⟩),W'))/\dR W rv l[i].rows/\
 (∀W',Le W W'->dF 3 (.pointer (some ⟨b,o,none⟩)) W'=some (JH l[i] rv,W'))/\Ax rv rv=true/\Eng.one rv=true:=by
 obtain⟨b,o,cs,h1,h2,h3,h4,h5,rv,h6,h7,h8⟩:=h.elem hi;refine⟨b,o,rv,h1,h7,λW' aM=>?_,h8⟩;rw[Jt,aM.aH h2,h3];simp only[bM,aaB h4 h6 h5,cP,p8,bi]
def ig.vs{W:AW}{v:ad}{l:List mZ}(h:ig W v l){i:Nat}(hi:i<l.length):iw v v=true:=by
 obtain⟨a,c,rfl,h⟩:=h;rcases h with h|⟨b,o,cs,rfl,-⟩
 ·rw[h]at hi;simp at hi
 ·exact fJ _ _ _ _
def apY(W:AW):dg Tryz.prog 63 W=some (.pointer (some ⟨W.next,0,none⟩),W.add (.cells [.string ⟨#[]⟩,.slice none 0 0,.ae 0])):=aT (by kernel_rfl) rfl
def arv(v:ge)(sv:ad)(W:AW):rD (fH v sv) W=some (.pointer (some ⟨W.next,0,none⟩),W.add (.cells [.ae v.sh,.ae v.cL,.ae v.eO,sv])):=jR _
def TN{W:AW}{v:ge}{sv su:ad}(h:ig W sv v.ax)(k:ig W su v.ax)(hl:v.ax.length<1000)(hr:∀s∈v.ax,s.rows.length<1000):aY (.func (.func 29) #[] #[]) [fH v sv,fH v su] W=some (.bool true,W):=by
 refine aQ rfl ?_ My;unfold JA;obtain⟨W2,hW2⟩:∃W2,W2=(W.add (.cells [.ae v.sh,.ae v.cL,.ae v.eO,sv])).add (.cells [.ae v.sh,.ae v.cL,.ae v.eO,su]):=⟨_,rfl⟩;have aM:Le W W2:=by rw[hW2];exact((Le.refl _).add _).add _
 have g1:W2.get W.next=some (.cells [.ae v.sh,.ae v.cL,.ae v.eO,sv]):=by rw[hW2,AW.aG _ _ (by rw[AW.av];omega),AW.aL]
 have g2:W2.get (W.next+1)=some (.cells [.ae v.sh,.ae v.cL,.ae v.eO,su]):=by rw[hW2,<-AW.av W (.cells [.ae v.sh,.ae v.cL,.ae v.eO,sv]),AW.aL]
 have n2:W2.next=W.next+2:=by rw[hW2,AW.av,AW.av]
 simp only[SX,AW.av,aI];rw[<-hW2];clear hW2;have a0:bu (.pointer (some ⟨W.next,0,none⟩)) W2=some (.ae v.sh,W2):=BI g1 rfl;have a1:bu (.pointer (some ⟨W.next,1,none⟩)) W2=some (.ae v.cL,W2):=BI g1 rfl;have a2:bu (.pointer (some ⟨W.next,2,none⟩)) W2=some (.ae v.eO,W2):=BI g1 rfl;have a3:∀{V:AW},Le W2 V->bu (.pointer (some ⟨W.next,3,none⟩)) V=some (sv,V):=λ{V} hv=>BI ((hv.get _ (by omega)).trans g1) rfl
 have b0:bu (.pointer (some ⟨W.next+1,0,none⟩)) W2=some (.ae v.sh,W2):=BI g2 rfl;have b1:bu (.pointer (some ⟨W.next+1,1,none⟩)) W2=some (.ae v.cL,W2):=BI g2 rfl;have b2:bu (.pointer (some ⟨W.next+1,2,none⟩)) W2=some (.ae v.eO,W2):=BI g2 rfl;have b3:∀{V:AW},Le W2 V->bu (.pointer (some ⟨W.next+1,3,none⟩)) V=some (su,V):=λ{V} hv=>BI ((hv.get _ (by omega)).trans g2) rfl
 have q0:decide (v.sh=v.sh)=true:=aK rfl;have q1:decide (v.cL=v.cL)=true:=aK rfl;have q2:decide (v.eO=v.eO)=true:=aK rfl;have q3:decide ((v.ax.length:Int)=(v.ax.length:Int))=true:=aK rfl;have h2:=ig.mono h aM;have k2:=ig.mono k aM;simp only[SX,a0,a1,a2,a3 (Le.refl _),b0,b1,b2,b3 (Le.refl _),Row.len h2 tW,Row.len k2 tW];refine a8 v.ax.length (by omega) (λi R V=>Le W2 V/\R 2=.pointer (some ⟨W.next,0,none⟩)/\R 3=.pointer (some ⟨W.next+1,0,none⟩)/\R 5=.ae (i:Int)) (λr=>r.1=.exit 0/\Le W2 r.2.2) ⟨Le.refl _,rfl,rfl,rfl⟩ ?_ ?_ ?_
 ·rintro i R V hi ⟨g,r2,r3,r5⟩;unfold vA;have t1:((i:Int)<(v.ax.length:Int)):=by omega
  have t2:=λW'=>bc W' i 1
  have e3:((i+1:Nat):Int)=(i:Int)+1:=by omega
  have hV:=ig.mono h2 g;have kV:=ig.mono k2 g;have hvs:=ig.vs kV hi;obtain⟨b,o,rv,i1,i2,i3,hvr,JJ⟩:=ig.aq2 hV hi;obtain⟨d,p,ru,j1,j2,j3,kvr,asA⟩:=ig.aq2 kV hi;have FH:=hr _ (cG hi);generalize v.ax[i]=s at i2 i3 j2 j3 FH;have wj:iw (JH s ru) (JH s ru)=true:=pI (by simp[Y6,kvr,Jm,OX]);have sa1:fm 3 (.pointer (some ⟨V.next,0,none⟩)) (JH s rv) ((V.add (.cells [.string ⟨#[]⟩,.slice none 0 0,.ae 0])).add (.cells [.string ⟨#[]⟩,.slice none 0 0,.ae 0]))=some (ak,((V.add (.cells [.string ⟨#[]⟩,.slice none 0 0,.ae 0])).add (.cells [.string ⟨#[]⟩,.slice none 0 0,.ae 0])).put V.next (.cells [.string (bf s.name),rv,.ae s.q])):=
   gU (by rw[AW.aG _ _ (by rw[AW.av];omega),AW.aL]) rfl rfl (by simp[JJ,pG,cI])
  obtain⟨V1,ko⟩:∃V1,V1=((V.add (.cells [.string ⟨#[]⟩,.slice none 0 0,.ae 0])).add (.cells [.string ⟨#[]⟩,.slice none 0 0,.ae 0])).put V.next (.cells [.string (bf s.name),rv,.ae s.q]):=⟨_,rfl⟩;rw[<-ko]at sa1;have l1:Le V V1:=by rw[ko];exact(((Le.refl _).add _).add _).put (aR _) _
  have n1:V1.next=V.next+2:=by rw[ko,AW.bH,AW.av,AW.av]
  have x1:V1.get V.next=some (.cells [.string (bf s.name),rv,.ae s.q]):=by rw[ko,AW.aW]
  have x2:V1.get (V.next+1)=some (.cells [.string ⟨#[]⟩,.slice none 0 0,.ae 0]):=by rw[ko,AW.ay _ _ (by omega),<-AW.av V (.cells [.string ⟨#[]⟩,.slice none 0 0,.ae 0]),AW.aL]
  have sa2:fm 3 (.pointer (some ⟨V.next+1,0,none⟩)) (JH s ru) V1=some (ak,V1.put (V.next+1) (.cells [.string (bf s.name),ru,.ae s.q])):=gU x2 rfl rfl (by simp[asA,pG,cI]);obtain⟨V2,BO⟩:∃V2,V2=V1.put (V.next+1) (.cells [.string (bf s.name),ru,.ae s.q]):=⟨_,rfl⟩;rw[<-BO]at sa2;have l2:Le V V2:=by rw[BO];exact l1.put (by omega) _
  have z1:V2.get V.next=some (.cells [.string (bf s.name),rv,.ae s.q]):=by rw[BO,AW.ay _ _ (by omega)];exact x1
  have z2:V2.get (V.next+1)=some (.cells [.string (bf s.name),ru,.ae s.q]):=by rw[BO,AW.aW]
  clear ko BO;have w0:bu (.pointer (some ⟨V.next,0,none⟩)) V2=some (.string (bf s.name),V2):=BI z1 rfl;have w1:bu (.pointer (some ⟨V.next,1,none⟩)) V2=some (rv,V2):=BI z1 rfl;have w2:bu (.pointer (some ⟨V.next,2,none⟩)) V2=some (.ae s.q,V2):=BI z1 rfl;have y0:bu (.pointer (some ⟨V.next+1,0,none⟩)) V2=some (.string (bf s.name),V2):=BI z2 rfl;have y1:bu (.pointer (some ⟨V.next+1,1,none⟩)) V2=some (ru,V2):=BI z2 rfl;have y2:bu (.pointer (some ⟨V.next+1,2,none⟩)) V2=some (.ae s.q,V2):=BI z2 rfl;have hi2:=ahG (i2.mono l2) (j2.mono l2) (by omega);rw[aK rfl]at hi2;have p0:decide (s.q=s.q)=true:=aK rfl;have avV:∀(n:ByteArray) (c d:Bool) (W:AW),bO Tryz.prog .neq 9 c d (.string n) (.string n) W=some (.bool false,W):=λn c d W=>by rw[FY,beq_self_eq_true];rfl
  simp only[SX,r2,r3,r5,aI,a3 g,b3 g,Row.len hV tW,t1,i1,i3 _ (Le.refl _),j1,j3 _ (Le.refl _),apY,AW.av,sa1,j3 _ l1,cV,wj,b3 (g.trans l1),hvs,oz,sa2,w0,y0,avV,w2,y2,w1,y1,hi2,t2,af];exact .inl ⟨aj,g.trans l2,r2,r3,by rw[e3];rfl⟩
 ·rintro R V ⟨g,r2,r3,r5⟩;unfold vA;have t1:¬((v.ax.length:Int)<(v.ax.length:Int)):=by omega
  simp only[SX,r2,r5,aI,a3 g,Row.len (ig.mono h2 g) tW,t1,af];exact⟨by simp,aj,g⟩
 ·rintro⟨q,R,V⟩ ⟨rfl,g⟩;simp only[SX,af];exact⟨aj,aM.trans g⟩
structure KpX (x X:cS) (o:kP):Prop where
 v:X.v=x.v
 st:X.st.length=x.st.length
 qs:X.qs.length=x.qs.length
 q:(∀l∈x.qs,l.length<=64)->∀l∈X.qs,l.length<=65
 now:X.now=x.now\/X.now=o.nw
def KpX.refl(x:cS)(o:kP):KpX x x o:=⟨rfl,rfl,rfl,λh l hl=>by have:=h l hl;omega,.inl rfl⟩
def KpX.off(x y:cS)(o:kP)(i:Nat)(h1:y.v=x.v)(h2:y.st.length=x.st.length)(h3:y.qs=x.qs)(h4:y.now=x.now\/y.now=o.nw):KpX x (lz y i) o:=by obtain⟨a,b,c,d⟩:=wC y i;refine⟨a.trans h1,c.trans h2,d.trans (by rw[h3]),λh=>?_,by rw[b];exact h4⟩;have:=WU (x:=y) (i:=i) (N:=65) (λl hl=>by rw[h3]at hl;have:=h l hl;omega);exact this
def TV(x:cS)(o:kP)(s:Nat)(y:fq)(e:Int):KpX x (Ng x s y e) o:=by
 unfold Ng;split
 ·exact⟨rfl,by simp,rfl,λh l hl=>by have:=h l hl;omega,.inl rfl⟩
 ·exact .refl _ _
def TZ(x:cS)(o:kP)(s:Nat)(y:fq)(e:Int):KpX x (Tx x s y e) o:=by
 unfold Tx;split
 ·exact .off _ _ _ _ rfl (by simp) rfl (.inl rfl)
 ·exact .refl _ _
def NB{qs:List (List Int)}{k:Nat}{l:List Int}(h:∀l∈qs,l.length<=64)(hl:l.length<=65):∀a∈qs.set k l,a.length<=65:=λa ha=>by
 rcases List.mem_or_eq_of_mem_set ha with h1|rfl
 ·have:=h a h1;omega
 ·exact hl
def Wo{x:cS}{k:Nat}(h:∀l∈x.qs,l.length<=64):(ik x k).length<=64:=by
 unfold ik;by_cases hk:k<x.qs.length
 ·simp only[List.getD,bJ hk,oL];exact h _ (cG hk)
 ·simp[List.getD,kn (by omega:x.qs.length<=k)]
def ahW(x:cS)(o:kP):KpX x (bX x o).1 o:=by
 have e:=bX.eq_1 x o;by_cases k1:o.k=1
 ·rw[an k1]at e;rw[e];exact .refl _ _
 rw[aq k1]at e;by_cases k2:o.k=2
 ·rw[an k2]at e;rw[e];exact TV _ _ _ _ _
 rw[aq k2]at e;by_cases k3:o.k=3
 ·rw[an k3]at e;rw[e];show KpX x (oh x _ _ _) o;unfold oh;split
  ·obtain⟨a,b,c,d⟩:=zP o.ow (eu x.now x.v.cL) (nz x (pr o).toNat o.n).1.toNat x (List.range o.n.toNat);exact⟨a,c,ii List.length d,λh l hl=>by have Cy:l∈((List.range o.n.toNat).foldl (qB o.ow (eu x.now x.v.cL) (nz x (pr o).toNat o.n).1.toNat) x).qs:=hl;rw[d]at Cy;have:=h l Cy;omega,.inl b⟩
  ·exact .refl _ _
 rw[aq k3]at e;by_cases k4:o.k=4
 ·rw[an k4]at e;rw[e];exact TZ _ _ _ _ _
 rw[aq k4]at e;by_cases k5:o.k=5
 ·rw[an k5]at e;rw[e];exact TV _ _ _ _ _
 rw[aq k5]at e;by_cases k6:o.k=6
 ·rw[an k6]at e;rw[e];exact TV _ _ _ _ _
 rw[aq k6]at e;by_cases k7:o.k=7
 ·rw[an k7]at e;rw[e];exact TZ _ _ _ _ _
 rw[aq k7]at e;by_cases k8:o.k=8
 ·rw[an k8]at e;rw[e];exact TZ _ _ _ _ _
 rw[aq k8]at e;by_cases k9:o.k=9
 ·rw[an k9]at e;rw[e];exact .refl _ _
 rw[aq k9]at e;by_cases k10:o.k=10
 ·rw[an k10]at e;rw[e];show KpX x (yn x _ _) o;unfold yn;split
  ·exact⟨rfl,rfl,by simp,λh=>NB h (by have:=Wo (k:=(pr o).toNat) h;rw[cD,EW];omega),.inl rfl⟩
  ·exact .refl _ _
 rw[aq k10]at e;by_cases k11:o.k=11
 ·rw[an k11]at e;rw[e];show KpX x (sI x _ _) o;unfold sI;split
  ·exact .refl _ _
  ·exact⟨rfl,rfl,by simp,λh=>NB h (by have:=Wo (k:=(pr o).toNat) h;unfold Zk;rw[cD,cR,mr];omega),.inl rfl⟩
 rw[aq k11]at e;by_cases kp:o.nw<x.now
 ·rw[an kp]at e;rw[e];exact .refl _ _
 ·rw[aq kp]at e;rw[e];obtain⟨a,b,c,d⟩:=M0 x o.nw (I8 x o.nw);exact⟨a,c,d,λh=>P6 o.nw (I8 x o.nw) {x with now:=o.nw} (λl hl=>by have:=h l hl;omega),.inr b⟩
def Bnd.do{x:cS}(h:Bnd x)(o:kP)(EO:o.nw<9223372036854775808):Bnd (wm x o).1/\(wm x o).1.v=x.v:=by
 unfold wm;by_cases c:Sn x=0;case neg=>rw[aq c];exact⟨h,rfl⟩
 rw[an c];have hg:=abY c;have hl:∀l∈x.qs,l.length<=64:=λl hl=>by obtain⟨k,hk,rfl⟩:=By hl;have:=(hg.q k hk).1;simpa[ik,List.getD,bJ hk]using this
 have hk:=ahW x o;have hn:=h.now;have:Bnd (bX x o).1/\(bX x o).1.v=x.v:=⟨⟨by rw[hk.v];exact h.v,by rw[hk.st];exact h.st,by rw[hk.qs];exact h.qs,λl C0=>by have:=hk.q hl l C0;omega,by rcases hk.now with e|e<;>omega⟩,hk.v⟩;unfold yX;split
 ·split
  ·split
   ·exact this
   ·exact⟨h,rfl⟩
  ·exact⟨h,rfl⟩
 ·exact⟨h,rfl⟩
def g87:Tryz.prog.eqGuardType Tryz.prog.depth 87=false:=by kernel_rfl
def q87(x y:fq):PB Tryz.prog 8 87 (iS x) (iS y)=yd [(x.st,y.st),(x.ow,y.ow),(x.dl,y.dl),(x.se,y.se),(x.ep,y.ep)]:=by kernel_rfl
def TJ(x:fq)(c d:Bool)(W:AW):bO Tryz.prog .neq 87 c d (iS x) (iS x) W=some (.bool false,W):=by refine sd g87 (r:=true) ((q87 ..).trans ?_);simp only[sD,dz,wU,beq_self_eq_true,oz]
def adL{W:AW}{a b:ad}{x:cS}(ha:amj W a x)(hb:amj W b x)(hv:x.v.ax.length<1000)(hr:∀s∈x.v.ax,s.rows.length<1000)(hn:x.st.length<=10000)(hq:x.qs.length<=10000)(hl:∀l∈x.qs,l.length<=10000):
 aY (.func (.func 10) #[] #[]) [a,b] W=some (.bool true,W):=by
 obtain⟨sv,sq,qq,rfl,hs,n8,hqs⟩:=ha;obtain⟨tv,tq,pq,rfl,ht,hte,hqt⟩:=hb;refine aQ rfl ?_ LV;unfold Ko;obtain⟨V,hV⟩:∃V,V=(W.add (.cells (eT x sv sq qq))).add (.cells (eT x tv tq pq)):=⟨_,rfl⟩;have aM:Le W V:=by rw[hV];exact((Le.refl W).add _).add _
 have g0:V.get W.next=some (.cells (eT x sv sq qq)):=by rw[hV];exact(AW.aG _ _ (by rw[AW.av];omega)).trans (AW.aL _ _)
 have g1:V.get (W.next+1)=some (.cells (eT x tv tq pq)):=by rw[hV,<-AW.av W (.cells (eT x sv sq qq))];exact AW.aL _ _
 simp only[SX,AW.av];rw[<-hV];clear hV;have l0:∀{i:Nat} {u:ad},(eT x sv sq qq)[i]? =some u->bu (.pointer (some ⟨W.next,i,none⟩)) V=some (u,V):=λhi=>aP (ao g0) hi
 have l1:∀{i:Nat} {u:ad},(eT x tv tq pq)[i]? =some u->bu (.pointer (some ⟨W.next+1,i,none⟩)) V=some (u,V):=λhi=>aP (ao g1) hi
 have a0:dF 4 (ba W.next) V=some (fH x.v sv,V):=bz (ao g0) rfl;have b0:dF 4 (ba (W.next+1)) V=some (fH x.v tv,V):=bz (ao g1) rfl;have a4:=l0 (i:=4) rfl;have a5:=l0 (i:=5) rfl;have a6:=l0 (i:=6) rfl;have b4:=l1 (i:=4) rfl;have b5:=l1 (i:=5) rfl;have b6:=l1 (i:=6) rfl;have akN:=n8.keep aM;have asl:=hte.keep aM;have aue:=hqs.mono aM;have asq:=hqt.mono aM;have d0:decide (x.now=x.now)=true:=aK rfl;have d1:decide ((x.st.length:Int)=(x.st.length:Int))=true:=aK rfl;have d2:decide ((x.qs.length:Int)=(x.qs.length:Int))=true:=aK rfl;have ajL:=λU=>jm n8 uK U 3 #[false]
 have asz:=λU=>jm hte uK U 3 #[false]
 have lqA:=λU=>Row.len hqs Ab U 3 #[false]
 have lqB:=λU=>Row.len hqt Ab U 3 #[false]
 simp only[SX,aI,a0,b0,TN (ig.mono hs.1 aM) (ig.mono ht.1 aM) hv hr,a4,b4,a5,b5,ajL,asz,a6,b6,lqA,lqB];refine a8 x.st.length (by omega) (λk R U=>U=V/\R 2=ba W.next/\R 3=ba (W.next+1)/\R 5=.ae (k:Int)) (λr=>r.1=.exit 0/\r.2.2=V/\r.2.1 2=ba W.next/\r.2.1 3=ba (W.next+1)) ⟨rfl,rfl,rfl,rfl⟩ ?_ ?_ ?_
 ·rintro k R _ hk ⟨rfl,r2,r3,r5⟩;unfold vK;have t1:decide ((k:Int)<(x.st.length:Int))=true:=cd;have t2:=λW'=>bc W' k 1
  have e3:((k+1:Nat):Int)=(k:Int)+1:=by omega
  obtain⟨p,o,c1,c2,c3⟩:=Qb.get akN hk;obtain⟨q,m,c4,c5,c6⟩:=Qb.get asl hk;simp only[SX,r2,r3,r5,aI,a5,b5,ajL,t1,c1,c3 _ rfl,c4,c6 _ rfl,TJ,t2,af];exact .inl ⟨aj,aj,r2,r3,by rw[e3];rfl⟩
 ·rintro R _ ⟨rfl,r2,r3,r5⟩;unfold vK;have t1:decide ((x.st.length:Int)<(x.st.length:Int))=false:=bS;simp only[SX,r2,r5,aI,a5,ajL,t1,af];exact⟨by simp,aj,aj,r2,r3⟩
 rintro⟨e,R,U⟩ ⟨rfl,hU,r2,r3⟩;have hU:V=U:=Eq.symm hU;subst hU;simp only[SX];refine a8 x.qs.length (by omega) (λk R U=>U=V/\R 2=ba W.next/\R 3=ba (W.next+1)/\R 6=.ae (k:Int)) (λr=>r.1=.exit 2/\r.2.2=V) ⟨rfl,r2,r3,rfl⟩ ?_ ?_ ?_
 ·rintro k R U hk ⟨hU,r2,r3,r6⟩;have hU:V=U:=Eq.symm hU;subst hU;unfold vD;have t1:decide ((k:Int)<(x.qs.length:Int))=true:=cd;have t2:=λW'=>bc W' k 1
  have e3:((k+1:Nat):Int)=(k:Int)+1:=by omega
  obtain⟨p,o,u,c1,c2,c3,c4⟩:=Qf.get aue hk;obtain⟨q,m,w,c5,c6,c7,c8⟩:=Qf.get asq hk;have hlk:=hl _ (cG hk);have d3:decide ((x.qs[k].length:Int)=(x.qs[k].length:Int))=true:=aK rfl;have luA:=λU=>jm c3 oJ U 3 #[false]
  have luB:=λU=>jm c7 oJ U 3 #[false]
  simp only[SX,r2,r3,r6,aI,a6,b6,lqA,t1,c1,c4 _ rfl,luA,c5,c8 _ rfl,luB];refine a8 x.qs[k].length (by omega) (λj R U=>U=V/\R 2=ba W.next/\R 3=ba (W.next+1)/\R 6=.ae (k:Int)/\R 7=.ae (j:Int)) (λr=>r.1=.exit 4/\r.2.2=V/\r.2.1 2=ba W.next/\r.2.1 3=ba (W.next+1)/\r.2.1 6=.ae (k:Int)) ⟨rfl,r2,r3,r6,rfl⟩ ?_ ?_ ?_
  ·rintro j R _ hj ⟨rfl,r2,r3,r6,r7⟩;unfold pO;have t1:decide ((j:Int)<(x.qs[k].length:Int))=true:=cd;have t2:=λW'=>bc W' j 1
   have e3:((j+1:Nat):Int)=(j:Int)+1:=by omega
   obtain⟨s,i,y1,y2,y3⟩:=Qa.get c3 hj;obtain⟨s',i',z1,z2,z3⟩:=Qa.get c7 hj;have d4:decide ((x.qs[k])[j]=(x.qs[k])[j])=true:=aK rfl;simp only[SX,r2,r3,r6,r7,aI,a6,b6,c1,c4 _ rfl,luA,t1,c5,c8 _ rfl,y1,y3 _ rfl,z1,z3 _ rfl,t2,af];exact .inl ⟨aj,aj,r2,r3,r6,by rw[e3];rfl⟩
  ·rintro R _ ⟨rfl,r2,r3,r6,r7⟩;unfold pO;have t1:decide ((x.qs[k].length:Int)<(x.qs[k].length:Int))=false:=bS;simp only[SX,r2,r6,r7,aI,a6,c1,c4 _ rfl,luA,t1,af];exact⟨by simp,aj,aj,r2,r3,r6⟩
  ·rintro⟨e,R,_⟩ ⟨rfl,rfl,r2,r3,r6⟩;have r6':R 6=.ae (k:Int):=r6;simp only[SX,r6',t2,af];exact .inl ⟨aj,aj,r2,r3,by rw[e3];rfl⟩
 ·rintro R _ ⟨rfl,r2,r3,r6⟩;unfold vD;have t1:decide ((x.qs.length:Int)<(x.qs.length:Int))=false:=bS;simp only[SX,r2,r6,aI,a6,lqA,t1,af];exact⟨by simp,aj,aj⟩
 ·rintro⟨e,R,_⟩ ⟨rfl,rfl⟩;simp only[SX,af];exact⟨aj,aM⟩
def rk(v:ge):cS:=⟨v,0,List.replicate (bG v.ax).toNat Cv,List.replicate v.ax.length []⟩
abbrev dG:ad:=.slice none 0 0
def b87:(Tryz.prog.info? 87).map (·.bytes)=some 40:=by kernel_rfl
def t87:nX Tryz.prog 87=some 5:=by kernel_rfl
def z87:kG Tryz.prog 87=some (iS Cv):=by kernel_rfl
def b88:(Tryz.prog.info? 88).map (·.bytes)=some 24:=by kernel_rfl
def t88:nX Tryz.prog 88=some 1:=by kernel_rfl
def z88:kG Tryz.prog 88=some dG:=by kernel_rfl
def u31:Tryz.prog.underlying 31=some (.slice 87):=by kernel_rfl
def avn:Tryz.prog.underlying 32=some (.slice 88):=by kernel_rfl
def Xl(n:Nat):yA (dJ Cv) n=(List.replicate n Cv).flatMap dJ:=by
 induction n with
 |zero=>rfl
 |succ n ih=>show dJ Cv++yA (dJ Cv) n=_;rw[ih,uU,fN]
def NI(n:Nat):yA [dG] n=List.replicate n dG:=by
 induction n with
 |zero=>rfl
 |succ n ih=>show [dG]++yA [dG] n=_;rw[ih,uU];rfl
def ap7{n:Nat}(h:n<=10000)(W:AW):gh Tryz.prog 31 (.ae (n:Int)) (.ae (n:Int)) W=some (oa W.next n,W.add (.cells ((List.replicate n Cv).flatMap dJ))):=by
 show gh Tryz.prog 31 (.ae (Int.ofNat n)) (.ae (Int.ofNat n)) W=_;unfold gh;have e:=zn (z:=iS Cv) (len:=n) (n:=5) rfl;have e2:(kF (iS Cv) (n*5)).toList=(List.replicate n Cv).flatMap dJ:=by rw[e];exact Xl n
 have e3:((List.replicate n Cv).flatMap dJ).all cC=true:=by rw[<-Xl];exact vQ _ _ rfl n
 simp only[u31,t87,z87,b87];rw[e2,an ⟨aR _,by omega,by omega,e3⟩]
def avd{n:Nat}(h:n<=10000)(W:AW):gh Tryz.prog 32 (.ae (n:Int)) (.ae (n:Int)) W=some (oa W.next n,W.add (.cells (List.replicate n dG))):=by
 show gh Tryz.prog 32 (.ae (Int.ofNat n)) (.ae (Int.ofNat n)) W=_;unfold gh;have e:=zn (z:=dG) (len:=n) (n:=1) rfl;have e2:(kF dG (n*1)).toList=List.replicate n dG:=by rw[e];exact NI n
 have e3:(List.replicate n dG).all cC=true:=by rw[<-NI];exact vQ _ _ rfl n
 simp only[avn,t88,z88,b88];rw[e2,an ⟨aR _,by omega,by omega,e3⟩]
def ajw(v:ge)(sv:ad)(hs:Eng.one sv=true)(a n b k:Nat)(W:AW):fd Tryz.prog 34 [(0,fH v sv),(2,oa a n),(3,oa b k)] W=some (ky (rk v) sv (oa a n) (oa b k),W):=aT (by kernel_rfl) rfl
def alY(v:ge)(sv:ad)(hs:Eng.one sv=true)(a n:Nat)(W:AW):fd Tryz.prog 34 [(0,fH v sv),(2,oa a n)] W=some (ky (rk v) sv (oa a n) dG,W):=aT (by kernel_rfl) rfl
def adn{W:AW}{b n:Nat}(hb:b<W.next)(h:W.get b=some (.cells ((List.replicate n Cv).flatMap dJ))):Qb W (oa b n) (List.replicate n Cv):=by refine⟨_,_,by rw[mh],.inr ⟨b,0,_,rfl,hb,ao h,?_⟩⟩;rw[jB,<-cm na,cO]
def acN{W:AW}{b n:Nat}{c:Nat}(hb:b<W.next)(h:W.get b=some (.cells (List.replicate n dG))):Qf W (.slice (some ⟨b,0,none⟩) n c) (List.replicate n []):=by refine⟨_,_,by rw[mh],.inr ⟨b,0,_,rfl,hb,ao h,λi hi=>?_⟩⟩;rw[mh]at hi;rw[List.getElem_replicate];exact⟨dG,by simp[hi],_,_,rfl,.inl rfl⟩
abbrev pC:List ad:=[.ae 0,.ae 0,.ae 0,.slice none 0 0,.ae 0,.slice none 0 0,.slice none 0 0]
def aeK{W:AW}{b:Nat}{x:cS}{sv sq qq e:ad}(h1:Eng.one sv=true)(h2:Eng.one sq=true)(h3:Eng.one qq=true)(g:W.get b=some (.cells pC)):∃V,fm 7 (ba b) (ky x sv sq qq) W=some (ak,V)/\iP Tryz.prog [(ba b,some 34),(e,none)] V=some (.tuple #[ky x sv sq qq,e],V)/\V.next=W.next/\∀d,d≠b->V.get d=W.get d:=by have s7:=gU (W:=W) (b:=b) (n:=7) (vs:=(eT x sv sq qq).toArray) g rfl rfl (by simp[dz,h1,h2,h3,cI]);refine⟨W.put b (.cells (eT x sv sq qq)),s7,?_,AW.bH _ _ _,λd hd=>AW.ay _ _ (bh hd)⟩;rw[bB,EG,bz (n:=7) (o:=0) (ao (AW.aW _ _ _)) rfl];rfl
def afv{Z W:AW}{v:ge}{sv:ad}(GZ:fC Z sv v.ax)(hz:Le Z W)(he:(dn v).2=0)(hv:v.ax.length<1000):
 ∃u W',aY (.func (.func 24) #[] #[]) [fH v sv] W=some (.tuple #[u,.ae 0],W')/\Le W W'/\MdK Z W W' u (rk v):=by
 have hs:=GZ.mono hz;have h1:=row_one hs.1;obtain⟨HE,-,-,-,ht,-⟩:=cF he;have ht0:=Be HE;have jL:Ok (Gk aY (fH v sv) W) λr=>∃u,r.1=.tuple #[u,.ae 0]/\Le W r.2/\MdK Z W r.2 u (rk v):=by
  unfold Gk;have n8:=KE (W:=(W.add (.cells [.ae v.sh,.ae v.cL,.ae v.eO,sv])).add (.cells pC)) (hs.mono (((Le.refl W).add _).add _)) hv;have e2:(cn v).2=0:=by unfold cn;rw[an he]
  have e1:(cn v).1=(((bG v.ax).toNat:Nat):Int):=by unfold cn;rw[an he];show bG v.ax=_;omega
  rw[e1,e2]at n8;obtain⟨V,hV⟩:∃V,V=(W.add (.cells [.ae v.sh,.ae v.cL,.ae v.eO,sv])).add (.cells pC):=⟨_,rfl⟩;have n1:V.next=W.next+2:=by rw[hV];rfl
  have aM:Le W V:=by rw[hV];exact((Le.refl W).add _).add _
  have g0:V.get W.next=some (.cells [.ae v.sh,.ae v.cL,.ae v.eO,sv]):=by rw[hV];exact(AW.aG _ _ (by rw[AW.av];omega)).trans (AW.aL _ _)
  have g1:V.get (W.next+1)=some (.cells pC):=by rw[hV,<-AW.av W (.cells [.ae v.sh,.ae v.cL,.ae v.eO,sv])];exact AW.aL _ _
  have l4:∀U,U.get W.next=V.get W.next->dF 4 (ba W.next) U=some (fH v sv,U):=λU hU=>bz (ao (hU.trans g0)) rfl
  have l3:∀U,U.get W.next=V.get W.next->bu (.pointer (some ⟨W.next,3,none⟩)) U=some (sv,U):=λU hU=>aP (ao (hU.trans g0)) rfl
  have d0:decide ((0:Int)=0)=true:=rfl;have bx:rD (fH v sv) W=some (ba W.next,W.add (.cells [.ae v.sh,.ae v.cL,.ae v.eO,sv])):=jR _;rw[<-hV]at n8;simp only[SX,bx,nO,AW.av];rw[<-hV];clear hV;obtain⟨V1,ko⟩:∃V1,V1=V.add (.cells ((List.replicate (bG v.ax).toNat Cv).flatMap dJ)):=⟨_,rfl⟩;have q1:∀d,d<V.next->V1.get d=V.get d:=λd hd=>by rw[ko];exact AW.aG _ _ (by omega)
  have nV1:V1.next=V.next+1:=by rw[ko];rfl
  have gs:V1.get V.next=some (.cells ((List.replicate (bG v.ax).toNat Cv).flatMap dJ)):=by rw[ko];exact AW.aL _ _
  obtain⟨V2,BO⟩:∃V2,V2=V1.add (.cells (List.replicate v.ax.length dG)):=⟨_,rfl⟩;have q2:∀d,d<V1.next->V2.get d=V1.get d:=λd hd=>by rw[BO];exact AW.aG _ _ (by omega)
  have nV2:V2.next=V1.next+1:=by rw[BO];rfl
  have gq:V2.get V1.next=some (.cells (List.replicate v.ax.length dG)):=by rw[BO];exact AW.aL _ _
  obtain⟨V3,p1,p2,p3,p4⟩:=aeK (W:=V2) (b:=W.next+1) (x:=rk v) (sv:=sv) (sq:=oa V.next (bG v.ax).toNat) (qq:=oa V1.next v.ax.length) (e:=.ae 0) h1 rfl rfl (((q2 _ (by omega)).trans (q1 _ (by omega))).trans g1);have m1:=ap7 (n:=(bG v.ax).toNat) (by omega) V;rw[<-ko]at m1;have m2:=avd (n:=v.ax.length) (by omega) V1;rw[<-BO]at m2;simp only[SX,l4 V rfl,n8,m1,aI,l3 V1 (q1 _ (by omega)),Row.len hs.1 zg,m2,ajw v sv h1,p1,p2,af];have BU:Le W V3:=⟨by omega,λd hd=>(p4 d (by omega)).trans ((q2 d (by omega)).trans ((q1 d (by omega)).trans (aM.get d hd)))⟩;exact⟨_,rfl,BU,λU hn hu=>⟨sv,_,_,rfl,GZ,adn (by omega) ((hu _ (.inr (by omega)) (by omega)).trans ((p4 _ (by omega)).trans ((q2 _ (by omega)).trans gs))),acN (by omega) ((hu _ (.inr (by omega)) (by omega)).trans ((p4 _ (by omega)).trans gq))⟩⟩
 obtain⟨⟨u,V⟩,k1,w,rfl,k2,k3⟩:=jL;have rJ:=PS k1;unfold OG at rJ;unfold gc at rJ;by_cases hp:(bN (.tuple #[w,.ae 0])&& !Yq (.tuple #[w,.ae 0]))=true/\Le W V
 ·exfalso;obtain⟨Wl,sq',qq',rfl,m1,m2,m3⟩:=k3.at;obtain⟨-,a,c,rfl,-,h4⟩:=m1;obtain⟨b,o,rfl⟩:=h4 (λe=>by have:=(cF he).2.2.1;rw[show(rk v).v.ax=v.ax from rfl]at e;rw[e]at this;exact absurd this (by simp));simp[bN,eI,cC]at hp
 ·rw[aq hp]at rJ;exact⟨_,V,rJ,k2,k3⟩
def n1V:TD:=⟨dG,rfl⟩
def aaR:Eng.Mx dG:=.inr ⟨_,_,rfl⟩
def Fb:cS:=⟨⟨0,0,0,[]⟩,0,[],[]⟩
def O4(W:AW):fd Tryz.prog 34 [] W=some (ky Fb dG dG dG,W):=aT (by kernel_rfl) rfl
def ajp{W:AW}{u:ad}{n:Nat}{bo:Option Nat}(h:g9 W 1 Cx u (List.replicate n n1V) bo):Qf W u (List.replicate n []):=by
 rcases h with⟨e,rfl,-⟩|⟨h0,B,-,h2,rfl,h4⟩
 ·have:n=0:=by have:=ii List.length e;simpa using this
  subst this;exact⟨none,0,rfl,.inl rfl⟩
 ·rw[mh];refine acN h2 (h4.trans ?_);congr 2;clear h0 h4;induction n with
  |zero=>rfl
  |succ n ih=>rw[uU,fN,ih,uU];rfl
def afx{W:AW}{u:ad}{l:List TD}{bo:Option Nat}(h:g9 W 1 Cx u l bo):Eng.one u=true:=by rcases h with⟨-,rfl,-⟩|⟨-,B,-,-,rfl,-⟩<;>rfl
def agf{Z W:AW}{v:ge}{sv:ad}(GZ:fC Z sv v.ax)(hz:Le Z W)(he:(dn v).2=0)(hv:v.ax.length<1000):
 ∃u W',aY (.func (.func 12) #[] #[]) [fH v sv] W=some (.tuple #[u,.ae 0],W')/\Le W W'/\MdK Z W W' u (rk v):=by
 have hs:=GZ.mono hz;have h1:=row_one hs.1;obtain⟨HE,-,-,-,ht,-⟩:=cF he;have ht0:=Be HE;have jL:Ok (Gu aY (fH v sv) W) λr=>∃u,r.1=.tuple #[u,.ae 0]/\Le W r.2/\MdK Z W r.2 u (rk v):=by
  unfold Gu;have n8:=uJ (W:=(W.add (.cells [.ae v.sh,.ae v.cL,.ae v.eO,sv])).add (.cells pC)) (ig.mono hs.1 (((Le.refl W).add _).add _)) hv (On he);have e2:(cn v).2=0:=by unfold cn;rw[an he]
  have e1:(cn v).1=(((bG v.ax).toNat:Nat):Int):=by unfold cn;rw[an he];show bG v.ax=_;omega
  rw[e1,e2]at n8;obtain⟨V,hV⟩:∃V,V=(W.add (.cells [.ae v.sh,.ae v.cL,.ae v.eO,sv])).add (.cells pC):=⟨_,rfl⟩;have n1:V.next=W.next+2:=by rw[hV];rfl
  have aM:Le W V:=by rw[hV];exact((Le.refl W).add _).add _
  have g0:V.get W.next=some (.cells [.ae v.sh,.ae v.cL,.ae v.eO,sv]):=by rw[hV];exact(AW.aG _ _ (by rw[AW.av];omega)).trans (AW.aL _ _)
  have g1:V.get (W.next+1)=some (.cells pC):=by rw[hV,<-AW.av W (.cells [.ae v.sh,.ae v.cL,.ae v.eO,sv])];exact AW.aL _ _
  have l4:∀U,U.get W.next=V.get W.next->dF 4 (ba W.next) U=some (fH v sv,U):=λU hU=>bz (ao (hU.trans g0)) rfl
  have l3:∀U,U.get W.next=V.get W.next->bu (.pointer (some ⟨W.next,3,none⟩)) U=some (sv,U):=λU hU=>aP (ao (hU.trans g0)) rfl
  have d0:decide ((0:Int)=0)=true:=rfl;have bx:rD (fH v sv) W=some (ba W.next,W.add (.cells [.ae v.sh,.ae v.cL,.ae v.eO,sv])):=jR _;rw[<-hV]at n8;simp only[SX,bx,nO,AW.av];rw[<-hV];clear hV;obtain⟨V1,ko⟩:∃V1,V1=V.add (.cells ((List.replicate (bG v.ax).toNat Cv).flatMap dJ)):=⟨_,rfl⟩;have q1:∀d,d<V.next->V1.get d=V.get d:=λd hd=>by rw[ko];exact AW.aG _ _ (by omega)
  have nV1:V1.next=V.next+1:=by rw[ko];rfl
  have gs:V1.get V.next=some (.cells ((List.replicate (bG v.ax).toNat Cv).flatMap dJ)):=by rw[ko];exact AW.aL _ _
  have m1:=ap7 (n:=(bG v.ax).toNat) (by omega) V;rw[<-ko]at m1;have s7:=gU (W:=V1.add (.cells pC)) (b:=V1.next) (n:=7) (vs:=(eT (rk v) sv (oa V.next (bG v.ax).toNat) dG).toArray) (AW.aL _ _) rfl rfl (by simp[dz,h1,cI];exact⟨rfl,rfl⟩);rw[jy]at s7;have Q1:fm 7 (ba V1.next) (ky (rk v) sv (oa V.next (bG v.ax).toNat) dG) (V1.add (.cells pC))=some (ak,V1.add (.cells (eT (rk v) sv (oa V.next (bG v.ax).toNat) dG))):=s7;simp only[SX,l4 V rfl,n8,m1,alY v sv h1,Q1]
  refine a8 v.ax.length (by omega) (λk R U=>R 1=ba W.next/\R 2=ba (W.next+1)/\R 6=ba V1.next/\R 7=.ae (k:Int)/\V1.next<U.next/\(∀d,d<V1.next->U.get d=V1.get d)/\
   ∃u bo,U.get V1.next=some (.cells (eT (rk v) sv (oa V.next (bG v.ax).toNat) u))/\g9 U 1 Cx u (List.replicate k n1V) bo/\∀B,bo=some B->V1.next<B)
   (λr=>r.1=.exit 0/\r.2.1 2=ba (W.next+1)/\r.2.1 6=ba V1.next/\V1.next<r.2.2.next/\(∀d,d<V1.next->r.2.2.get d=V1.get d)/\
     ∃u bo,r.2.2.get V1.next=some (.cells (eT (rk v) sv (oa V.next (bG v.ax).toNat) u))/\g9 r.2.2 1 Cx u (List.replicate v.ax.length n1V) bo/\∀B,bo=some B->V1.next<B)
   ⟨rfl,rfl,rfl,rfl,by rw[AW.av];omega,λd hd=>AW.aG _ _ (by omega),dG,none,AW.aL _ _,.inl ⟨rfl,rfl,rfl⟩,λB hB=>by cases hB⟩ ?_ ?_ ?_
  ·rintro k R U hk ⟨r1,r2,r6,r7,hn,hg,u,bo,gb,hL,hB⟩;unfold xP;have t1:decide ((k:Int)<(v.ax.length:Int))=true:=cd;have t2:=λW'=>bc W' k 1
   have e3:((k+1:Nat):Int)=(k:Int)+1:=by omega
   have l6:bu (.pointer (some ⟨V1.next,6,none⟩)) U=some (u,U):=aP (ao gb) rfl;have hL':g9 (U.add (.cells (Cx n1V))) 1 Cx u (List.replicate k n1V) bo:=hL.keep (by rw[AW.av];omega) λB hB=>AW.aG _ _ (by have:=hL.lt hB;omega)
   obtain⟨u',U2,k1,k2,k3,k4⟩:=hL'.push ajh Lq Qi (a:=n1V) (b:=U.next) (c:=1) bC (by rw[mh];omega) (by rw[mh];omega);have k1':dB Tryz.prog (U.add (.cells [dG])) #[32,32] u (.slice (some ⟨U.next,0,none⟩) 1 1)=some (u',U2):=k1;rw[AW.av]at k2 k3 k4;have keep:∀d,d<=V1.next->U2.get d=U.get d:=λd hd=>(k4 d (by omega) (λe=>by have:=hB d e;omega)).trans (AW.aG _ _ (by omega))
   have gb2:U2.get V1.next=some (.cells (eT (rk v) sv (oa V.next (bG v.ax).toNat) u)):=(keep _ (aR _)).trans gb;have su:Mx u':=by
    rcases k2 with⟨-,rfl,-⟩|⟨-,B,-,-,rfl,-⟩
    ·exact aaR
    ·exact .inl ⟨_,_,_,rfl⟩
   have s6:fm 1 (.pointer (some ⟨V1.next,6,none⟩)) u' U2=some (ak,U2.put V1.next (.cells (eT (rk v) sv (oa V.next (bG v.ax).toNat) u'))):=by rcases su with⟨b,l,c,rfl⟩|⟨l,c,rfl⟩<;>(rw[jh,cT gb2];rfl)
   simp only[SX,r1,r6,r7,aI,l3 U ((hg _ (by omega)).trans (q1 _ (by omega))),Row.len hs.1 zg,t1,l6,aia aaR,k1',s6,t2,af];refine .inl ⟨aj,r1,r2,r6,by rw[e3];rfl,by rw[AW.bH];omega,λd hd=>(AW.ay _ _ (by omega)).trans ((keep d (by omega)).trans (hg d hd)),u',some (U.next+1),AW.aW _ _ _,?_,λB hB=>by injection hB with hB;omega⟩;rw[List.replicate_succ'];exact k2.keep (by rw[AW.bH];omega) λB hB=>by injection hB with hB;exact AW.ay _ _ (by omega)
  ·rintro R U ⟨r1,r2,r6,r7,hn,hg,u,bo,gb,hL,hB⟩;unfold xP;have t1:decide ((v.ax.length:Int)<(v.ax.length:Int))=false:=bS;simp only[SX,r1,r7,aI,l3 U ((hg _ (by omega)).trans (q1 _ (by omega))),Row.len hs.1 zg,t1,af];exact⟨by simp,aj,r2,r6,hn,hg,u,bo,gb,hL,hB⟩
  ·rintro⟨e,R,U⟩ ⟨rfl,r2,r6,hn,hg,u,bo,gb,hL,hB⟩;have r2':R 2=ba (W.next+1):=r2;have r6':R 6=ba V1.next:=r6;simp only at hn hg gb hL;have l7:dF 7 (ba V1.next) U=some (ky (rk v) sv (oa V.next (bG v.ax).toNat) u,U):=bz (ao gb) rfl;obtain⟨V3,p1,p2,p3,p4⟩:=aeK (W:=U) (b:=W.next+1) (x:=rk v) (sv:=sv) (sq:=oa V.next (bG v.ax).toNat) (qq:=u) (e:=.ae 0) h1 rfl (afx hL) (((hg _ (by omega)).trans (q1 _ (by omega))).trans g1);simp only[SX,r2',r6',l7,p1,p2,af];have BU:Le W V3:=⟨by omega,λd hd=>(p4 d (by omega)).trans ((hg d (by omega)).trans ((q1 d (by omega)).trans (aM.get d hd)))⟩;refine⟨_,rfl,BU,λX hn2 hu=>?_⟩;have hL3:g9 X 1 Cx u (List.replicate v.ax.length n1V) bo:=hL.keep (by omega) λB Tr=>(hu B (.inr (by have:=hB B Tr;omega)) (by have:=hL.lt Tr;omega)).trans (p4 B (by have:=hB B Tr;omega))
   exact⟨sv,_,_,rfl,GZ,adn (by omega) ((hu _ (.inr (by omega)) (by omega)).trans ((p4 _ (by omega)).trans ((hg _ (by omega)).trans gs))),ajp hL3⟩
 obtain⟨⟨u,V⟩,k1,w,rfl,k2,k3⟩:=jL;have rJ:=OI k1;unfold OG at rJ;unfold gc at rJ;by_cases hp:(bN (.tuple #[w,.ae 0])&& !Yq (.tuple #[w,.ae 0]))=true/\Le W V
 ·exfalso;obtain⟨Wl,sq',qq',rfl,m1,m2,m3⟩:=k3.at;obtain⟨-,a,c,rfl,-,h4⟩:=m1;obtain⟨b,o,rfl⟩:=h4 (λe=>by have:=(cF he).2.2.1;rw[show(rk v).v.ax=v.ax from rfl]at e;rw[e]at this;exact absurd this (by simp));simp[bN,eI,cC]at hp
 ·rw[aq hp]at rJ;exact⟨_,V,rJ,k2,k3⟩
def kA(l:List kU)(y:Int):kU:=l.getD (y-1).toNat Z5
def vR(l:List kU)(os:List Int)(i:Nat):Int:=if os.getD i 0<1\/(l.length:Int)<os.getD i 0 then 4 else if os.getD i 0∈os.take i then 8 else 0
def Pk2(l:List kU)(os:List Int):Prop:=∃j,j<l.length/\0<=(l.getD j Z5).to/\¬((j:Int)+1)∈os
def Tm(l:List kU)(os:List Int)(i:Nat):Prop:=∃k,i<k/\k<os.length/\KJ (kA l (os.getD k 0)) (kA l (os.getD i 0))=true
inductive Tt (l:List kU) (os:List Int):Int->Int->Prop
 |one {i:Nat} (hi:i<os.length) (h1:∀j,j<i->vR l os j=0) (h2:vR l os i≠0):Tt l os i (vR l os i)
 |two (h1:∀j,j<os.length->vR l os j=0) (h2:Pk2 l os):Tt l os os.length 10
 |three {i:Nat} (h1:∀j,j<os.length->vR l os j=0) (h2:¬Pk2 l os) (hi:i<os.length) (h3:∀j,j<i->¬Tm l os j) (h4:Tm l os i):Tt l os i 9
 |tZ (h1:∀j,j<os.length->vR l os j=0) (h2:¬Pk2 l os) (h3:∀j,j<os.length->¬Tm l os j):Tt l os 0 0
def Kx{p:Nat->Prop}{i j:Nat}(h1:∀k,k<i->¬p k)(h2:p i)(h3:∀k,k<j->¬p k)(h4:p j):i=j:=by
 rcases Nat.lt_trichotomy i j with h|h|h
 ·exact absurd h2 (h3 i h)
 ·exact h
 ·exact absurd h4 (h1 j h)
def Tt.I7{l:List kU}{os:List Int}{a e a' e':Int}(h:Tt l os a e)(h':Tt l os a' e'):a=a'/\e=e':=by
 cases h with
 |one hi h1 h2=>
  cases h' with
  |one sf Gb Ft=>have:=Kx (p:=λi=>vR l os i≠0) (λk hk hn=>hn (h1 k hk)) h2 (λk hk hn=>hn (Gb k hk)) Ft;subst this;exact⟨rfl,rfl⟩
  |two k1 _=>exact absurd (k1 _ hi) h2
  |three k1 _ _ _ _=>exact absurd (k1 _ hi) h2
  |tZ k1 _ _=>exact absurd (k1 _ hi) h2
 |two h1 h2=>
  cases h' with
  |one sf Gb Ft=>exact absurd (h1 _ sf) Ft
  |two _ _=>exact⟨rfl,rfl⟩
  |three _ k2 _ _ _=>exact absurd h2 k2
  |tZ _ k2 _=>exact absurd h2 k2
 |three h1 h2 hi h3 h4=>
  cases h' with
  |one sf Gb Ft=>exact absurd (h1 _ sf) Ft
  |two _ k2=>exact absurd k2 h2
  |three _ _ sf h3' h4'=>have:=Kx (p:=Tm l os) h3 h4 h3' h4';subst this;exact⟨rfl,rfl⟩
  |tZ _ _ k3=>exact absurd h4 (k3 _ hi)
 |tZ h1 h2 h3=>
  cases h' with
  |one sf Gb Ft=>exact absurd (h1 _ sf) Ft
  |two _ k2=>exact absurd k2 h2
  |three _ _ sf _ h4'=>exact absurd h4' (h3 _ sf)
  |tZ _ _ _=>exact⟨rfl,rfl⟩
def Tt.zero{l:List kU}{os:List Int}{a:Int}(h:Tt l os a 0):a=0/\(∀j,j<os.length->vR l os j=0)/\¬Pk2 l os/\(∀j,j<os.length->¬Tm l os j):=by
 generalize he:(0:Int)=e at h;cases h with
 |one hi h1 h2=>exact absurd he.symm h2
 |two h1 h2=>exact absurd he (by decide)
 |three h1 h2 hi h3 h4=>exact absurd he (by decide)
 |tZ h1 h2 h3=>exact⟨rfl,h1,h2,h3⟩
def Fs{l:List kU}{os:List Int}{i:Nat}(h:vR l os i=0):1<=os.getD i 0/\os.getD i 0<=l.length/\(os.getD i 0-1).toNat<l.length:=by
 unfold vR at h;split at h
 ·omega
 ·omega
noncomputable def HO(v:ge)(l:List kU)(os:List Int):Nat->cS
 |0=>rk v
 |k+1=>(wm (HO v l os k) (kA l (os.getD k 0)).op).1
def vh(v:ge)(l:List kU)(os:List Int)(k:Nat):Prop:=0<=(kA l (os.getD k 0)).to/\(wm (HO v l os k) (kA l (os.getD k 0)).op).2.1≠(kA l (os.getD k 0)).rp
inductive Qc (v:ge) (l:List gD) (os:List Int):cS->Int->Int->Prop
 |GJ {a e:Int} (h:LI (dn v).2 l a e) (he:e≠0):Qc v l os Fb 0 e
 |N3 {s:TL} (h:LI (dn v).2 l 0 0) (hs:yo l l.length s) (hl:400<os.length):Qc v l os Fb 0 3
 |pick {s:TL} {a e:Int} (h:LI (dn v).2 l 0 0) (hs:yo l l.length s) (hl:os.length<=400) (hp:Tt s.ops os a e) (he:e≠0):Qc v l os Fb a e
 |Od {s:TL} {k:Nat} (h:LI (dn v).2 l 0 0) (hs:yo l l.length s) (hl:os.length<=400) (hp:Tt s.ops os 0 0) (hk:k<os.length) (h1:∀j,j<k->¬vh v s.ops os j) (h2:vh v s.ops os k):Qc v l os Fb k 6
 |tZ {s:TL} (h:LI (dn v).2 l 0 0) (hs:yo l l.length s) (hl:os.length<=400) (hp:Tt s.ops os 0 0) (h1:∀j,j<os.length->¬vh v s.ops os j):Qc v l os (HO v s.ops os os.length) 0 0
def Qc.I7{v:ge}{l:List gD}{os:List Int}{x y:cS}{a e a' e':Int}(h:Qc v l os x a e)(h':Qc v l os y a' e'):x=y/\a=a'/\e=e':=by
 have key:∀{a e:Int},LI (dn v).2 l 0 0->LI (dn v).2 l a e->e≠0->False:=λh1 h2 h3=>h3 (h1.I7 h2).2.symm
 cases h with
 |GJ h he=>
  cases h' with
  |GJ h' Z1=>exact⟨rfl,rfl,(h.I7 h').2⟩
  |N3 h' _ _=>exact(key h' h he).elim
  |pick h' _ _ _ _=>exact(key h' h he).elim
  |Od h' _ _ _ _ _ _=>exact(key h' h he).elim
  |tZ h' _ _ _ _=>exact(key h' h he).elim
 |N3 h hs hl=>
  cases h' with
  |GJ h' Z1=>exact(key h h' Z1).elim
  |N3 _ _ _=>exact⟨rfl,rfl,rfl⟩
  |pick _ _ Cy _ _=>omega
  |Od _ _ Cy _ _ _ _=>omega
  |tZ _ _ Cy _ _=>omega
 |pick h hs hl hp he=>
  cases h' with
  |GJ h' Z1=>exact(key h h' Z1).elim
  |N3 _ _ Cy=>omega
  |pick _ Gc _ Dc _=>rw[hs.I7 Gc]at Dc;exact⟨rfl,hp.I7 Dc⟩
  |Od _ Gc _ Dc _ _ _=>rw[hs.I7 Gc]at Dc;exact absurd (hp.I7 Dc).2 he
  |tZ _ Gc _ Dc _=>rw[hs.I7 Gc]at Dc;exact absurd (hp.I7 Dc).2 he
 |Od h hs hl hp hk h1 h2=>
  cases h' with
  |GJ h' Z1=>exact(key h h' Z1).elim
  |N3 _ _ Cy=>omega
  |pick _ Gc _ Dc Z1=>rw[hs.I7 Gc]at Dc;exact absurd (Dc.I7 hp).2 Z1
  |Od _ Gc _ _ ya Gb Ft=>rw[hs.I7 Gc]at Gb Ft;have:=Kx h1 h2 Gb Ft;subst this;exact⟨rfl,rfl,rfl⟩
  |tZ _ Gc _ _ Gb=>rw[hs.I7 Gc]at Gb;exact absurd h2 (Gb _ hk)
 |tZ h hs hl hp h1=>
  cases h' with
  |GJ h' Z1=>exact(key h h' Z1).elim
  |N3 _ _ Cy=>omega
  |pick _ Gc _ Dc Z1=>rw[hs.I7 Gc]at Dc;exact absurd (Dc.I7 hp).2 Z1
  |Od _ Gc _ _ ya Gb Ft=>rw[hs.I7 Gc]at Ft;exact absurd Ft (h1 _ ya)
  |tZ _ Gc _ _ _=>rw[hs.I7 Gc];exact⟨rfl,rfl,rfl⟩
def xK{os:List Int}{i:Nat}{x:Int}(hi:i<=os.length):x∈os.take i<->∃j,j<i/\os.getD j 0=x:=by
 constructor
 ·intro h;obtain⟨j,hj,rfl⟩:=Br.1 h;exact⟨j,by omega,by simp[List.getD,bJ (show j<os.length by omega)]⟩
 ·rintro⟨j,hj,rfl⟩;exact Br.2 ⟨j,by omega,by simp[List.getD,bJ (show j<os.length by omega)]⟩
def EJ{os:List Int}{i:Nat}(hi:i<os.length):os.getD i 0=os[i]:=by simp[List.getD,hi]
def aaV{os:List Int}{x:Int}:x∈os<->∃j,j<os.length/\os.getD j 0=x:=by have:=xK (os:=os) (i:=os.length) (x:=x) (aR _);rwa [cO]at this
section
variable {W:AW} {lv ov:ad} {l:List kU} {os:List Int}
def G9.ln(h:G9 W lv l)(U:AW):aZ Tryz.prog .len #[78] 3 #[false] [lv] U=some (.ae (l.length:Int),U):=Row.len h MU U 3 #[false]
def dR.ln(h:dR W ov os)(U:AW):aZ Tryz.prog .len #[28] 3 #[false] [ov] U=some (.ae (os.length:Int),U):=Row.len h NJ U 3 #[false]
def dR.gd(h:dR W ov os){i:Nat}(hi:i<os.length):∃p,(∀W' k,nY 1 ov (.int k (i:Int)) W'=some (p,W'))/\bu p W=some (.ae (os.getD i 0),W):=by obtain⟨p,h1,h2⟩:=dR.get h hi;exact⟨p,h1,by rw[EJ hi];exact h2 W (.refl _)⟩
def G9.at(h:G9 W lv l){y:Int}(h1:1<=y)(h2:y<=l.length):∃b o,(∀W',nY 25 lv (.ae (y-1)) W'=some (.pointer (some ⟨b,o,none⟩),W'))/\b<W.next/\∀W',W'.get b=W.get b->dF 25 (.pointer (some ⟨b,o,none⟩)) W'=some (GQ (kA l y),W'):=by
 have hi:(y-1).toNat<l.length:=by omega
 obtain⟨b,o,k1,k2,k3⟩:=G9.get h hi;refine⟨b,o,λW'=>?_,k2,λW' hW=>?_⟩
 ·have:=k1 W' .i64;rwa [show(((y-1).toNat:Nat):Int)=y-1 by omega]at this
 ·have:=(k3 W' hW).1;have e:kA l y=l[(y-1).toNat]:=by unfold kA;rw[pi,bJ hi];rfl
  rw[e];exact this
def G9.to_(h:G9 W lv l){i:Nat}(hi:i<l.length):∃b o,(∀W',nY 25 lv (.ae (i:Int)) W'=some (.pointer (some ⟨b,o,none⟩),W'))/\bu (.pointer (some ⟨b,o+3,none⟩)) W=some (.ae (l.getD i Z5).to,W):=by
 obtain⟨b,o,k1,k2,k3⟩:=G9.get h hi;refine⟨b,o,λW'=>k1 W' .i64,?_⟩;have:=(k3 W rfl).2.2.2.2;have e:l.getD i Z5=l[i]:=by simp[List.getD,hi]
 rw[e];exact this
def ady(hl:G9 W lv l)(ho:dR W ov os)(Yg:l.length<=1000)(P9:os.length<=1000):
 ∃a e:Int,Tt l os a e/\aY (.func (.func 28) #[] #[]) [lv,ov] W=some (.tuple #[.ae a,.ae e],W):=by
 have jL:Ok (zf aY lv ov W) λr=>∃a e:Int,Tt l os a e/\r.1=.tuple #[.ae a,.ae e]/\r.2=W:=by
  unfold zf;refine a8 os.length (by omega) (λi R U=>W=U/\R 0=lv/\R 1=ov/\R 6=.ae (i:Int)/\∀j,j<i->vR l os j=0)
   (λr=>r.2.2=W/\((r.1=.exit 0/\r.2.1 0=lv/\r.2.1 1=ov/\∀j,j<os.length->vR l os j=0)\/(r.1=.ret/\∃i,i<os.length/\(∀j,j<i->vR l os j=0)/\vR l os i≠0/\r.2.1 4=.ae (i:Int)/\r.2.1 5=.ae (vR l os i)))) ⟨rfl,rfl,rfl,rfl,λj hj=>by omega⟩ ?_ ?_ ?_
  ·rintro i R _ hi ⟨rfl,r0,r1,r6,hz⟩;unfold tJ;have t1:decide ((i:Int)<(os.length:Int))=true:=cd;have t2:=λW'=>bc W' i 1
   have e3:((i+1:Nat):Int)=(i:Int)+1:=by omega
   obtain⟨p,p1,p2⟩:=dR.gd ho hi;simp only[SX,r0,r1,r6,dR.ln ho,t1,p1,p2];by_cases c1:os.getD i 0<1
   ·have e4:vR l os i=4:=by unfold vR;rw[an (.inl c1)]
    have d:=aK c1;simp only[SX,d,af];exact .inr ⟨by simp,aj,.inr ⟨aj,i,hi,hz,by rw[e4];decide,rfl,by rw[e4];rfl⟩⟩
   have d1:=aJ c1;by_cases c2:(l.length:Int)<os.getD i 0
   ·have e4:vR l os i=4:=by unfold vR;rw[an (.inr c2)]
    have d:=aK c2;simp only[SX,d1,hl.ln,d,af];exact .inr ⟨by simp,aj,.inr ⟨aj,i,hi,hz,by rw[e4];decide,rfl,by rw[e4];rfl⟩⟩
   have d2:=aJ c2;simp only[SX,d1,hl.ln,d2];refine a8 i (by omega) (λk R' U=>W=U/\R' 0=lv/\R' 1=ov/\R' 6=.ae (i:Int)/\R' 7=.ae (os.getD i 0)/\R' 8=.ae (k:Int)/\∀j,j<k->os.getD j 0≠os.getD i 0)
    (λr=>r.2.2=W/\((r.1=.exit 2/\r.2.1 0=lv/\r.2.1 1=ov/\r.2.1 6=.ae (i:Int)/\∀j,j<i->os.getD j 0≠os.getD i 0)\/(r.1=.ret/\vR l os i=8/\r.2.1 4=.ae (i:Int)/\r.2.1 5=.ae 8))) ⟨rfl,r0,r1,r6,rfl,rfl,λj hj=>by omega⟩ ?_ ?_ ?_
   ·rintro k R' _ hk ⟨rfl,r0,r1,r6,r7,r8,fe⟩;unfold oT;have u1:decide ((k:Int)<(i:Int))=true:=cd;have u2:=λW'=>bc W' k 1
    obtain⟨q,q1,q2⟩:=dR.gd ho (show k<os.length by omega);by_cases c3:os.getD k 0=os.getD i 0
    ·have d:=aK c3;have e4:vR l os i=8:=by unfold vR;rw[bL,an ((xK (by omega)).2 ⟨k,hk,c3⟩)]
     simp only[SX,r1,r6,r7,r8,u1,q1,q2,d,af];exact .inr ⟨by simp,aj,.inr ⟨aj,e4,rfl,rfl⟩⟩
    ·have d:=aJ c3;simp only[SX,r1,r6,r7,r8,u1,q1,q2,d,u2,af];refine .inl ⟨aj,aj,r0,r1,r6,r7,by rw[show((k+1:Nat):Int)=(k:Int)+1 by omega];rfl,λj hj=>?_⟩;by_cases e:j=k
     ·subst e;exact c3
     ·exact fe j (by omega)
   ·rintro R' _ ⟨rfl,r0,r1,r6,r7,r8,fe⟩;unfold oT;have u1:decide ((i:Int)<(i:Int))=false:=bS;simp only[SX,r6,r8,u1,af];exact⟨by simp,aj,.inl ⟨aj,r0,r1,r6,fe⟩⟩
   ·rintro⟨e,R',U⟩ ⟨hU,⟨rfl,q0,q1,q6,fe⟩|⟨rfl,e4,q4,q5⟩⟩
    ·have hU:U=W:=hU;have q6':R' 6=.ae (i:Int):=q6;simp only[SX,q6',t2,af];refine .inl ⟨aj,hU.symm,q0,q1,by rw[e3];rfl,λj hj=>?_⟩;by_cases e:j=i
     ·subst e;unfold vR;rw[bL,aq (λh=>by obtain⟨k,h1,h2⟩:=(xK (by omega)).1 h;exact fe k h1 h2)]
     ·exact hz j (by omega)
    ·have hU:U=W:=hU;simp only[SX,af];exact .inr ⟨by simp,hU,.inr ⟨aj,i,hi,hz,by rw[e4];decide,q4,by rw[e4];exact q5⟩⟩
  ·rintro R _ ⟨rfl,r0,r1,r6,hz⟩;unfold tJ;have t1:decide ((os.length:Int)<(os.length:Int))=false:=bS;simp only[SX,r1,r6,dR.ln ho,t1,af];exact⟨by simp,aj,.inl ⟨aj,r0,r1,hz⟩⟩
  rintro⟨e,R,U⟩ ⟨hU,⟨rfl,r0,r1,hz⟩|⟨rfl,i,hi,h1,h2,r4,r5⟩⟩;case inr=>have hU:U=W:=hU;have r4':R 4=.ae (i:Int):=r4;have r5':R 5=.ae (vR l os i):=r5;simp only[SX,r4',r5',af];exact⟨_,_,.one hi h1 h2,rfl,hU⟩
  have hU:U=W:=hU;subst hU;simp only[SX];refine a8 l.length (by omega) (λn R U'=>U=U'/\R 0=lv/\R 1=ov/\R 9=.ae (n:Int)/\∀j,j<n->0<=(l.getD j Z5).to->((j:Int)+1)∈os)
   (λr=>r.2.2=U/\((r.1=.exit 4/\r.2.1 0=lv/\r.2.1 1=ov/\¬Pk2 l os)\/(r.1=.ret/\Pk2 l os/\r.2.1 4=.ae (os.length:Int)/\r.2.1 5=.ae 10))) ⟨rfl,r0,r1,rfl,λj hj=>by omega⟩ ?_ ?_ ?_
  ·rintro n R U' hn ⟨hU',r0,r1,r9,yY⟩;subst hU';unfold tT;have t1:decide ((n:Int)<(l.length:Int))=true:=cd;have t2:=λW'=>bc W' n 1
   have e3:((n+1:Nat):Int)=(n:Int)+1:=by omega
   obtain⟨b,o,g1,g2⟩:=hl.to_ hn;simp only[SX,r0,r9,hl.ln,t1,g1,g2];refine a8 os.length (by omega) (λk R' V=>U=V/\R' 0=lv/\R' 1=ov/\R' 9=.ae (n:Int)/\R' 11=.ae (k:Int)/\∃f:Bool,R' 10=.bool f/\(f=true<->(l.getD n Z5).to<0\/∃j,j<k/\os.getD j 0=(n:Int)+1))
    (λr=>r.1=.exit 6/\r.2.2=U/\r.2.1 0=lv/\r.2.1 1=ov/\r.2.1 9=.ae (n:Int)/\∃f:Bool,r.2.1 10=.bool f/\(f=true<->(l.getD n Z5).to<0\/((n:Int)+1)∈os))
    ⟨rfl,r0,r1,r9,rfl,_,rfl,by simp⟩ ?_ ?_ ?_
   ·rintro k R' _ hk ⟨rfl,r0,r1,r9,nZ,f,my,hf⟩;unfold ox;have u1:decide ((k:Int)<(os.length:Int))=true:=cd;have u2:=λW'=>bc W' k 1
    have e5:((k+1:Nat):Int)=(k:Int)+1:=by omega
    obtain⟨q,q1,q2⟩:=dR.gd ho hk;cases f with
    |true=>
     simp only[SX,r1,r9,my,nZ,dR.ln ho,u1,u2,af];refine .inl ⟨aj,aj,r0,r1,r9,by rw[e5];rfl,true,rfl,⟨λ_=>?_,λ_=>rfl⟩⟩;rcases hf.1 rfl with h|⟨j,h1,h2⟩
     ·exact .inl h
     ·exact .inr ⟨j,by omega,h2⟩
    |false=>
     simp only[SX,r1,r9,my,nZ,dR.ln ho,u1,q1,q2,t2,u2,af];refine .inl ⟨aj,aj,r0,r1,r9,by rw[e5];rfl,decide (os.getD k 0=(n:Int)+1),rfl,?_⟩;rw[iA];constructor
     ·intro h;exact .inr ⟨k,by omega,h⟩
     ·rintro(h|⟨j,h1,h2⟩)
      ·exact absurd (hf.2 (.inl h)) (by decide)
      ·by_cases e:j=k
       ·subst e;exact h2
       ·exact absurd (hf.2 (.inr ⟨j,by omega,h2⟩)) (by decide)
   ·rintro R' _ ⟨rfl,r0,r1,r9,nZ,f,my,hf⟩;unfold ox;have u1:decide ((os.length:Int)<(os.length:Int))=false:=bS;simp only[SX,r1,nZ,dR.ln ho,u1,af];exact⟨by simp,aj,aj,r0,r1,r9,f,my,by rw[aaV];exact hf⟩
   ·rintro⟨e,R',V⟩ ⟨rfl,hV,q0,q1,q9,f,YB,hf⟩;have hV:V=U:=hV;have anS:R' 10=.bool f:=YB;have q9':R' 9=.ae (n:Int):=q9;have q1':R' 1=ov:=q1;cases f with
    |true=>
     simp only[SX,q9',anS,t2,af];refine .inl ⟨aj,hV.symm,q0,q1,by rw[e3];rfl,λj hj h=>?_⟩;by_cases e:j=n
     ·subst e;rcases hf.1 rfl with h2|h2
      ·omega
      ·exact h2
     ·exact yY j (by omega) h
    |false=>
     simp only[SX,q1',anS,dR.ln ho,af];refine .inr ⟨by simp,hV,.inr ⟨aj,⟨n,hn,?_,λh=>absurd (hf.2 (.inr h)) (by decide)⟩,rfl,rfl⟩⟩;by_cases h:(l.getD n Z5).to<0
     ·exact absurd (hf.2 (.inl h)) (by decide)
     ·omega
  ·rintro R U' ⟨hU',r0,r1,r9,yY⟩;subst hU';unfold tT;have t1:decide ((l.length:Int)<(l.length:Int))=false:=bS;simp only[SX,r0,r9,hl.ln,t1,af];exact⟨by simp,aj,.inl ⟨aj,r0,r1,λ⟨j,h1,h2,h3⟩=>h3 (yY j h1 h2)⟩⟩
  rintro⟨e,R,U'⟩ ⟨hU',⟨rfl,r0,r1,yY⟩|⟨rfl,h2,r4,r5⟩⟩;case inr=>have hU':U'=U:=hU';have r4':R 4=.ae (os.length:Int):=r4;have r5':R 5=.ae 10:=r5;simp only[SX,r4',r5',af];exact⟨_,_,.two hz h2,rfl,hU'⟩
  have hU':U=U':=Eq.symm hU';subst hU';simp only[SX];refine a8 os.length (by omega) (λi R V=>U=V/\R 0=lv/\R 1=ov/\R 12=.ae (i:Int)/\∀j,j<i->¬Tm l os j)
   (λr=>r.2.2=U/\((r.1=.exit 8/\∀j,j<os.length->¬Tm l os j)\/(r.1=.ret/\∃i,i<os.length/\(∀j,j<i->¬Tm l os j)/\Tm l os i/\r.2.1 4=.ae (i:Int)/\r.2.1 5=.ae 9))) ⟨rfl,r0,r1,rfl,λj hj=>by omega⟩ ?_ ?_ ?_
  ·rintro i R V hi ⟨hV,r0,r1,tU,UC⟩;subst hV;unfold tP;have t1:decide ((i:Int)<(os.length:Int))=true:=cd;have t2:=λW'=>bc W' i 1
   have e3:((i+1:Nat):Int)=(i:Int)+1:=by omega
   obtain⟨p,p1,p2⟩:=dR.gd ho hi;obtain⟨x1,x2,-⟩:=Fs (hz i hi);obtain⟨b,o,g1,g2,g3⟩:=hl.at x1 x2;have s1:=λW'=>tR W' (os.getD i 0) 1
   simp only[SX,r1,tU,dR.ln ho,t1,t2];refine a8 (os.length-(i+1)) (by omega) (λk R' V'=>U=V'/\R' 0=lv/\R' 1=ov/\R' 12=.ae (i:Int)/\R' 13=.ae ((i+1+k:Nat):Int)/\∀j,i<j->j<i+1+k->KJ (kA l (os.getD j 0)) (kA l (os.getD i 0))=false)
    (λr=>r.2.2=U/\((r.1=.exit 10/\r.2.1 0=lv/\r.2.1 1=ov/\r.2.1 12=.ae (i:Int)/\¬Tm l os i)\/(r.1=.ret/\Tm l os i/\r.2.1 4=.ae (i:Int)/\r.2.1 5=.ae 9))) ⟨rfl,r0,r1,tU,by rw[<-e3];rfl,λj h1 h2=>by omega⟩ ?_ ?_ ?_
   ·rintro k R' V' hk ⟨Zo,r0,r1,tU,IY,yW⟩;subst Zo;unfold pc;have hkl:i+1+k<os.length:=by omega
    have u1:decide (((i+1+k:Nat):Int)<(os.length:Int))=true:=cd;have u2:=λW'=>bc W' ((i+1+k:Nat):Int) 1
    obtain⟨q,q1,q2⟩:=dR.gd ho hkl;obtain⟨y1,y2,-⟩:=Fs (hz _ hkl);obtain⟨b',o',h1,h2,h3⟩:=hl.at y1 y2;have s2:=λW'=>tR W' (os.getD (i+1+k) 0) 1
    cases hb:KJ (kA l (os.getD (i+1+k) 0)) (kA l (os.getD i 0))with
    |true=>simp only[SX,r0,r1,tU,IY,dR.ln ho,u1,q1,q2,s2,h1,h3 _ rfl,p1,p2,s1,g1,g3 _ rfl,Ep,hb,af];exact .inr ⟨by simp,aj,.inr ⟨aj,⟨_,by omega,hkl,hb⟩,rfl,rfl⟩⟩
    |false=>
     simp only[SX,r0,r1,tU,IY,dR.ln ho,u1,q1,q2,s2,h1,h3 _ rfl,p1,p2,s1,g1,g3 _ rfl,Ep,hb,u2,af];refine .inl ⟨aj,aj,r0,r1,tU,by rw[show((i+1+(k+1):Nat):Int)=((i+1+k:Nat):Int)+1 by omega];rfl,λj j1 j2=>?_⟩;by_cases e:j=i+1+k
     ·subst e;exact hb
     ·exact yW j j1 (by omega)
   ·rintro R' V' ⟨Zo,r0,r1,tU,IY,yW⟩;subst Zo;unfold pc;have u1:decide (((i+1+(os.length-(i+1)):Nat):Int)<(os.length:Int))=false:=bS;simp only[SX,r1,IY,dR.ln ho,u1,af];refine⟨by simp,aj,.inl ⟨aj,r0,r1,tU,λ⟨k,k1,k2,k3⟩=>?_⟩⟩;rw[yW k k1 (by omega)]at k3;cases k3
   ·rintro⟨e,R',V'⟩ ⟨Zo,⟨rfl,q0,q1,q12,hn⟩|⟨rfl,h3,q4,q5⟩⟩
    ·have Zo:V'=U:=Zo;have auL:R' 12=.ae (i:Int):=q12;simp only[SX,auL,t2,af];refine .inl ⟨aj,Zo.symm,q0,q1,by rw[e3];rfl,λj hj=>?_⟩;by_cases e:j=i
     ·subst e;exact hn
     ·exact UC j (by omega)
    ·have Zo:V'=U:=Zo;simp only[SX,af];exact .inr ⟨by simp,Zo,.inr ⟨aj,i,hi,UC,h3,q4,q5⟩⟩
  ·rintro R V ⟨hV,r0,r1,tU,UC⟩;subst hV;unfold tP;have t1:decide ((os.length:Int)<(os.length:Int))=false:=bS;simp only[SX,r1,tU,dR.ln ho,t1,af];exact⟨by simp,aj,.inl ⟨aj,UC⟩⟩
  ·rintro⟨e,R,V⟩ ⟨hV,⟨rfl,UC⟩|⟨rfl,i,hi,h1,h3,q4,q5⟩⟩
   ·have hV:V=U:=hV;simp only[SX,af];exact⟨_,_,.tZ hz yY UC,rfl,hV⟩
   ·have hV:V=U:=hV;have q4':R 4=.ae (i:Int):=q4;have q5':R 5=.ae 9:=q5;simp only[SX,q4',q5',af];exact⟨_,_,.three hz yY hi h1 h3,rfl,hV⟩
 obtain⟨⟨v,V⟩,k1,a,e,k2,rfl,k3⟩:=jL;have k3:V=W:=k3;subst k3;exact⟨a,e,k2,aQ rfl ⟨_,k1,rfl,.refl _⟩ Kn⟩
end
end Go.Proofs.YtmaoneengdafhaaGreatDoor
namespace Go.Proofs.YtmaoneengdafhaaGreatDoor
open Go Go.Eng
def Gg(o:kU)(W:AW):fm 25 (.pointer (some ⟨W.next,0,none⟩)) (GQ o) (W.add (.cells (gf Z5)))=some (ak,W.add (.cells (gf o))):=by rw[aqi (AW.aL _ _),iD]
def agd(tp:Option Addr)(i:Fn)(a b:Array ad)(W:AW):∃W1,aY (.func (.func 52) #[] #[]) [.pointer tp,.func i a b] W=some (.func (.func 92) #[] #[.pointer (some ⟨W.next,0,none⟩),.pointer (some ⟨W.next+1,0,none⟩)],W1)/\Le W W1/\W1.next=W.next+2/\
 W1.get W.next=some (.cells [.pointer tp])/\W1.get (W.next+1)=some (.cells [.func i a b]):=by
 refine⟨(W.add (.cells [.pointer tp])).add (.cells [.func i a b]),?_,((Le.refl _).add _).add _,by rw[AW.av,AW.av],by rw[AW.aG _ _ (by rw[AW.av];omega),AW.aL],AW.aL _ _⟩;have:kw aY (.pointer tp) (.func i a b) W=some (.func (.func 92) #[] #[.pointer (some ⟨W.next,0,none⟩),.pointer (some ⟨W.next+1,0,none⟩)],(W.add (.cells [.pointer tp])).add (.cells [.func i a b])):=by unfold kw;simp only[SX,zK,AW.av]
 rw[ve this,jx rfl]
def agB{b1 b2 tb:Nat}{isF f ov:ad}{ops:List kU}{W0 W:AW}(hr:G9 W0 ov ops)(hl:ops.length<=1000)(P:kU->Bool)(h1:bu (.pointer (some ⟨b1,0,none⟩)) W=some (.pointer (some ⟨tb,0,none⟩),W))(h5:bu (.pointer (some ⟨tb,5,none⟩)) W=some (ov,W))
 (I:List kU->AW->Prop)(Q:AW->Prop)(hI:I [] W)(hS:∀pre W',I pre W'->Le W0 W'/\bu (.pointer (some ⟨b2,0,none⟩)) W'=some (isF,W'))(hA:∀pre W' cs,I pre W'->I pre (W'.add (.cells cs)))
 (GJ:∀pre o W',I pre W'->aY isF [GQ o] W'=some (.bool (P o),W'))(skip:∀pre o W',pre++[o]<+:ops->I pre W'->P o=false->I (pre++[o]) W')
 (step:∀pre o W',pre++[o]<+:ops->I pre W'->P o=true->∃b W2,aY f [GQ o] W'=some (.bool b,W2)/\(b=true->I (pre++[o]) W2)/\(b=false->Q W2)):
 ∃W2,aY (.func (.func 92) #[] #[.pointer (some ⟨b1,0,none⟩),.pointer (some ⟨b2,0,none⟩)]) [f] W=some (.tuple #[],W2)/\(I ops W2\/Q W2):=by
 have jL:Ok (jq aY f (.pointer (some ⟨b1,0,none⟩)) (.pointer (some ⟨b2,0,none⟩)) W) λr=>r.1=.tuple #[]/\(I ops r.2\/Q r.2):=by
  unfold jq;have l0:=(hS _ _ hI).1;simp only[SX,h1,aS,aI,h5,(hr.mono l0).len MU];refine a8 ops.length (by omega) (λk R V=>R 0=f/\R 2=.pointer (some ⟨b2,0,none⟩)/\R 9=ov/\R 10=.ae (ops.length:Int)/\R 11=.ae (k:Int)/\I (ops.take k) V)
   (λr=>(r.1=.exit 0/\I ops r.2.2)\/(r.1=.ret/\Q r.2.2)) ⟨rfl,rfl,rfl,rfl,rfl,hI⟩ ?_ ?_ ?_
  ·rintro k R V hk ⟨r0,r2,r9,my,nZ,hi⟩;unfold gG;have t1:((k:Int)<(ops.length:Int)):=by omega
   have t2:=λW'=>bc W' k 1
   have e3:((k+1:Nat):Int)=(k:Int)+1:=by omega
   obtain⟨b,o,i1,i2,i3⟩:=G9.get (hr.mono (hS _ _ hi).1) hk;obtain⟨f0,-⟩:=i3 V rfl;have oY:ops.take k++[ops[k]]<+:ops:=by rw[<-iY hk];exact List.take_prefix _ _
   have Lp:ops.take (k+1)=ops.take k++[ops[k]]:=iY hk;rw[Lp];generalize ops[k]=x at f0 oY;have hi2:=hA _ _ (gf x) hi;have g2:dF 25 (.pointer (some ⟨V.next,0,none⟩)) (V.add (.cells (gf x)))=some (GQ x,V.add (.cells (gf x))):=I5 (AW.aL _ _);have k2:=(hS _ _ hi2).2;have hp:=GJ _ x _ hi2;cases hP:P x with
   |false=>rw[hP]at hp;simp only[SX,r0,r2,r9,my,nZ,t1,i1,f0,KA,Gg,k2,g2,hp,t2,af];exact .inl ⟨aj,r0,r2,r9,my,by rw[e3];rfl,skip _ _ _ oY hi2 hP⟩
   |true=>
    rw[hP]at hp;obtain⟨c,W2,s1,s2,s3⟩:=step _ x _ oY hi2 hP;cases c with
    |true=>simp only[SX,r0,r2,r9,my,nZ,t1,i1,f0,KA,Gg,k2,g2,hp,s1,t2,af];exact .inl ⟨aj,r0,r2,r9,my,by rw[e3];rfl,s2 rfl⟩
    |false=>simp only[SX,r0,r2,r9,my,nZ,t1,i1,f0,KA,Gg,k2,g2,hp,s1,af];exact .inr ⟨by simp,.inr ⟨aj,s3 rfl⟩⟩
  ·rintro R V ⟨r0,r2,r9,my,nZ,hi⟩;unfold gG;have t1:¬((ops.length:Int)<(ops.length:Int)):=by omega
   rw[cO]at hi;simp only[SX,my,nZ,t1,af];exact⟨by simp,.inl ⟨aj,hi⟩⟩
  ·rintro⟨x,R,V⟩ hq;rcases hq with⟨rfl,hi⟩|⟨rfl,hq⟩
   ·simp only[SX,af];exact⟨aj,.inl hi⟩
   ·simp only[SX,af];exact⟨aj,.inr hq⟩
 obtain⟨⟨r,W'⟩,h1,h2,h3⟩:=jL;simp only at h2 h3;subst h2;exact⟨W',by rw[tz h1,jx rfl],h3⟩
def TI{b1 b2 tb nt:Nat}{isF ov:ad}{ops:List kU}{W0 W:AW}{R:Nat->ad}{ps:Array Tmp}{ac bd:Code}(hr:G9 W0 ov ops)(hl:ops.length<=1000)(P:kU->Bool)(hp:ps.size=1)
 (h1:bu (.pointer (some ⟨b1,0,none⟩)) (W.add (.loop .ready none R nt ps ac bd))=some (.pointer (some ⟨tb,0,none⟩),W.add (.loop .ready none R nt ps ac bd)))(h5:bu (.pointer (some ⟨tb,5,none⟩)) (W.add (.loop .ready none R nt ps ac bd))=some (ov,W.add (.loop .ready none R nt ps ac bd)))
 (J:List kU->AW->Prop)(Q:X->AW->Prop)(h0:J [] (W.add (.loop .ready none R nt ps ac bd)))
 (hS:∀pre W',J pre W'->Le W0 W'/\bu (.pointer (some ⟨b2,0,none⟩)) W'=some (isF,W'))(hA:∀pre W' cs,J pre W'->W.next<W'.next->J pre (W'.add (.cells cs)))(hP:∀pre W' o,J pre W'->J pre (W'.put W.next o))(hQ:∀x W' o,Q x W'->Q x (W'.put W.next o))
 (GJ:∀pre o W',J pre W'->aY isF [GQ o] W'=some (.bool (P o),W'))(skip:∀pre o W',pre++[o]<+:ops->J pre W'->P o=false->J (pre++[o]) W')
 (d:Nat)(has:∀o W' R',R'=nS ps.toList [GQ o] R->fW Tryz.prog aY false nt ac LT R' W' np=some (.normal,iJ R' (some d) (.pointer (some ⟨W'.next,0,none⟩)),W'.add (.cells (gf o))))
 (step:∀pre o W' b R',R'=iJ (nS ps.toList [GQ o] R) (some d) (.pointer (some ⟨b,0,none⟩))->pre++[o]<+:ops->P o=true->J pre W'->W.next<W'.next->W'.get b=some (.cells (gf o))->W.next<b->b<W'.next->
   Ok (fW Tryz.prog aY false nt bd LT R' W' np) λq=>W'.next<=q.2.2.next/\q.2.2.get W.next=W'.get W.next/\((q.1=.normal/\J (pre++[o]) q.2.2)\/(q.1≠ .normal/\Q q.1 q.2.2))):
 ∃x W2,kX aY (.func (.func 92) #[] #[.pointer (some ⟨b1,0,none⟩),.pointer (some ⟨b2,0,none⟩)]) (.loop .ready none R nt ps ac bd) W=some (x,W2.kill W.next)/\((x=.normal/\J ops W2)\/(x≠ .normal/\Q x W2)):=by
 obtain⟨W2,k1,k2⟩:=agB (f:=.func (.yield W.next) #[] #[]) (W:=W.add (.loop .ready none R nt ps ac bd)) (b2:=b2) (isF:=isF) hr hl P h1 h5
  (λpre W'=>J pre W'/\W.next<W'.next/\W'.get W.next=some (.loop .ready none R nt ps ac bd))
  (λW'=>∃x,x≠ .normal/\Q x W'/\W'.get W.next=some (.loop .done x.jump R nt ps ac bd))
  ⟨h0,by rw[AW.av];omega,AW.aL _ _⟩ (λpre W' h=>hS _ _ h.1)
  (λpre W' cs h=>⟨hA _ _ _ h.1 h.2.1,by rw[AW.av];omega,by rw[AW.aG _ _ (by omega)];exact h.2.2⟩)
  (λpre o W' h=>GJ _ _ _ h.1) (λpre o W' oY h hn=>⟨skip _ _ _ oY h.1 hn,h.2⟩)
  (λpre o W' oY ⟨hJ,mC,dX⟩ afD=>by
    have hJ2:=hP _ _ (.loop .busy none R nt ps ac bd) (hA _ _ (gf o) hJ mC);obtain⟨⟨x,R2,W3⟩,k1,k2,k3,k4⟩:=step pre o _ W'.next _ rfl oY afD hJ2 (by rw[AW.bH,AW.av];omega) (by rw[AW.ay _ _ (by omega)];exact AW.aL _ _) mC (by rw[AW.bH,AW.av];omega);simp only at k1 k2 k3 k4;rw[AW.aW]at k3;have hy:=E8 (P:=Tryz.prog) (args:=[GQ o]) dX (by rw[hp];rfl) (has o W' _ rfl) (by rw[AW.aG _ _ (by omega)];exact dX) k1 k3;have hn3:W.next<W3.next:=by rw[AW.bH,AW.av]at k2;omega
    rcases k4 with⟨rfl,k4⟩|⟨kx,k4⟩
    ·exact⟨true,_,hy,λ_=>⟨hP _ _ _ k4,by rw[AW.bH];exact hn3,AW.aW _ _ _⟩,λh=>by cases h⟩
    ·refine⟨false,W3.put W.next (.loop .done x.jump R nt ps ac bd),?_,λh=>by(cases h),λ_=>⟨x,kx,hQ _ _ _ k4,AW.aW _ _ _⟩⟩;refine hy.trans ?_;cases x with
     |normal=>exact absurd rfl kx
     |exit i=>rfl
     |ret=>rfl)
 rcases k2 with⟨h2,h3,h4⟩|⟨x,h2,h3,h4⟩
 ·exact⟨.normal,W2,wQ k1 h4 (by simp),.inl ⟨rfl,h2⟩⟩
 ·exact⟨x,W2,KV k1 h4,.inr ⟨h2,h3⟩⟩
def aat{b1 b2 tb nt:Nat}{isF ov:ad}{ops:List kU}{W0 W:AW}{R:Nat->ad}{ps:Array Tmp}{ac bd:Code}{ρ:Type}{K:X×AW->Option ρ}{G:ρ->Prop}(hr:G9 W0 ov ops)(hl:ops.length<=1000)(P:kU->Bool)(hp:ps.size=1)
 (h1:bu (.pointer (some ⟨b1,0,none⟩)) (W.add (.loop .ready none R nt ps ac bd))=some (.pointer (some ⟨tb,0,none⟩),W.add (.loop .ready none R nt ps ac bd)))(h5:bu (.pointer (some ⟨tb,5,none⟩)) (W.add (.loop .ready none R nt ps ac bd))=some (ov,W.add (.loop .ready none R nt ps ac bd)))
 (J:List kU->AW->Prop)(Q:X->AW->Prop)(h0:J [] (W.add (.loop .ready none R nt ps ac bd)))
 (hS:∀pre W',J pre W'->Le W0 W'/\bu (.pointer (some ⟨b2,0,none⟩)) W'=some (isF,W'))(hA:∀pre W' cs,J pre W'->W.next<W'.next->J pre (W'.add (.cells cs)))(hP:∀pre W' o,J pre W'->J pre (W'.put W.next o))(hQ:∀x W' o,Q x W'->Q x (W'.put W.next o))
 (GJ:∀pre o W',J pre W'->aY isF [GQ o] W'=some (.bool (P o),W'))(skip:∀pre o W',pre++[o]<+:ops->J pre W'->P o=false->J (pre++[o]) W')
 (d:Nat)(has:∀o W' R',R'=nS ps.toList [GQ o] R->fW Tryz.prog aY false nt ac LT R' W' np=some (.normal,iJ R' (some d) (.pointer (some ⟨W'.next,0,none⟩)),W'.add (.cells (gf o))))
 (step:∀pre o W' b R',R'=iJ (nS ps.toList [GQ o] R) (some d) (.pointer (some ⟨b,0,none⟩))->pre++[o]<+:ops->P o=true->J pre W'->W.next<W'.next->W'.get b=some (.cells (gf o))->W.next<b->b<W'.next->
   Ok (fW Tryz.prog aY false nt bd LT R' W' np) λq=>W'.next<=q.2.2.next/\q.2.2.get W.next=W'.get W.next/\((q.1=.normal/\J (pre++[o]) q.2.2)\/(q.1≠ .normal/\Q q.1 q.2.2)))
 (after:∀x W2,(x=.normal/\J ops W2)\/(x≠ .normal/\Q x W2)->Ok (K (x,W2.kill W.next)) G):
 Ok (eY (kX aY (.func (.func 92) #[] #[.pointer (some ⟨b1,0,none⟩),.pointer (some ⟨b2,0,none⟩)]) (.loop .ready none R nt ps ac bd) W) K) G:=by
 obtain⟨x,W2,k1,k2⟩:=TI hr hl P hp h1 h5 J Q h0 hS hA hP hQ GJ skip d has step;rw[k1,Ee];exact after x W2 k2
def GY(o:kU):Bool:=decide (0<=o.to)
def Wa(o:kU)(W:AW):aY (.func (.func 26) #[] #[]) [GQ o] W=some (.bool (GY o),W):=by refine aQ rfl ?_ Ih;unfold Dk;have x1:(W.add (.cells (gf o))).get W.next=some (.cells (gf o)):=AW.aL _ _;simp only[SX,aI,C2 x1,af];exact⟨rfl,(Le.refl _).add _⟩
def aa9:Tryz.prog.underlying 115=some (.map 3 4):=by kernel_rfl
def tz4:kG Tryz.prog 4=some (.bool false):=by kernel_rfl
def aqX(W:AW):vf Tryz.prog 115 none W=some (.map (some W.next),W.add (.map [] 0)):=rfl
def alM(W:AW):dg Tryz.prog 115 W=some (ba W.next,W.add (.cells [.map none])):=aT (by kernel_rfl) rfl
def alI(W:AW):dg Tryz.prog 3 W=some (ba W.next,W.add (.cells [.ae 0])):=aT (by kernel_rfl) rfl
def alE(W:AW):dg Tryz.prog 35 W=some (ba W.next,W.add (.cells [.ae 0])):=aT (by kernel_rfl) rfl
def oLI(x:ad)(W:AW):iU Tryz.prog 3 x W=bu x W:=by kernel_rfl
def oLE(x:ad)(W:AW):iU Tryz.prog 35 x W=bu x W:=by kernel_rfl
structure Pz (W:AW) (ov:ad) (os:List Int):Prop where
 ints:dR W ov os
 from_:∀k,k<=os.length->∃v',(∀U,eP Tryz.prog 28 ov (some (.ae (k:Int))) none none U=some (v',U))/\dR W v' (os.drop k)
def Pz.mono{W W':AW}{ov:ad}{os:List Int}(h:Pz W ov os)(aM:Le W W'):Pz W' ov os:=⟨h.ints.mono aM,λk hk=>let⟨v,a,b⟩:=h.from_ k hk;⟨v,a,b.mono aM⟩⟩
def stM{W:AW}{b:Nat}{x:ad}{m:Nat}(h:W.get b=some (.cells [x])):fm 1 (ba b) (.map (some m)) W=some (ak,W.put b (.cells [.map (some m)])):=by have:=zx (n:=1) (o:=0) (v:=.map (some m)) h rfl (aR 1) rfl;exact this.trans rfl
def ajJ{W:AW}{b:Nat}{x:ad}{n:Int}(h:W.get b=some (.cells [x])):fm 1 (ba b) (.ae n) W=some (ak,W.put b (.cells [.ae n])):=by rw[xq,cT h];rfl
def pg(os:List Int)(i:Nat):Int->Option ad:=λx=>if x∈os.take i then some (.bool true)else none
def Yj{os:List Int}{i:Nat}(hi:i<os.length):pg os (i+1)=λx=>if x=os.getD i 0 then some (.bool true)else pg os i x:=by
 funext x;unfold pg;rw[iY hi,EJ hi];by_cases e:x=os[i]
 ·rw[an e,an (List.mem_append_right _ (by rw[e];exact ki.2 rfl))]
 ·rw[aq e];by_cases h:x∈os.take i
  ·rw[an h,an (List.mem_append_left _ h)]
  ·rw[aq h,aq (λhm=>(mj.1 hm).elim h λh2=>e (ki.1 h2))]
section
variable {W:AW} {lv ov sv ev pv:ad} {l:List kU} {os:List Int} {tb:Nat} {v:ge}
def ahT{U:AW}{b1 bx:Nat}{x y:Int}(h1:U.get b1=some (.cells [ba tb]))(ht:U.get tb=some (.cells (Xw v sv ev lv pv)))(hx:U.get bx=some (.cells [.ae x]))(hl:G9 U lv l)(Yg:l.length<=1000)(x1:1<=x)(x2:x<=l.length)(y1:1<=y)(y2:y<=l.length):
 aY (.func (.func 53) #[] #[ba b1,ba bx]) [.ae y] U=some (.bool (KJ (kA l y) (kA l x)),U):=by
 refine aQ rfl ?_ qH;unfold kZ;have c1:bu (ba b1) U=some (ba tb,U):=aP (ao h1) rfl;have c2:bu (.pointer (some ⟨tb,5,none⟩)) U=some (lv,U):=aP (ao ht) rfl;have c3:bu (ba bx) U=some (.ae x,U):=aP (ao hx) rfl;have s1:=λW'=>tR W' x 1
 have s2:=λW'=>tR W' y 1
 obtain⟨b,o,g1,g2,g3⟩:=hl.at x1 x2;obtain⟨b',o',k1,k2,k3⟩:=hl.at y1 y2;simp only[SX,c1,aS,aI,c2,s2,k1,k3 _ rfl,c3,s1,g1,g3 _ rfl,OL,af];exact⟨aj,.refl _⟩
structure Cg (W U:AW) (ov:ad) (tb:Nat) (m:Int->Option ad) (a e:Int):Prop where
 le:Le W U
 n:W.next+6<=U.next
 b1:U.get W.next=some (.cells [ba tb])
 b2:U.get (W.next+1)=some (.cells [ov])
 b3:U.get (W.next+2)=some (.cells [.ae a])
 b4:U.get (W.next+3)=some (.cells [.ae e])
 b5:U.get (W.next+5)=some (.cells [.map (some (W.next+4))])
 m:∃n,xn U (W.next+4) m n
def Cg.keep{U U':AW}{m:Int->Option ad}{a e:Int}(h:Cg W U ov tb m a e)(hn:U.next<=U'.next)(hg:∀d,d<W.next+6->U'.get d=U.get d):Cg W U' ov tb m a e:=by have:=h.n;obtain⟨n,hm⟩:=h.m;exact⟨⟨by have:=h.le.next;omega,λd hd=>(hg d (by omega)).trans (h.le.get d hd)⟩,by omega,(hg _ (by omega)).trans h.b1,(hg _ (by omega)).trans h.b2,(hg _ (by omega)).trans h.b3,(hg _ (by omega)).trans h.b4,(hg _ (by omega)).trans h.b5,n,hm.keep (hg _ (by omega))⟩
def Cg.ans{U:AW}{m:Int->Option ad}{a e:Int}(h:Cg W U ov tb m a e)(a' e':Int):∃U1 U2,fm 1 (ba (W.next+2)) (.ae a') U=some (ak,U1)/\fm 1 (ba (W.next+3)) (.ae e') U1=some (ak,U2)/\Cg W U2 ov tb m a' e'/\U2.next=U.next/\∀d,d≠W.next+2->d≠W.next+3->U2.get d=U.get d:=by
 obtain⟨n,hm⟩:=h.m;have hn:=h.n;have g3:(U.put (W.next+2) (.cells [.ae a'])).get (W.next+3)=some (.cells [.ae e]):=(AW.ay _ _ (by omega)).trans h.b4;have k:∀d,d≠W.next+2->d≠W.next+3->((U.put (W.next+2) (.cells [.ae a'])).put (W.next+3) (.cells [.ae e'])).get d=U.get d:=λd h1 h2=>(AW.ay _ _ (bh h2)).trans (AW.ay _ _ (bh h1))
 refine⟨_,_,ajJ h.b3,ajJ g3,⟨⟨h.le.next,λd hd=>(k d (by omega) (by omega)).trans (h.le.get d hd)⟩,hn,(k _ (by omega) (by omega)).trans h.b1,(k _ (by omega) (by omega)).trans h.b2,(AW.ay _ _ (by omega)).trans (AW.aW _ _ _),AW.aW _ _ _,(k _ (by omega) (by omega)).trans h.b5,n,hm.keep (k _ (by omega) (by omega))⟩,rfl,k⟩
def Cg.res{U:AW}{m:Int->Option ad}{a e:Int}(h:Cg W U ov tb m a e):iP Tryz.prog [(ba (W.next+2),some 3),(ba (W.next+3),some 35)] U=some (.tuple #[.ae a,.ae e],U):=by have c1:bu (ba (W.next+2)) U=some (.ae a,U):=aP (ao h.b3) rfl;have c2:bu (ba (W.next+3)) U=some (.ae e,U):=aP (ao h.b4) rfl;rw[AS,oLI,oLE,c1,bM,c2];rfl
end
section
variable {W:AW} {lv ov sv ev pv:ad} {l:List kU} {os:List Int} {tb:Nat} {v:ge}
def Uz(ht:W.get tb=some (.cells (Xw v sv ev lv pv)))(htb:tb<W.next)(hl:G9 W lv l)(ho:Pz W ov os)(Yg:l.length<=800)(P9:os.length<=800)(LM:∀(j:Nat) (o:kU),l[j]? =some o->o.id=(j:Int)+1):
 ∃a e:Int,Tt l os a e/\aY (.func (.func 23) #[] #[]) [ba tb,ov] W=some (.tuple #[.ae a,.ae e],W):=by
 have jL:Ok (iH aY (ba tb) ov W) λr=>∃a e:Int,Tt l os a e/\r.1=.tuple #[.ae a,.ae e]/\Le W r.2:=by
  unfold iH;have hbx:∀U,rD ov U=some (ba U.next,U.add (.cells [ov])):=λU=>by obtain⟨a,c,e,-⟩:=ho.ints;rw[e];exact aT rfl rfl
  obtain⟨V0,hV0⟩:∃V0,V0=(((((W.add (.cells [ba tb])).add (.cells [ov])).add (.cells [.ae 0])).add (.cells [.ae 0])).add (.map [] 0)).add (.cells [.map (some (W.next+4))]):=⟨_,rfl⟩;have s5:=stM (W:=((((((W.add (.cells [ba tb])).add (.cells [ov])).add (.cells [.ae 0])).add (.cells [.ae 0])).add (.map [] 0)).add (.cells [.map none]))) (b:=W.next+5) (x:=.map none) (m:=W.next+4) (AW.aL (((((W.add (.cells [ba tb])).add (.cells [ov])).add (.cells [.ae 0])).add (.cells [.ae 0])).add (.map [] 0)) _);have e5:(((((W.add (.cells [ba tb])).add (.cells [ov])).add (.cells [.ae 0])).add (.cells [.ae 0])).add (.map [] 0)).next=W.next+5:=rfl;rw[<-e5,jy,e5,<-hV0]at s5;have O0:Cg W V0 ov tb (pg os 0) 0 0:=by
   have k:∀d,d<W.next+5->V0.get d=(((((W.add (.cells [ba tb])).add (.cells [ov])).add (.cells [.ae 0])).add (.cells [.ae 0])).add (.map [] 0)).get d:=λd hd=>by rw[hV0];exact AW.aG _ _ (by rw[e5];omega)
   have k4:∀d,d<W.next+4->V0.get d=((((W.add (.cells [ba tb])).add (.cells [ov])).add (.cells [.ae 0])).add (.cells [.ae 0])).get d:=λd hd=>(k d (by omega)).trans (AW.aG _ _ (by simp only[AW.av];omega))
   have k3:∀d,d<W.next+3->V0.get d=(((W.add (.cells [ba tb])).add (.cells [ov])).add (.cells [.ae 0])).get d:=λd hd=>(k4 d (by omega)).trans (AW.aG _ _ (by simp only[AW.av];omega))
   have k2:∀d,d<W.next+2->V0.get d=((W.add (.cells [ba tb])).add (.cells [ov])).get d:=λd hd=>(k3 d (by omega)).trans (AW.aG _ _ (by simp only[AW.av];omega))
   have k1:∀d,d<W.next+1->V0.get d=(W.add (.cells [ba tb])).get d:=λd hd=>(k2 d (by omega)).trans (AW.aG _ _ (by simp only[AW.av];omega))
   refine⟨⟨by rw[hV0];simp only[AW.av];omega,λd hd=>(k1 d (by omega)).trans (AW.aG _ _ (by omega))⟩,by rw[hV0];simp only[AW.av];omega,(k1 _ (by omega)).trans (AW.aL _ _),(k2 _ (by omega)).trans (AW.aL (W.add _) _),(k3 _ (by omega)).trans (AW.aL ((W.add _).add _) _),(k4 _ (by omega)).trans (AW.aL (((W.add _).add _).add _) _),by rw[hV0];exact AW.aL (((((W.add (.cells [ba tb])).add (.cells [ov])).add (.cells [.ae 0])).add (.cells [.ae 0])).add (.map [] 0)) _,0,?_⟩;have e0:pg os 0=λ_=>none:=by funext x;unfold pg;rw[tj,aq (by simp)]
   rw[e0];exact xn.keep (Sb (W:=(((W.add (.cells [ba tb])).add (.cells [ov])).add (.cells [.ae 0])).add (.cells [.ae 0]))) (k (W.next+4) (by omega))
  have adt:∀{U:AW} {m:Int->Option ad} {a e:Int},Cg W U ov tb m a e->bu (ba (W.next+1)) U=some (ov,U):=λh=>aP (ao h.b2) rfl
  have ldT:∀{U:AW} {m:Int->Option ad} {a e:Int},Cg W U ov tb m a e->bu (ba W.next) U=some (ba tb,U):=λh=>aP (ao h.b1) rfl
  have ldL:∀{U:AW} {m:Int->Option ad} {a e:Int},Cg W U ov tb m a e->bu (.pointer (some ⟨tb,5,none⟩)) U=some (lv,U):=λh=>aP (ao ((h.le.get _ htb).trans ht)) rfl
  have ldM:∀{U:AW} {m:Int->Option ad} {a e:Int},Cg W U ov tb m a e->bu (ba (W.next+5)) U=some (.map (some (W.next+4)),U):=λh=>aP (ao h.b5) rfl
  have Nu:=ho.ints;simp only[SX,zK,hbx,alI,alE,aqX,alM,AW.av,gV,Nat.reduceAdd,s5];simp only[SX,adt O0,dR.ln Nu];clear s5 hV0;refine a8 os.length (by omega) (λi R U=>Cg W U ov tb (pg os i) 0 0/\R 2=ba W.next/\R 3=ba (W.next+1)/\R 4=ba (W.next+2)/\R 5=ba (W.next+3)/\R 6=ba (W.next+5)/\R 14=ov/\R 15=.ae (os.length:Int)/\R 16=.ae (i:Int)/\∀j,j<i->vR l os j=0)
   (λr=>r.2.1 4=ba (W.next+2)/\r.2.1 5=ba (W.next+3)/\((r.1=.exit 0/\Cg W r.2.2 ov tb (pg os os.length) 0 0/\r.2.1 2=ba W.next/\r.2.1 3=ba (W.next+1)/\r.2.1 6=ba (W.next+5)/\∀j,j<os.length->vR l os j=0)\/(r.1=.ret/\∃i m,i<os.length/\(∀j,j<i->vR l os j=0)/\vR l os i≠0/\Cg W r.2.2 ov tb m (i:Int) (vR l os i))))
   ⟨O0,rfl,rfl,rfl,rfl,rfl,rfl,rfl,rfl,λj hj=>by omega⟩ ?_ ?_ ?_
  ·rintro i R U hi ⟨hO,r2,r3,r4,r5,r6,Vf,r15,r16,hz⟩;unfold gj;have t1:decide ((i:Int)<(os.length:Int))=true:=cd;have t2:=λW'=>bc W' i 1
   have e3:((i+1:Nat):Int)=(i:Int)+1:=by omega
   obtain⟨p,p1,p2⟩:=dR.gd (Nu.mono hO.le) hi;have bad:∀e,vR l os i=e->e≠0->∃U1 U2,fm 1 (ba (W.next+2)) (.ae (i:Int)) U=some (ak,U1)/\fm 1 (ba (W.next+3)) (.ae e) U1=some (ak,U2)/\Cg W U2 ov tb (pg os i) (i:Int) (vR l os i):=λe he h0=>by obtain⟨U1,U2,k1,k2,k3,-⟩:=hO.ans (i:Int) e;exact⟨U1,U2,k1,k2,by rw[he];exact k3⟩
   simp only[SX,Vf,r15,r16,t1,p1,p2];by_cases c1:os.getD i 0<1
   ·have e4:vR l os i=4:=by unfold vR;rw[an (.inl c1)]
    have d:=aK c1;obtain⟨U1,U2,k1,k2,k3⟩:=bad 4 e4 (by decide);simp only[SX,d,r4,r5,k1,k2,af];exact .inr ⟨by simp,r4,r5,.inr ⟨aj,i,_,hi,hz,by rw[e4];decide,k3⟩⟩
   have d1:=aJ c1;by_cases c2:(l.length:Int)<os.getD i 0
   ·have e4:vR l os i=4:=by unfold vR;rw[an (.inr c2)]
    have d:=aK c2;obtain⟨U1,U2,k1,k2,k3⟩:=bad 4 e4 (by decide);simp only[SX,d1,r2,ldT hO,aS,aI,ldL hO,hl.ln,d,r4,r5,k1,k2,af];exact .inr ⟨by simp,r4,r5,.inr ⟨aj,i,_,hi,hz,by rw[e4];decide,k3⟩⟩
   have d2:=aJ c2;obtain⟨n,hm⟩:=hO.m;have lk:=S5 hm aa9 ty3 tz4 (os.getD i 0);by_cases c3:os.getD i 0∈os.take i
   ·have e4:vR l os i=8:=by unfold vR;rw[bL,an c3]
    have em:(pg os i (os.getD i 0)).getD (.bool false)=.bool true:=by unfold pg;rw[an c3];rfl
    rw[em]at lk;obtain⟨U1,U2,k1,k2,k3⟩:=bad 8 e4 (by decide);simp only[SX,d1,r2,ldT hO,aS,aI,ldL hO,hl.ln,d2,r6,ldM hO,lk,r4,r5,k1,k2,af];exact .inr ⟨by simp,r4,r5,.inr ⟨aj,i,_,hi,hz,by rw[e4];decide,k3⟩⟩
   ·have em:(pg os i (os.getD i 0)).getD (.bool false)=.bool false:=by unfold pg;rw[aq c3];rfl
    rw[em]at lk;obtain⟨es,c,m1,m2⟩:=Qo hm aa9 ty3 (os.getD i 0) (.bool true);have hn6:=hO.n;have hO2:Cg W (U.put (W.next+4) (.map es c)) ov tb (pg os (i+1)) 0 0:=by
     have k:∀d,d≠W.next+4->(U.put (W.next+4) (.map es c)).get d=U.get d:=λd hd=>AW.ay _ _ (bh hd)
     refine⟨⟨hO.le.next,λd hd=>(k d (by omega)).trans (hO.le.get d hd)⟩,hn6,(k _ (by omega)).trans hO.b1,(k _ (by omega)).trans hO.b2,(k _ (by omega)).trans hO.b3,(k _ (by omega)).trans hO.b4,(k _ (by omega)).trans hO.b5,?_⟩;rw[<-Yj hi]at m2;exact⟨_,m2⟩
    simp only[SX,d1,r2,ldT hO,aS,aI,ldL hO,hl.ln,d2,r6,ldM hO,lk,m1,t2,af];refine .inl ⟨aj,hO2,r2,r3,r4,r5,r6,Vf,r15,by rw[e3];rfl,λj hj=>?_⟩;by_cases e:j=i
    ·subst e;unfold vR;rw[bL,aq c3]
    ·exact hz j (by omega)
  ·rintro R U ⟨hO,r2,r3,r4,r5,r6,Vf,r15,r16,hz⟩;unfold gj;have t1:decide ((os.length:Int)<(os.length:Int))=false:=bS;simp only[SX,r15,r16,t1,af];exact⟨by simp,r4,r5,.inl ⟨aj,hO,r2,r3,r6,hz⟩⟩
  rintro⟨e,R,U⟩ ⟨r4,r5,⟨rfl,hO,r2,r3,r6,hz⟩|⟨rfl,i,m,hi,h1,h2,hO⟩⟩;case inr=>have r4':R 4=ba (W.next+2):=r4;have r5':R 5=ba (W.next+3):=r5;have hO':Cg W U ov tb m (i:Int) (vR l os i):=hO;simp only[SX,r4',r5',hO'.res,af];exact⟨_,_,.one hi h1 h2,rfl,hO'.le⟩
  simp only at r2 r3 r4 r5 r6;have hO:Cg W U ov tb (pg os os.length) 0 0:=hO;have hm0:pg os os.length=λx=>if x∈os then some (.bool true)else none:=by funext x;unfold pg;rw[cO]
  obtain⟨V1,s1,s2,s3,s4,s5⟩:=agd (some ⟨tb,0,none⟩) (.func 26) #[] #[] U;have n2:=s2.next;have hUn:=hO.n;have Pg:Cg W V1 ov tb (pg os os.length) 0 0:=hO.keep n2 λd hd=>s2.get d (by omega)
  simp only[SX,r2,ldT hO,s1];refine aat (W0:=W) (b1:=U.next) (b2:=U.next+1) (tb:=tb) (isF:=.func (.func 26) #[] #[]) (ops:=l) hl (by omega) GY rfl (BI ((AW.aG _ _ (by omega)).trans s4) rfl) (BI ((AW.aG _ _ (by omega)).trans ((Pg.le.get _ htb).trans ht)) rfl)
   (λpre V=>V1.next<=V.next/\(∀b,b<V1.next->V.get b=V1.get b)/\∀o∈pre,GY o=true->o.id∈os) (λx V=>x=.ret/\Cg W V ov tb (pg os os.length) (os.length:Int) 10/\Pk2 l os)
   ⟨by rw[AW.av];omega,λb hb=>AW.aG _ _ (by omega),λo h=>by cases h⟩
   (λpre V ⟨g1,g2,_⟩=>⟨⟨by have:=Pg.le.next;omega,λb hb=>(g2 b (by have:=Pg.le.next;omega)).trans (Pg.le.get b hb)⟩,BI ((g2 _ (by omega)).trans s5) rfl⟩)
   (λpre V cs ⟨g1,g2,g3⟩ mC=>⟨by rw[AW.av];omega,λb hb=>(AW.aG _ _ (by omega)).trans (g2 b hb),g3⟩)
   (λpre V o ⟨g1,g2,g3⟩=>⟨by rw[AW.bH];omega,λb hb=>(AW.ay _ _ (by omega)).trans (g2 b hb),g3⟩)
   (λx V o ⟨h1,h2,h3⟩=>⟨h1,h2.keep (by rw[AW.bH];omega) λd hd=>AW.ay _ _ (by omega),h3⟩)
   (λpre o V _=>Wa o V) (λpre o V oY ⟨g1,g2,g3⟩ hn=>⟨g1,g2,λx hx hd=>by
    rcases mj.1 hx with hx|hx
    ·exact g3 x hx hd
    ·rw[ki.1 hx,hn]at hd;cases hd⟩) 9 ?_ ?_ ?_
  ·intro o V R' hR;have r44:R' 44=GQ o:=by rw[hR];rfl
   rw[pp];unfold jT;simp only[SX,KA,r44,Gg];rfl
  ·intro pre o V b R' hR oY afD ⟨g1,g2,g3⟩ mC hb As lA;have r3':R' 3=ba (W.next+1):=by rw[hR];exact r3
   have r4':R' 4=ba (W.next+2):=by rw[hR];exact r4
   have r5':R' 5=ba (W.next+3):=by rw[hR];exact r5
   have r6':R' 6=ba (W.next+5):=by rw[hR];exact r6
   have r9':R' 9=ba b:=by rw[hR];rfl
   clear hR;rw[pu];unfold jX;have hOV:Cg W V ov tb (pg os os.length) 0 0:=Pg.keep g1 λd hd=>g2 d (by omega)
   obtain⟨n,hm⟩:=hOV.m;have lk:=S5 hm aa9 ty3 tz4 o.id;rw[hm0]at lk;by_cases c:o.id∈os
   ·simp only[an c,oL]at lk;simp only[SX,r6',r9',ldM hOV,aI,abN hb,lk,af];refine⟨aR _,aj,.inl ⟨aj,g1,g2,λx hx hd=>?_⟩⟩;rcases mj.1 hx with hx|hx
    ·exact g3 x hx hd
    ·rw[ki.1 hx];exact c
   ·simp only[aq c,Option.getD_none]at lk;obtain⟨U1,U2,k1,k2,k3,k4,k5⟩:=hOV.ans (os.length:Int) 10;simp only[SX,r3',r4',r5',r6',r9',ldM hOV,aI,abN hb,lk,adt hOV,dR.ln Nu,k1,k2,af];refine⟨by omega,k5 _ (by omega) (by omega),.inr ⟨by simp,aj,k3,?_⟩⟩;have pP:=oY.length_le;rw[cD,EW]at pP;have dX:l[pre.length]? =some o:=by obtain⟨t,e⟩:=oY;rw[<-e];simp
    refine⟨pre.length,by omega,?_,?_⟩
    ·rw[pi,dX];unfold GY at afD;simpa using afD
    ·rw[<-LM _ _ dX];exact c
  rintro x V (⟨rfl,q1,q2,q3⟩|⟨hx,rfl,hOV,h2⟩);case inr=>
   have hOK:Cg W (V.kill V1.next) ov tb (pg os os.length) (os.length:Int) 10:=hOV.keep (by rw[AW.eK];omega) λd hd=>AW.dm _ (by omega)
   simp only[SX,r4,r5,hOK.res,af];exact⟨_,_,.two hz h2,rfl,hOK.le⟩
  have yY:¬Pk2 l os:=by
   rintro⟨j,h1,h2,h3⟩;have hj:l[j]? =some (l.getD j Z5):=by rw[pi,bJ h1];rfl
   have:=q3 _ (za hj) (by unfold GY;simpa using h2);rw[LM _ _ hj]at this;exact h3 this
  have hOV:Cg W V ov tb (pg os os.length) 0 0:=Pg.keep q1 λd hd=>q2 d (by omega)
  have hO2:Cg W (V.kill V1.next) ov tb (pg os os.length) 0 0:=hOV.keep (by rw[AW.eK];omega) λd hd=>AW.dm _ (by omega)
  generalize V.kill V1.next=V2 at *;simp only[SX,r3,adt hO2,dR.ln Nu];refine a8 os.length (by omega) (λi R U=>Cg W U ov tb (pg os os.length) 0 0/\R 2=ba W.next/\R 3=ba (W.next+1)/\R 4=ba (W.next+2)/\R 5=ba (W.next+3)/\R 52=ov/\R 53=.ae (os.length:Int)/\R 54=.ae (i:Int)/\∀j,j<i->¬Tm l os j)
   (λr=>r.2.1 4=ba (W.next+2)/\r.2.1 5=ba (W.next+3)/\((r.1=.exit 5/\Cg W r.2.2 ov tb (pg os os.length) 0 0/\∀j,j<os.length->¬Tm l os j)\/(r.1=.ret/\∃i,i<os.length/\(∀j,j<i->¬Tm l os j)/\Tm l os i/\Cg W r.2.2 ov tb (pg os os.length) (i:Int) 9)))
   ⟨hO2,r2,r3,r4,r5,rfl,rfl,rfl,λj hj=>by omega⟩ ?_ ?_ ?_
  ·rintro i R U hi ⟨hO,r2,r3,r4,r5,r52,r53,r54,UC⟩;unfold gv;have t1:decide ((i:Int)<(os.length:Int))=true:=cd;have t2:=λW'=>bc W' i 1
   have e3:((i+1:Nat):Int)=(i:Int)+1:=by omega
   obtain⟨p,p1,p2⟩:=dR.gd (Nu.mono hO.le) hi;obtain⟨x1,x2,-⟩:=Fs (hz i hi);have hUn:=hO.n;have st:=ajJ (W:=U.add (.cells [.ae 0])) (n:=os.getD i 0) (AW.aL U _);rw[jy]at st;obtain⟨U1,To⟩:∃U1,U1=U.add (.cells [.ae (os.getD i 0)]):=⟨_,rfl⟩;have l1:Le U U1:=by rw[To];exact(Le.refl U).add _
   have gx:U1.get U.next=some (.cells [.ae (os.getD i 0)]):=by rw[To];exact AW.aL _ _
   have Pg:Cg W U1 ov tb (pg os os.length) 0 0:=hO.keep l1.next λd hd=>l1.get d (by omega)
   rw[<-To]at st;clear To;obtain⟨v',f1,f2⟩:=ho.from_ (i+1) (by omega);rw[e3]at f1;have dS:(os.drop (i+1)).length<1000:=by rw[mr];omega
   have agv:=NN (W:=U1) (f:=.func (.func 53) #[] #[ba W.next,ba U.next]) (p:=λy=>KJ (kA l y) (kA l (os.getD i 0))) (f2.mono Pg.le) dS (λy hy=>by
    obtain⟨k,hk,rfl⟩:=Iw.1 hy;have:=Fs (hz (k+(i+1)) (by omega));rw[EJ (by omega)]at this;have e2:os[i+1+k]'(by omega)=os[k+(i+1)]'(by omega):=by congr 1;omega
    rw[e2];exact ahT Pg.b1 ((Pg.le.get _ htb).trans ht) gx (hl.mono Pg.le) (by omega) x1 x2 this.1 this.2.1);have aoQ:(os.drop (i+1)).any (λy=>KJ (kA l y) (kA l (os.getD i 0)))=true<->Tm l os i:=by
    rw[xA];constructor
    ·rintro⟨y,hy,hb⟩;obtain⟨k,hk,rfl⟩:=Iw.1 hy;refine⟨i+1+k,by omega,by omega,?_⟩;rw[EJ (by omega)];exact hb
    ·rintro⟨k,k1,k2,hb⟩;refine⟨os.getD k 0,Iw.2 ⟨k-(i+1),by omega,?_⟩,hb⟩;rw[EJ k2];congr 1;omega
   cases hc:(os.drop (i+1)).any (λy=>KJ (kA l y) (kA l (os.getD i 0)))with
   |true=>rw[hc]at agv;obtain⟨U2,U3,k1,k2,k3,-⟩:=Pg.ans (i:Int) 9;simp only[SX,r2,r3,r4,r5,r52,r53,r54,t1,p1,p2,alI,st,adt Pg,t2,f1,agv,k1,k2,af];exact .inr ⟨by simp,r4,r5,.inr ⟨aj,i,hi,UC,aoQ.1 hc,k3⟩⟩
   |false=>
    rw[hc]at agv;simp only[SX,r2,r3,r4,r5,r52,r53,r54,t1,p1,p2,alI,st,adt Pg,t2,f1,agv,af];refine .inl ⟨aj,Pg,r2,r3,r4,r5,r52,r53,by rw[e3];rfl,λj hj=>?_⟩;by_cases e:j=i
    ·subst e;intro h;rw[aoQ.2 h]at hc;cases hc
    ·exact UC j (by omega)
  ·rintro R U ⟨hO,r2,r3,r4,r5,r52,r53,r54,UC⟩;unfold gv;have t1:decide ((os.length:Int)<(os.length:Int))=false:=bS;simp only[SX,r53,r54,t1,af];exact⟨by simp,r4,r5,.inl ⟨aj,hO,UC⟩⟩
  ·rintro⟨e,R,U⟩ ⟨r4,r5,⟨rfl,hO,UC⟩|⟨rfl,i,hi,h1,h3,hO⟩⟩
   ·simp only at r4 r5;have hO:Cg W U ov tb (pg os os.length) 0 0:=hO;obtain⟨U1,U2,k1,k2,k3,-⟩:=hO.ans 0 0;simp only[SX,r4,r5,k1,k2,k3.res,af];exact⟨_,_,.tZ hz yY UC,rfl,k3.le⟩
   ·simp only at r4 r5;have hO:Cg W U ov tb (pg os os.length) (i:Int) 9:=hO;simp only[SX,r4,r5,hO.res,af];exact⟨_,_,.three hz yY hi h1 h3,rfl,hO.le⟩
 obtain⟨⟨v,V⟩,k1,a,e,k2,rfl,k3⟩:=jL;exact⟨a,e,k2,aQ rfl ⟨_,k1,rfl,k3⟩ rN⟩
end
def HI(X:Nat->Prop)(Z U:AW)(val:ad)(x:cS):Prop:=∀U',U.next<=U'.next->(∀b,¬X b->b<U.next->U'.get b=U.get b)->Gi Z U' val x
section
variable {X:Nat->Prop} {Z W U U':AW} {val dQ:ad} {x x':cS}
def HI.at(h:HI X Z U val x):Gi Z U val x:=h U (aR _) λ_ _ _=>rfl
def HI.keep(h:HI X Z U val x)(hn:U.next<=U'.next)(hg:∀b,¬X b->b<U.next->U'.get b=U.get b):HI X Z U' val x:=λV hv F2=>h V (by omega) λb h1 h2=>(F2 b h1 (by omega)).trans (hg b h1 h2)
def HI.mono(h:HI X Z U val x)(aM:Le U U'):HI X Z U' val x:=h.keep aM.next λb _ hb=>aM.get b hb
def HI.put{b:Nat}{c:dH}(h:HI X Z U val x)(hb:X b):HI X Z (U.put b c) val x:=h.keep (aR _) λd hd _=>AW.ay _ _ (λe=>hd (e▸hb))
def HI.ofK(h:MdK Z W U val x)(hX:∀b,X b->(Z.next<=b/\b<W.next)\/U.next<=b):HI X Z U val x:=λV hv hg=>h V hv λb hb lA=>hg b (λhx=>by have:=hX b hx;omega) lA
def HI.ofR{v0:ad}{x0:cS}(h:Xn Z W U v0 x0 val x)(h0:HI X Z W v0 x0)(aM:Le W U)(hX:∀b,X b->(Z.next<=b/\b<W.next)\/U.next<=b):HI X Z U val x:=by
 rcases h with⟨rfl,rfl⟩|h
 ·exact h0.mono aM
 ·exact .ofK h hX
def HI.parts(h:HI X Z U val x):∃sv sq qq,val=ky x sv sq qq/\Eng.one sv=true/\Eng.one sq=true/\Eng.one qq=true:=by obtain⟨sv,sq,qq,e,h1,h2,h3⟩:=h.at;exact⟨sv,sq,qq,e,row_one h1.1,C5 h2,row_one h3⟩
end
def C9(U:AW)(b:Nat)(val:ad):Prop:=∃x sv sq qq,val=ky x sv sq qq/\Eng.one sv=true/\Eng.one sq=true/\Eng.one qq=true/\U.get b=some (.cells (eT x sv sq qq))
section
variable {Z W U U':AW} {val dQ:ad} {x x':cS} {b:Nat}
def C9.ld(h:C9 U b val):dF 7 (ba b) U=some (val,U):=by obtain⟨x,sv,sq,qq,rfl,-,-,-,g⟩:=h;exact bz (ao g) rfl
def C9.keep(h:C9 U b val)(hg:U'.get b=U.get b):C9 U' b val:=by obtain⟨x,sv,sq,qq,e,h1,h2,h3,g⟩:=h;exact⟨x,sv,sq,qq,e,h1,h2,h3,hg.trans g⟩
def C9.put(h:C9 U b val)(hv:∃(x:cS) (sv sq qq:ad),dQ=ky x sv sq qq/\Eng.one sv=true/\Eng.one sq=true/\Eng.one qq=true):∃c,fm 7 (ba b) dQ U=some (ak,U.put b c)/\C9 (U.put b c) b dQ:=by obtain⟨x0,v0,q0,p0,-,-,-,-,g⟩:=h;obtain⟨x,sv,sq,qq,rfl,h1,h2,h3⟩:=hv;exact⟨_,gU (vs:=(eT x sv sq qq).toArray) g rfl rfl (by simp[dz,h1,h2,h3,cI]),x,sv,sq,qq,rfl,h1,h2,h3,AW.aW _ _ _⟩
def C9.zero(W:AW):C9 (W.add (.cells pC)) W.next (ky Fb dG dG dG):=⟨Fb,dG,dG,dG,rfl,rfl,rfl,rfl,AW.aL _ _⟩
def C9.new(U:AW)(hv:∃(x:cS) (sv sq qq:ad),val=ky x sv sq qq/\Eng.one sv=true/\Eng.one sq=true/\Eng.one qq=true):∃c,fm 7 (ba U.next) val (U.add (.cells pC))=some (ak,U.add (.cells c))/\C9 (U.add (.cells c)) U.next val:=by obtain⟨x,sv,sq,qq,rfl,h1,h2,h3⟩:=hv;have s:=gU (W:=U.add (.cells pC)) (b:=U.next) (n:=7) (vs:=(eT x sv sq qq).toArray) (AW.aL _ _) rfl rfl (by simp[dz,h1,h2,h3,cI]);rw[jy]at s;exact⟨_,s,x,sv,sq,qq,rfl,h1,h2,h3,AW.aL _ _⟩
def aaq{a e:Int}(h:C9 U b val):iP Tryz.prog [(ba b,some 34),(.ae a,none),(.ae e,none)] U=some (.tuple #[val,.ae a,.ae e],U):=by rw[acP,EG,h.ld];rfl
end
def WtA(Z W:AW)(v:ge)(l:List gD)(os:List Int)(q:ad)(W':AW):Prop:=∃(val:ad) (x:cS) (a e:Int),Qc v l os x a e/\q=.tuple #[val,.ae a,.ae e]/\Le W W'/\Gi Z W' val x
def Uh(Z W:AW):Gi Z W (ky Fb dG dG dG) Fb:=⟨_,_,_,rfl,⟨⟨none,0,rfl,.inl rfl⟩,none,0,rfl,.inl ⟨aR _,by unfold eJ;omega⟩,λh=>absurd rfl h⟩,⟨none,0,rfl,.inl rfl⟩,⟨none,0,rfl,.inl rfl⟩⟩
def TA{l:List gD}{n:Nat}{s:TL}(h:yo l n s)(EO:∀e∈l,e.op.nw<9223372036854775808)(y:Int):(kA s.ops y).op.nw<9223372036854775808:=by
 unfold kA;rw[pi];cases e:s.ops[(y-1).toNat]? with
 |none=>decide
 |some o=>obtain⟨-,i,x,-,h1,-,-,-,-,h2⟩:=h.inv.ids _ _ e;rw[oL,<-h2];exact EO x (za h1)
def IA{v:ge}{l:List kU}{os:List Int}(he:(dn v).2=0)(hv:v.ax.length<1000)(EO:∀y,(kA l y).op.nw<9223372036854775808):∀k,Bnd (HO v l os k)/\(HO v l os k).v=v
 |0=>by obtain⟨hg,-,-,-,ht,-⟩:=cF he;exact⟨⟨hv,by unfold HO rk;simp;omega,by unfold HO rk;simp;omega,λl hl=>by unfold HO rk at hl;rw[List.eq_of_mem_replicate hl];simp,by unfold HO rk;simp⟩,rfl⟩
 |k+1=>by obtain⟨h1,h2⟩:=IA he hv EO (os:=os) k;obtain⟨h3,h4⟩:=h1.do (kA l (os.getD k 0)).op (EO _);exact⟨h3,h4.trans h2⟩
def acK(U:AW){val:ad}(hv:∃(x:cS) (sv sq qq:ad),val=ky x sv sq qq/\Eng.one sv=true/\Eng.one sq=true/\Eng.one qq=true)(r:mE):
 ∃U4 U5,fm 7 (ba U.next) val ((U.add (.cells pC)).add (.cells (jr gz)))=some (ak,U4)/\fm 9 (ba (U.next+1)) (fX r) U4=some (ak,U5)/\Le U U5/\C9 U5 U.next val/\U5.get (U.next+1)=some (.cells (jr r))/\U5.next=U.next+2:=by
 have h0:C9 ((U.add (.cells pC)).add (.cells (jr gz))) U.next (ky Fb dG dG dG):=(C9.zero U).keep (AW.aG _ _ (by rw[AW.av];omega));obtain⟨c,k1,k2⟩:=h0.put hv;have g1:((U.add (.cells pC)).add (.cells (jr gz))).get (U.next+1)=some (.cells (jr gz)):=AW.aL (U.add (.cells pC)) _;have g2:(((U.add (.cells pC)).add (.cells (jr gz))).put U.next c).get (U.next+1)=some (.cells (jr gz)):=(AW.ay _ _ (by omega)).trans g1;refine⟨_,_,k1,gU (vs:=(jr r).toArray) g2 rfl rfl rfl,((((Le.refl U).add _).add _).put (aR _) _).put (by omega) _,k2.keep (AW.ay _ _ (by omega)),AW.aW _ _ _,rfl⟩
def aaX:∃(x:cS) (sv sq qq:ad),ky Fb dG dG dG=ky x sv sq qq/\Eng.one sv=true/\Eng.one sq=true/\Eng.one qq=true:=⟨_,_,_,_,rfl,rfl,rfl,rfl⟩
section
variable {Z W V:AW} {lv ov sv ev pv:ad} {l:List kU} {os:List Int} {tb b1:Nat} {v:ge} {ρ:Type}
structure WtI (Z V U:AW) (v:ge) (l:List kU) (os:List Int) (b1 k:Nat) (val:ad):Prop where
 le:Le V U
 n:V.next<U.next
 b6:C9 U V.next val
 z1:C9 U b1 (ky Fb dG dG dG)
 md:HI (λb=>b=b1\/b=V.next) Z U val (HO v l os k)
 ok:∀j,j<k->¬vh v l os j
def WtI.next{U U2 U5:AW}{val dQ:ad}{k:Nat}(h:WtI Z V U v l os b1 k val)(aM:Le U U2)(h5:Le U2 U5)(hm:HI (λb=>b=b1\/b=V.next) Z U2 dQ (HO v l os (k+1)))(hk:¬vh v l os k)(As:b1<V.next):
 ∃c,fm 7 (ba V.next) dQ U5=some (ak,U5.put V.next c)/\WtI Z V (U5.put V.next c) v l os b1 (k+1) dQ:=by
 have l5:=aM.trans h5;have hn:=h.n;have n5:=l5.next;obtain⟨Wl,sq',qq',e0,e1,e2,e3⟩:=hm.parts;obtain⟨c,k1,k2⟩:=(h.b6.keep (l5.get _ h.n)).put ⟨_,_,_,_,e0,e1,e2,e3⟩;refine⟨c,k1,(h.le.trans l5).put (aR _) _,by rw[AW.bH];omega,k2,h.z1.keep ((AW.ay _ _ (by omega)).trans (l5.get _ (by omega))),(hm.mono h5).put (.inr rfl),λj hj=>?_⟩;by_cases e:j=k
 ·subst e;exact hk
 ·exact h.ok j (by omega)
def PA{U:AW}{b:Nat}{o:kU}(h:U.get b=some (.cells (gf o))):dF 12 (.pointer (some ⟨b,4,none⟩)) U=some (yc o.op,U)/\dF 9 (.pointer (some ⟨b,16,none⟩)) U=some (fX o.rp,U)/\dF 25 (ba b) U=some (GQ o,U)/\bu (.pointer (some ⟨b,3,none⟩)) U=some (.ae o.to,U):=
 ⟨bz (ao h) rfl,bz (ao h) rfl,I5 h,C2 h⟩
def ahd{U:AW}{b:Nat}{r:mE}(h:U.get b=some (.cells (jr r))):dF 9 (ba b) U=some (fX r,U):=bz (ao h) rfl
def T4{R:ai.Fr}{U:AW}{val:ad}{K:LT->Option ρ}{G:ρ->Prop}(hG:GW V)(hz:Le Z V)(hl:G9 V lv l)(ho:dR V ov os)(ht:V.get tb=some (.cells (Xw v sv ev lv pv)))(htb:tb<V.next)(As:b1<V.next/\Z.next<=b1)(he:(dn v).2=0)(hv:v.ax.length<1000)(Yg:l.length<=1000)(P9:os.length<=1000)
 (hp:∀j,j<os.length->vR l os j=0)(EO:∀y,(kA l y).op.nw<9223372036854775808)(h:WtI Z V U v l os b1 0 val)(r4:R 4=ba b1)(r6:R 6=.ae 0)(r7:R 7=ba tb)(nZ:R 11=ba V.next)(r49:R 49=ov)(r50:R 50=.ae (os.length:Int))(r51:R 51=.ae 0)
 (hK0:∀R' U' dQ,WtI Z V U' v l os b1 os.length dQ->R' 4=ba b1->R' 6=.ae 0->R' 11=ba V.next->Ok (K (.exit 0,R',U')) G)
 (hK1:∀R' U' k,k<os.length->(∀j,j<k->¬vh v l os j)->vh v l os k->Le Z U'->C9 U' b1 (ky Fb dG dG dG)->R' 4=ba b1->R' 5=.ae (k:Int)->R' 6=.ae 6->Ok (K (.ret,R',U')) G):
 Ok (eY (fV (jz aY) R U) K) G:=by
 refine a8 os.length (by omega) (λk R U=>R 4=ba b1/\R 6=.ae 0/\R 7=ba tb/\R 11=ba V.next/\R 49=ov/\R 50=.ae (os.length:Int)/\R 51=.ae (k:Int)/\∃val,WtI Z V U v l os b1 k val)
  (λr=>(r.1=.exit 0/\r.2.1 4=ba b1/\r.2.1 6=.ae 0/\r.2.1 11=ba V.next/\∃val,WtI Z V r.2.2 v l os b1 os.length val)\/(r.1=.ret/\∃k,k<os.length/\(∀j,j<k->¬vh v l os j)/\vh v l os k/\Le Z r.2.2/\C9 r.2.2 b1 (ky Fb dG dG dG)/\r.2.1 4=ba b1/\r.2.1 5=.ae (k:Int)/\r.2.1 6=.ae 6))
  ⟨r4,r6,r7,nZ,r49,r50,r51,val,h⟩ ?_ ?_ ?_
 ·rintro k R U hk ⟨r4,r6,r7,nZ,r49,r50,r51,val,h⟩;unfold jz;have t1:decide ((k:Int)<(os.length:Int))=true:=cd;have t2:=λW'=>bc W' k 1
  have e3:((k+1:Nat):Int)=(k:Int)+1:=by omega
  obtain⟨p,p1,p2⟩:=dR.gd (ho.mono h.le) hk;obtain⟨x1,x2,-⟩:=Fs (hp k hk);obtain⟨b,o,g1,g2,g3⟩:=G9.at (hl.mono h.le) x1 x2;have s1:=λW'=>tR W' (os.getD k 0) 1
  have lt5:bu (.pointer (some ⟨tb,5,none⟩)) U=some (lv,U):=aP (ao ((h.le.get _ htb).trans ht)) rfl;obtain⟨bn,bv⟩:=IA he hv EO (os:=os) k;have ajH:HO v l os (k+1)=(wm (HO v l os k) (kA l (os.getD k 0)).op).1:=rfl;have EZ:vh v l os k<->0<=(kA l (os.getD k 0)).to/\(wm (HO v l os k) (kA l (os.getD k 0)).op).2.1≠(kA l (os.getD k 0)).rp:=Iff.rfl;have aly:=EO (os.getD k 0);generalize kA l (os.getD k 0)=x at *;have l1:Le U (U.add (.cells (gf x))):=(Le.refl U).add _;have gx:(U.add (.cells (gf x))).get U.next=some (.cells (gf x)):=AW.aL _ _;have lA:=Gg x U;have hUn:=h.n;have hVn:=h.le.next;generalize To:U.add (.cells (gf x))=U1 at *;have n1:U1.next=U.next+1:=by rw[<-To];rfl
  have md1:=h.md.mono l1;obtain⟨dQ,U2,d1,d2,d3⟩:=apK (hG.mono (h.le.trans l1)) md1.at (hz.trans (h.le.trans l1)) bn aly;have md2:=HI.ofR d3 md1 d2 (λb hb=>.inl (by have:=hz.next;rcases hb with rfl|rfl<;>omega));rw[<-ajH]at md2;obtain⟨Wl,sq',qq',e0,e1,e2,e4⟩:=md2.parts;obtain⟨U4,U5,k1,k2,k3,k4,k5,k6⟩:=acK U2 (val:=dQ) ⟨_,_,_,_,e0,e1,e2,e4⟩ (wm (HO v l os k) x.op).2.1;have gx5:=(k3.get _ (by have:=d2.next;omega)).trans ((d2.get _ (by omega)).trans gx);obtain⟨o1,o2,o3,o4⟩:=PA gx;obtain⟨q1,q2,q3,q4⟩:=PA gx5;have lv6:=(h.b6.keep (l1.get _ h.n)).ld;have l5:=l1.trans (d2.trans k3);simp only[SX,r7,nZ,r49,r50,r51,t1,p1,p2,aS,aI,lt5,s1,g1,g3 _ rfl,KA,lA,lv6,o1,d1,nO,Cb,AW.av,k1,k2,q3,Wa];cases hd:GY x with
  |false=>
   have nb:¬vh v l os k:=λhb=>by have:=(EZ.1 hb).1;unfold GY at hd;exact absurd this (by simpa using hd)
   obtain⟨c,m1,m2⟩:=h.next (l1.trans d2) k3 md2 nb As.1;simp only[SX,k4.ld,m1,t2,af];exact .inl ⟨aj,r4,r6,r7,nZ,r49,r50,by rw[e3];rfl,dQ,m2⟩
  |true=>
   have h0:0<=x.to:=by unfold GY at hd;simpa using hd
   by_cases hr:(wm (HO v l os k) x.op).2.1=x.rp
   ·have nb:¬vh v l os k:=λhb=>(EZ.1 hb).2 hr
    obtain⟨c,m1,m2⟩:=h.next (l1.trans d2) k3 md2 nb As.1;have e5:∀U,bO Tryz.prog .neq 50 false false (fX (wm (HO v l os k) x.op).2.1) (fX x.rp) U=some (.bool false,U):=λU=>by rw[Nr];simp[hr]
    simp only[SX,ahd k5,q2,e5,k4.ld,m1,t2,af];exact .inl ⟨aj,r4,r6,r7,nZ,r49,r50,by rw[e3];rfl,dQ,m2⟩
   ·have bb:vh v l os k:=EZ.2 ⟨h0,hr⟩;have afH:=h.z1.keep (l5.get _ (by omega));obtain⟨c,m1,m2⟩:=afH.put aaX;have e5:∀U,bO Tryz.prog .neq 50 false false (fX (wm (HO v l os k) x.op).2.1) (fX x.rp) U=some (.bool true,U):=λU=>by rw[Nr];simp[hr]
    simp only[SX,ahd k5,q2,e5,r4,afH.ld,m1,af];refine .inr ⟨by simp,.inr ⟨aj,k,hk,h.ok,bb,(hz.trans (h.le.trans l5)).put As.2 _,m2,r4,rfl,rfl⟩⟩
 ·rintro R U ⟨r4,r6,r7,nZ,r49,r50,r51,val,h⟩;unfold jz;have t1:decide ((os.length:Int)<(os.length:Int))=false:=bS;simp only[SX,r50,r51,t1,af];exact⟨by simp,.inl ⟨aj,r4,r6,nZ,val,h⟩⟩
 ·rintro⟨e,R,U⟩ (⟨rfl,q4,q6,q11,val,h⟩|⟨rfl,k,hk,h1,h2,h3,h4,q4,q5,q6⟩)
  ·exact hK0 R U val h q4 q6 q11
  ·exact hK1 R U k hk h1 h2 h3 h4 q4 q5 q6
end
section
variable {Z W V:AW} {lv ov sv ev pv:ad} {l:List kU} {os:List Int} {tb b1:Nat} {v:ge} {ρ:Type}
def SA{R:ai.Fr}{U:AW}{val:ad}{K:LT->Option ρ}{G:ρ->Prop}(hz:Le Z V)(hl:G9 V lv l)(ho:dR V ov os)(As:b1<V.next/\Z.next<=b1)(he:(dn v).2=0)(hv:v.ax.length<1000)(Yg:l.length<=1000)(P9:os.length<=1000)
 (hp:∀j,j<os.length->vR l os j=0)(EO:∀y,(kA l y).op.nw<9223372036854775808)(h:WtI Z V U v l os b1 0 val)(r1:R 1=ov)(r4:R 4=ba b1)(r7:R 7=lv)(my:R 10=ba V.next)(tU:R 12=.ae 0)
 (hK0:∀R' U' dQ,WtI Z V U' v l os b1 os.length dQ->R' 4=ba b1->R' 10=ba V.next->Ok (K (.exit 0,R',U')) G)
 (hK1:∀R' U' k,k<os.length->(∀j,j<k->¬vh v l os j)->vh v l os k->Le Z U'->C9 U' b1 (ky Fb dG dG dG)->R' 4=ba b1->R' 5=.ae (k:Int)->R' 6=.ae 6->Ok (K (.ret,R',U')) G):
 Ok (eY (fV (lK aY) R U) K) G:=by
 refine a8 os.length (by omega) (λk R U=>R 1=ov/\R 4=ba b1/\R 7=lv/\R 10=ba V.next/\R 12=.ae (k:Int)/\∃val,WtI Z V U v l os b1 k val)
  (λr=>(r.1=.exit 0/\r.2.1 4=ba b1/\r.2.1 10=ba V.next/\∃val,WtI Z V r.2.2 v l os b1 os.length val)\/(r.1=.ret/\∃k,k<os.length/\(∀j,j<k->¬vh v l os j)/\vh v l os k/\Le Z r.2.2/\C9 r.2.2 b1 (ky Fb dG dG dG)/\r.2.1 4=ba b1/\r.2.1 5=.ae (k:Int)/\r.2.1 6=.ae 6))
  ⟨r1,r4,r7,my,tU,val,h⟩ ?_ ?_ ?_
 ·rintro k R U hk ⟨r1,r4,r7,my,tU,val,h⟩;unfold lK;have t1:decide ((k:Int)<(os.length:Int))=true:=cd;have t2:=λW'=>bc W' k 1
  have e3:((k+1:Nat):Int)=(k:Int)+1:=by omega
  obtain⟨p,p1,p2⟩:=dR.gd (ho.mono h.le) hk;obtain⟨x1,x2,-⟩:=Fs (hp k hk);obtain⟨b,o,g1,g2,g3⟩:=G9.at (hl.mono h.le) x1 x2;have s1:=λW'=>tR W' (os.getD k 0) 1
  obtain⟨bn,bv⟩:=IA he hv EO (os:=os) k;have ajH:HO v l os (k+1)=(wm (HO v l os k) (kA l (os.getD k 0)).op).1:=rfl;have EZ:vh v l os k<->0<=(kA l (os.getD k 0)).to/\(wm (HO v l os k) (kA l (os.getD k 0)).op).2.1≠(kA l (os.getD k 0)).rp:=Iff.rfl;have aly:=EO (os.getD k 0);generalize kA l (os.getD k 0)=x at *;have l1:Le U (U.add (.cells (gf x))):=(Le.refl U).add _;have gx:(U.add (.cells (gf x))).get U.next=some (.cells (gf x)):=AW.aL _ _;have lA:=Gg x U;have hUn:=h.n;have hVn:=h.le.next;generalize To:U.add (.cells (gf x))=U1 at *;have n1:U1.next=U.next+1:=by rw[<-To];rfl
  have md1:=h.md.mono l1;obtain⟨dQ,U2,d1,d2,d3⟩:=akG md1.at (hz.trans (h.le.trans l1)) (by rw[bv];exact On he) bn aly;have md2:=HI.ofR d3 md1 d2 (λb hb=>.inl (by have:=hz.next;rcases hb with rfl|rfl<;>omega));rw[<-ajH]at md2;obtain⟨Wl,sq',qq',e0,e1,e2,e4⟩:=md2.parts;obtain⟨U4,U5,k1,k2,k3,k4,k5,k6⟩:=acK U2 (val:=dQ) ⟨_,_,_,_,e0,e1,e2,e4⟩ (wm (HO v l os k) x.op).2.1;have gx5:=(k3.get _ (by have:=d2.next;omega)).trans ((d2.get _ (by omega)).trans gx);obtain⟨o1,o2,o3,o4⟩:=PA gx;obtain⟨q1,q2,q3,q4⟩:=PA gx5;have lv6:=(h.b6.keep (l1.get _ h.n)).ld;have l5:=l1.trans (d2.trans k3);simp only[SX,r1,r7,my,tU,dR.ln (ho.mono h.le),t1,p1,p2,aI,s1,g1,g3 _ rfl,KA,lA,lv6,o1,d1,nO,Cb,AW.av,k1,k2,q4];by_cases hd:0<=x.to;case neg=>
   have nb:¬vh v l os k:=λhb=>hd (EZ.1 hb).1
   have d:=aJ hd;obtain⟨c,m1,m2⟩:=h.next (l1.trans d2) k3 md2 nb As.1;simp only[SX,d,k4.ld,m1,t2,af];exact .inl ⟨aj,r1,r4,r7,my,by rw[e3];rfl,dQ,m2⟩
  have d:=aK hd;by_cases hr:(wm (HO v l os k) x.op).2.1=x.rp
  ·have nb:¬vh v l os k:=λhb=>(EZ.1 hb).2 hr
   obtain⟨c,m1,m2⟩:=h.next (l1.trans d2) k3 md2 nb As.1;have e5:∀U,bO Tryz.prog .neq 50 false false (fX (wm (HO v l os k) x.op).2.1) (fX x.rp) U=some (.bool false,U):=λU=>by rw[Nr];simp[hr]
   simp only[SX,d,ahd k5,q2,e5,k4.ld,m1,t2,af];exact .inl ⟨aj,r1,r4,r7,my,by rw[e3];rfl,dQ,m2⟩
  ·have bb:vh v l os k:=EZ.2 ⟨hd,hr⟩;have afH:=h.z1.keep (l5.get _ (by omega));obtain⟨c,m1,m2⟩:=afH.put aaX;have e5:∀U,bO Tryz.prog .neq 50 false false (fX (wm (HO v l os k) x.op).2.1) (fX x.rp) U=some (.bool true,U):=λU=>by rw[Nr];simp[hr]
   simp only[SX,d,ahd k5,q2,e5,r4,O4,m1,af];exact .inr ⟨by simp,.inr ⟨aj,k,hk,h.ok,bb,(hz.trans (h.le.trans l5)).put As.2 _,m2,r4,rfl,rfl⟩⟩
 ·rintro R U ⟨r1,r4,r7,my,tU,val,h⟩;unfold lK;have t1:decide ((os.length:Int)<(os.length:Int))=false:=bS;simp only[SX,r1,tU,dR.ln (ho.mono h.le),t1,af];exact⟨by simp,.inl ⟨aj,r4,my,val,h⟩⟩
 ·rintro⟨e,R,U⟩ (⟨rfl,q4,YB,val,h⟩|⟨rfl,k,hk,h1,h2,h3,h4,q4,q5,q6⟩)
  ·exact hK0 R U val h q4 YB
  ·exact hK1 R U k hk h1 h2 h3 h4 q4 q5 q6
end
section
variable {W:AW} {v:ge} {sv ev ov:ad} {l:List gD} {os:List Int}
def N9{e0:Int}{l:List gD}{a e:Int}(h:LI e0 l a e)(he:e=0):e0=0:=by
 cases h with
 |Db h1=>exact absurd he h1
 |len=>omega
 |bad h1 h2 h3 h4 h5=>exact absurd he h5
 |ok h1 h2 h3=>exact h1
def FA{U:AW}{b1:Nat}{a e:Int}(hw:Qc v l os Fb a e)(aM:Le W U)(hb:W.next<=b1)(h:C9 U b1 (ky Fb dG dG dG)):
 ∃U2,fm 7 (ba b1) (ky Fb dG dG dG) U=some (ak,U2)/\iP Tryz.prog [(ba b1,some 34),(.ae a,none),(.ae e,none)] U2=some (.tuple #[ky Fb dG dG dG,.ae a,.ae e],U2)/\WtA W W v l os (.tuple #[ky Fb dG dG dG,.ae a,.ae e]) U2:=by
 obtain⟨c,k1,k2⟩:=h.put aaX;exact⟨_,k1,aaq k2,_,_,_,_,hw,rfl,aM.put hb _,Uh _ _⟩
def aja{t o:Option (ad×AW)}(h:Ok t λr=>WtA W W v l os r.1 r.2)(Nq:∀{r},t=some r->o=some (gc W r)):∃q W',o=some (q,W')/\WtA W W v l os q W':=by
 obtain⟨⟨q,U⟩,h1,val,x,a,e,h2,rfl,h3,h4⟩:=h;have hg:=Nq h1;unfold gc at hg;by_cases hp:(bN (.tuple #[val,.ae a,.ae e])&& !Yq (.tuple #[val,.ae a,.ae e]))=true/\Le W U
 ·rw[an hp]at hg;refine⟨_,_,hg,val,x,a,e,h2,rfl,.refl _,?_⟩;obtain⟨Wl,sq',qq',rfl,m1,m2,m3⟩:=h4;have hp1:=hp.1;obtain⟨⟨a1,c1,rfl,k1⟩,k2⟩:=m1;obtain⟨a2,c2,rfl,k3⟩:=m2;obtain⟨a3,c3,rfl,k4⟩:=m3;cases a1 with
  |some a1=>simp[bN,eI,cC]at hp1
  |none=>
  cases a2 with
  |some a2=>simp[bN,eI,cC]at hp1
  |none=>
  cases a3 with
  |some a3=>simp[bN,eI,cC]at hp1
  |none=>
  exact⟨_,_,_,rfl,⟨⟨none,c1,rfl,k1.imp id λ⟨b,o,cs,e,_⟩=>by cases e⟩,k2⟩,⟨none,c2,rfl,k3.imp id λ⟨b,o,cs,e,_⟩=>by cases e⟩,⟨none,c3,rfl,k4.imp id λ⟨b,o,cs,e,_⟩=>by cases e⟩⟩
 ·rw[aq hp]at hg;exact⟨_,_,hg,val,x,a,e,h2,rfl,h3,h4⟩
def Ww(W:AW)(v:ge)(sv ev:ad):∃V1,V1=(W.add (.cells [.ae v.sh,.ae v.cL,.ae v.eO,sv,ev])).add (.cells pC)/\Le W V1/\V1.next=W.next+2/\V1.get W.next=some (.cells [.ae v.sh,.ae v.cL,.ae v.eO,sv,ev])/\C9 V1 (W.next+1) (ky Fb dG dG dG):=
 ⟨_,rfl,((Le.refl W).add _).add _,rfl,(AW.aG _ _ (by rw[AW.av];omega)).trans (AW.aL _ _),by have:=C9.zero (W.add (.cells [.ae v.sh,.ae v.cL,.ae v.eO,sv,ev]));rwa [AW.av]at this⟩
def aj4(hG:GW W)(h:HiA W v sv ev l)(EO:∀e∈l,e.op.nw<9223372036854775808)(ho:Pz W ov os)(P9:os.length<=1000):
 ∃q W',aY (.func (.func 8) #[] #[]) [KY v sv ev,ov] W=some (q,W')/\WtA W W v l os q W':=by
 refine aja ?_ Cu;unfold yp;obtain⟨V1,ko,Xh,n1,g0,z1⟩:=Ww W v sv ev;simp only[SX,nO,AW.av];rw[<-ko];clear ko;have l5:dF 5 (ba W.next) V1=some (KY v sv ev,V1):=bz (ao g0) rfl;obtain⟨q,V2,k1,a,e,p,hA,rfl,JU,hq⟩:=af1 (hG.mono Xh) (h.mono Xh);have z2:=z1.keep (JU.get _ (by omega));have HZ:=Xh.trans JU;rcases hq with⟨he,rfl⟩|⟨rfl,s,tb,lv,pv,hs,rfl,t1,t2,t3,t4,t5⟩
 ·obtain⟨U2,m1,m2,m3⟩:=FA (Qc.GJ (os:=os) hA he) HZ (by omega) z2;have d:=aJ he;simp only[SX,l5,k1,d,z2.ld,m1,m2,af];exact m3
 obtain⟨rfl,hl4,-⟩:=hA.tZ rfl;have d0:decide ((0:Int)=0)=true:=rfl;have Nu:=ho.ints;by_cases abZ:400<os.length
 ·obtain⟨U2,m1,m2,m3⟩:=FA (Qc.N3 hA hs abZ) HZ (by omega) z2;have d:decide ((400:Int)<(os.length:Int))=true:=cd;simp only[SX,l5,k1,dR.ln Nu,d,z2.ld,m1,m2,af];exact m3
 have dl:decide ((400:Int)<(os.length:Int))=false:=bS;have Ti:s.ops.length<=400:=dW hs.inv.opk hl4;obtain⟨pa,pe,hp,k2⟩:=Uz (W:=V2) (os:=os) (ov:=ov) t3 t2 t4 (ho.mono HZ) (by omega) (by omega) (λj o hj=>(hs.inv.ids j o hj).1);by_cases hpe:pe=0;case neg=>obtain⟨U2,m1,m2,m3⟩:=FA (Qc.pick hA hs (by omega) hp hpe) HZ (by omega) z2;have d:=aJ hpe;simp only[SX,l5,k1,dR.ln Nu,dl,k2,d,z2.ld,m1,m2,af];exact m3
 subst hpe;obtain⟨rfl,Ck,yY,UC⟩:=hp.zero;have hve:(dn v).2=0:=N9 hA rfl;have g0':V2.get W.next=_:=(JU.get _ (by omega)).trans g0;have l4:dF 4 (ba W.next) V2=some (fH v sv,V2):=bz (ao g0') rfl;obtain⟨u,V3,k3,E2,md⟩:=afv h.ax HZ hve h.small;have md3:HI (λb=>b=W.next+1\/b=V3.next) W V3 u (rk v):=HI.ofK md (λb hb=>by rcases hb with rfl|rfl;exact .inl ⟨by omega,by have:=JU.next;omega⟩;exact .inr (aR _));obtain⟨Wl,sq',qq',e0,e1,e2,e3⟩:=md3.parts;obtain⟨c,m1,m2⟩:=C9.new V3 (val:=u) ⟨_,_,_,_,e0,e1,e2,e3⟩;have Sw:=HZ.trans E2;have n2:=JU.next;have n3:=E2.next;simp only[SX,l5,k1,dR.ln Nu,dl,k2,aI,l4,k3,m1];refine T4 (Z:=W) (V:=V3) (tb:=tb) (b1:=W.next+1) (l:=s.ops) (lv:=lv) (ov:=ov) (val:=u) (hG.mono Sw) Sw (t4.mono E2) (Nu.mono Sw) ((E2.get _ t2).trans t3) (by omega) (by omega) hve h.small (by omega) (by omega) Ck (TA hs EO)
  ⟨(Le.refl _).add _,by rw[AW.av];omega,m2,(z2.keep (E2.get _ (by omega))).keep (AW.aG _ _ (by omega)),md3.mono ((Le.refl _).add _),λj hj=>by omega⟩ rfl rfl rfl rfl rfl rfl rfl ?_ ?_
 ·intro R' U' dQ hI q4 q6 q11;obtain⟨sv2,sq2,qq2,f0,f1,f2,f3⟩:=hI.md.parts;obtain⟨c2,y1,y2⟩:=hI.z1.put (dQ:=dQ) ⟨_,_,_,_,f0,f1,f2,f3⟩;simp only[SX,q4,q6,q11,hI.b6.ld,y1,aaq y2,af];exact⟨_,_,_,_,.tZ hA hs (by omega) hp hI.ok,rfl,(Sw.trans hI.le).put (by omega) _,(hI.md.put (.inl rfl)).at⟩
 ·intro R' U' k hk h1 h2 h3 h4 q4 q5 q6;simp only[SX,q4,q5,q6,aaq h4,af];exact⟨_,_,_,_,.Od hA hs (by omega) hp hk h1 h2,rfl,h3,Uh _ _⟩
def agp(h:HiA W v sv ev l)(EO:∀e∈l,e.op.nw<9223372036854775808)(ho:Pz W ov os)(P9:os.length<=1000):
 ∃q W',aY (.func (.func 9) #[] #[]) [KY v sv ev,ov] W=some (q,W')/\WtA W W v l os q W':=by
 refine aja ?_ Fx;unfold B5;obtain⟨V1,ko,Xh,n1,g0,z1⟩:=Ww W v sv ev;simp only[SX,nO,AW.av];rw[<-ko];clear ko;have l5:dF 5 (ba W.next) V1=some (KY v sv ev,V1):=bz (ao g0) rfl;have Nu:=ho.ints;have d0:decide ((0:Int)=0)=true:=rfl;obtain⟨a,e,hA,-⟩:=FD h;by_cases he:e=0;case neg=>have k1:=ML (h.mono Xh) hA he;obtain⟨U2,m1,m2,m3⟩:=FA (Qc.GJ (os:=os) hA he) Xh (by omega) z1;have d:=aJ he;simp only[SX,l5,k1,d];unfold je;simp only[SX,d,O4,m1,m2,af];exact m3
 subst he;obtain⟨rfl,hl4,s,hs⟩:=hA.tZ rfl;obtain⟨lv,V2,k1,JU,t4⟩:=Oi (h.mono Xh) hA hs;have z2:=z1.keep (JU.get _ (by omega));have HZ:=Xh.trans JU;by_cases abZ:400<os.length
 ·obtain⟨U2,m1,m2,m3⟩:=FA (Qc.N3 hA hs abZ) HZ (by omega) z2;have d:decide ((400:Int)<(os.length:Int))=true:=cd;have d3:decide ((3:Int)=0)=false:=rfl;simp only[SX,l5,k1,dR.ln Nu,d];unfold je;simp only[SX,d3,O4,m1,m2,af];exact m3
 have dl:decide ((400:Int)<(os.length:Int))=false:=bS;have Ti:s.ops.length<=400:=dW hs.inv.opk hl4;obtain⟨pa,pe,hp,k2⟩:=ady (W:=V2) t4 (Nu.mono HZ) (by omega) (by omega);simp only[SX,l5,k1,dR.ln Nu,dl];unfold je;by_cases hpe:pe=0;case neg=>obtain⟨U2,m1,m2,m3⟩:=FA (Qc.pick hA hs (by omega) hp hpe) HZ (by omega) z2;have d:=aJ hpe;simp only[SX,k2,d,O4,m1,m2,af];exact m3
 subst hpe;obtain⟨rfl,Ck,yY,UC⟩:=hp.zero;have hve:(dn v).2=0:=N9 hA rfl;have g0':V2.get W.next=_:=(JU.get _ (by omega)).trans g0;have l4:dF 4 (ba W.next) V2=some (fH v sv,V2):=bz (ao g0') rfl;obtain⟨u,V3,k3,E2,md⟩:=agf h.ax HZ hve h.small;have md3:HI (λb=>b=W.next+1\/b=V3.next) W V3 u (rk v):=HI.ofK md (λb hb=>by rcases hb with rfl|rfl;exact .inl ⟨by omega,by have:=JU.next;omega⟩;exact .inr (aR _));obtain⟨Wl,sq',qq',e0,e1,e2,e3⟩:=md3.parts;obtain⟨c,m1,m2⟩:=C9.new V3 (val:=u) ⟨_,_,_,_,e0,e1,e2,e3⟩;have Sw:=HZ.trans E2;have n2:=JU.next;have n3:=E2.next;simp only[SX,k2,aI,l4,k3,nO,m1];refine SA (Z:=W) (V:=V3) (b1:=W.next+1) (l:=s.ops) (lv:=lv) (ov:=ov) (val:=u) Sw (t4.mono E2) (Nu.mono Sw) (by omega) hve h.small (by omega) (by omega) Ck (TA hs EO)
  ⟨(Le.refl _).add _,by rw[AW.av];omega,m2,(z2.keep (E2.get _ (by omega))).keep (AW.aG _ _ (by omega)),md3.mono ((Le.refl _).add _),λj hj=>by omega⟩ rfl rfl rfl rfl rfl ?_ ?_
 ·intro R' U' dQ hI q4 YB;obtain⟨sv2,sq2,qq2,f0,f1,f2,f3⟩:=hI.md.parts;obtain⟨c2,y1,y2⟩:=hI.z1.put (dQ:=dQ) ⟨_,_,_,_,f0,f1,f2,f3⟩;simp only[SX,q4,YB,hI.b6.ld,y1,aaq y2,af];exact⟨_,_,_,_,.tZ hA hs (by omega) hp hI.ok,rfl,(Sw.trans hI.le).put (by omega) _,(hI.md.put (.inl rfl)).at⟩
 ·intro R' U' k hk h1 h2 h3 h4 q4 q5 q6;simp only[SX,q4,q5,q6,aaq h4,af];exact⟨_,_,_,_,.Od hA hs (by omega) hp hk h1 h2,rfl,h3,Uh _ _⟩
end
end Go.Proofs.YtmaoneengdafhaaGreatDoor
namespace Go.Proofs.YtmaoneengdafhaaGreatDoor
open Go Go.Eng Go.RowKit
def ahR(l c:Nat):Ax (.slice none l c) (.slice none l c)=true:=by simp[Ax]
def ah0{W:AW}{n:Nat}{t e:ag}{v:ad}(h:DR Tryz.prog W (n+1) t [v])(ht:Tryz.prog.underlying t=some (.slice e)):∃a l c,v=.slice a l c/\(a=none\/∃b,a=some ⟨b,0,none⟩):=by obtain⟨a,len,cap,e1,-,-,h3,-⟩:=h.akW ht;injection e1 with e1;exact⟨a,len,cap,e1,h3⟩
def aqu{v:ad}(h:∃a l c,v=.slice a l c/\(a=none\/∃b,a=some ⟨b,0,none⟩)):Ax v v=true/\Eng.one v=true:=by
 obtain⟨a,l,c,rfl,rfl|⟨b,rfl⟩⟩:=h
 ·exact⟨ahR _ _,rfl⟩
 ·exact⟨AX _ _ _ _,rfl⟩
def ajW{W:AW}{n:Nat}{c:List ad}(h:DR Tryz.prog W (n+3) 63 c):∃s:mZ,∀pre post,acg W (pre++(c++post)) pre.length s:=by
 obtain⟨c1,c2,rfl,h1,h2⟩:=(h.struct Tryz.underlying63).cons;obtain⟨c3,c4,rfl,h3,h4⟩:=h2.cons;obtain⟨c5,c6,rfl,h5,h6⟩:=h4.cons;obtain rfl:=h6.nil;obtain⟨s,rfl,_⟩:=h1.str Tryz.underlying9;obtain⟨rv,zs,rfl,hz,_⟩:=h3.ints Tryz.underlying28 Tryz.underlying3 (by kernel_rfl);obtain⟨q,rfl⟩:=h5.int Tryz.underlying3;refine⟨⟨s.data.toList,zs,q⟩,λpre post=>⟨?_,?_,rv,?_,hz,aqu (ah0 h3 Tryz.underlying28)⟩⟩
 ·rw[sU (by omega),QH];simp
 ·rw[sU (by omega),IZ];rfl
 ·rw[sU (by omega),IZ];rfl
def alc{W:AW}{n:Nat}{c:List ad}(h:DR Tryz.prog W (n+5) 24 c):∃(v:ge) (sv:ad),c=[.ae v.sh,.ae v.cL,.ae v.eO,sv]/\fC W sv v.ax:=by obtain⟨c1,c2,rfl,h1,h2⟩:=(h.struct Tryz.underlying24).cons;obtain⟨c3,c4,rfl,h3,h4⟩:=h2.cons;obtain⟨c5,c6,rfl,h5,h6⟩:=h4.cons;obtain⟨c7,c8,rfl,h7,h8⟩:=h6.cons;obtain rfl:=h8.nil;obtain⟨a,rfl⟩:=h1.int Tryz.underlying3;obtain⟨b,rfl⟩:=h3.int Tryz.underlying2;obtain⟨d,rfl⟩:=h5.int Tryz.underlying2;obtain⟨sv,l,rfl,r1,a',c',r2,r3,r4,r5⟩:=h7.row Tryz.underlying22 (at_:=acg W) (λc _ hc=>ajW hc);exact⟨⟨a,b,d,l⟩,sv,rfl,r1,a',c',r2,.inl ⟨r3,r4⟩,r5⟩
def ahc{W:AW}{n:Nat}{t:ag}{cs:List ad}(h:DR Tryz.prog W (n+1) t cs)(ht:Tryz.prog.underlying t=some .bool):∃b,cs=[.bool b]:=by unfold DR at h;rw[ht]at h;exact h
def air{W:AW}{n:Nat}{c:List ad}(h:DR Tryz.prog W (n+2) 46 c):∃a b d e:Int,c=[.int .u32 a,.int .u32 b,.int .u64 d,.int .u64 e]:=by obtain⟨c1,c2,rfl,h1,h2⟩:=(h.struct Tryz.underlying46).cons;obtain⟨c3,c4,rfl,h3,h4⟩:=h2.cons;obtain⟨c5,c6,rfl,h5,h6⟩:=h4.cons;obtain⟨c7,c8,rfl,h7,h8⟩:=h6.cons;obtain rfl:=h8.nil;obtain⟨a,rfl⟩:=h1.int Tryz.underlying43;obtain⟨b,rfl⟩:=h3.int Tryz.underlying43;obtain⟨d,rfl⟩:=h5.int Tryz.underlying44;obtain⟨e,rfl⟩:=h7.int Tryz.underlying44;exact⟨a,b,d,e,rfl⟩
def alG{W:AW}{n:Nat}{t:ag}{cs:List ad}(h:DR Tryz.prog W (n+1) t cs)(ht:Tryz.prog.underlying t=some (.int .i64)):∃m,cs=[.ae m]/\m<9223372036854775808:=by unfold DR at h;rw[ht]at h;obtain⟨m,h1,-,h3⟩:=h;have:IntKind.i64.max=9223372036854775807:=rfl;exact⟨m,h1,by omega⟩
def aqZ{W:AW}{n:Nat}{c:List ad}(h:DR Tryz.prog W (n+3) 48 c):∃o:kP,c=(yc o).cells.toList/\o.nw<9223372036854775808:=by obtain⟨c1,r1,rfl,h1,h⟩:=(h.struct Tryz.underlying48).cons;obtain⟨c2,r2,rfl,h2,h⟩:=h.cons;obtain⟨c3,r3,rfl,h3,h⟩:=h.cons;obtain⟨c4,r4,rfl,h4,h⟩:=h.cons;obtain⟨c5,r5,rfl,h5,h⟩:=h.cons;obtain⟨c6,r6,rfl,h6,h⟩:=h.cons;obtain⟨c7,r7,rfl,h7,h⟩:=h.cons;obtain⟨c8,r8,rfl,h8,h⟩:=h.cons;obtain⟨c9,r9,rfl,h9,h⟩:=h.cons;obtain rfl:=h.nil;obtain⟨x1,rfl⟩:=h1.int Tryz.underlying3;obtain⟨x2,rfl⟩:=h2.int Tryz.underlying43;obtain⟨x3,rfl⟩:=h3.int Tryz.underlying2;obtain⟨x4,rfl⟩:=h4.int Tryz.underlying3;obtain⟨x5,rfl⟩:=h5.int Tryz.underlying3;obtain⟨x6,rfl⟩:=h6.int Tryz.underlying3;obtain⟨x7,rfl⟩:=h7.int Tryz.underlying43;obtain⟨a,b,d,e,rfl⟩:=air h8;obtain⟨x9,rfl,hb9⟩:=alG h9 Tryz.underlying2;exact⟨⟨x1,x2,x3,x4,x5,x6,x7,a,b,d,e,x9⟩,rfl,hb9⟩
def aqW{W:AW}{n:Nat}{c:List ad}(h:DR Tryz.prog W (n+3) 50 c):∃o:mE,c=(fX o).cells.toList:=by obtain⟨c1,r1,rfl,h1,h⟩:=(h.struct Tryz.underlying50).cons;obtain⟨c2,r2,rfl,h2,h⟩:=h.cons;obtain⟨c3,r3,rfl,h3,h⟩:=h.cons;obtain⟨c4,r4,rfl,h4,h⟩:=h.cons;obtain⟨c5,r5,rfl,h5,h⟩:=h.cons;obtain⟨c6,r6,rfl,h6,h⟩:=h.cons;obtain rfl:=h.nil;obtain⟨x1,rfl⟩:=h1.int Tryz.underlying35;obtain⟨x2,rfl⟩:=h2.int Tryz.underlying3;obtain⟨x3,rfl⟩:=h3.int Tryz.underlying3;obtain⟨x4,rfl⟩:=h4.int Tryz.underlying2;obtain⟨a,b,d,e,rfl⟩:=air h5;obtain⟨x6,rfl⟩:=h6.int Tryz.underlying3;exact⟨⟨x1,x2,x3,x4,a,b,d,e,x6⟩,rfl⟩
def apz{W:AW}{n:Nat}{c:List ad}(h:DR Tryz.prog W (n+4) 52 c):∃e:gD,c=O8 e/\e.op.nw<9223372036854775808:=by obtain⟨c1,r1,rfl,h1,h⟩:=(h.struct Tryz.underlying52).cons;obtain⟨c2,r2,rfl,h2,h⟩:=h.cons;obtain⟨c3,r3,rfl,h3,h⟩:=h.cons;obtain⟨c4,r4,rfl,h4,h⟩:=h.cons;obtain⟨c5,r5,rfl,h5,h⟩:=h.cons;obtain rfl:=h.nil;obtain⟨x1,rfl⟩:=h1.int Tryz.underlying3;obtain⟨x2,rfl⟩:=h2.int Tryz.underlying3;obtain⟨x3,rfl⟩:=ahc h3 Tryz.underlying4;obtain⟨o,rfl,ho⟩:=aqZ h4;obtain⟨r,rfl⟩:=aqW h5;exact⟨⟨x1,x2,x3,o,r⟩,rfl,ho⟩
def akX{W:AW}{n:Nat}{c:List ad}(h:DR Tryz.prog W (n+6) 27 c):∃(v:ge) (sv ev:ad) (l:List gD),c=[.ae v.sh,.ae v.cL,.ae v.eO,sv,ev]/\HiR W v sv ev l:=by
 obtain⟨c1,c2,rfl,h1,h2⟩:=(h.struct Tryz.underlying27).cons;obtain⟨c3,c4,rfl,h3,h4⟩:=h2.cons;obtain rfl:=h4.nil;obtain⟨v,sv,rfl,hs⟩:=alc h1;obtain⟨ev,l,rfl,hr⟩:=h3.row Tryz.underlying25 (at_:=λcs p e=>xf 24 O8 cs p e/\e.op.nw<9223372036854775808) (λc _ hc=>by obtain⟨e,rfl,he⟩:=apz hc;exact⟨e,λpre post=>⟨A2 ahg e pre post,he⟩⟩);refine⟨v,sv,ev,l,rfl,hs,Row.imp hr.1 (.refl _) λ_ _ _ h=>h.1,λe he=>?_⟩;obtain⟨a,c,-,h⟩:=hr.1;obtain⟨i,hi,rfl⟩:=By he;rcases h with h|⟨b,o,cs,-,-,-,h⟩
 ·rw[h]at hi;cases hi
 ·exact(h i hi).2
section
variable {H:Type} {enc:ag×ad->H} {w:ar} {σ:dx} {W:AW} {v0:ad} {d:DataW H} {p:List MemPlace} {r:Reach} {b0:Nat}
def alo{t:ag}{fs:Array Field}(ht:Tryz.prog.underlying t=some (.struct fs))(hv:Value.okWide Tryz.prog w r b0 t v0):∃cs,v0=.agg cs:=by unfold Value.okWide at hv;rw[ht]at hv;obtain⟨cs,h,_⟩:=hv;exact⟨cs,h⟩
def aqy:Yl Tryz.prog 7 27=true:=by kernel_rfl
def agR(ho:nh σ W w)(hv:Value.okWide Tryz.prog w r b0 27 v0)(h:DataW.Trod enc Tryz.prog w 0 (λ_=>true) true 27 v0 d p):
 ∃(σ2:dx) (W2:AW) (v:ge) (sv ev:ad) (l:List gD),nh σ2 W2 w/\Sub σ σ2/\Le W W2/\VR σ2 (KY v sv ev) v0/\HiR W2 v sv ev l:=by
 obtain⟨cs,rfl⟩:=alo Tryz.underlying27 hv;obtain⟨m,hm⟩:=h;obtain⟨σ2,W2,LC,o2,s2,l2,r2,a2⟩:=Jg aqy hm σ W ho;obtain⟨v,sv,ev,l,rfl,hs⟩:=akX a2;exact⟨σ2,W2,v,sv,ev,l,o2,s2,l2,.Ub (a:=#[.ae v.sh,.ae v.cL,.ae v.eO,sv,ev]) r2,hs⟩
end
def aoi{w:ar}(hl:GN lU w.heap):nh (σG lU) (WG lU 5) w:=⟨ajc rfl hl,ahE,1,_,rfl⟩
def atq:GW (WG lU 5):=agA rfl (λx hx=>by
 have h2:x=(0,yu)\/x=(1,Px)\/x=(3,Pb)\/x=(4,N4):=by simpa[lU]using hx
 rcases h2 with rfl|rfl|rfl|rfl<;>rfl)
def anQ{W:AW}(h:Le (WG lU 5) W):GW W:=atq.mono h
def anU:Kids Tryz.prog (· <Tryz.prog.types.size):=kids_rows (by kernel_rfl) (by kernel_rfl)
def aqx:∀t e,t<Tryz.prog.types.size->Tryz.prog.underlying t=some (.slice e)->0<Tryz.prog.cellsOf e:=slices_full_of Tryz.prog (by kernel_rfl)
def Up(mD:cl Tryz.prog ai.ng aY){w:ar}{σ:dx}{W:AW}(ho:nh σ W w)(hs:Sub (σG lU) σ){i:Nat}{args cZ:List ad}(hr:LR σ args cZ)(h:aY (.func (.func i) #[] #[]) args W=some (.bool true,W)):
 Calls Tryz.prog i cZ.toArray w λe w'=>e=.returned (.bool true)/\eG w w':=by
 have hG:BM σ [0,1,3,4]:=λg hg=>by obtain⟨e,he⟩:=(aeZ (gs:=lU) (ng:=[0,1,3,4]) rfl) g hg;exact⟨e,hs _ _ he⟩
 exact acV mD ho.rel hG ho.ro hr rfl h
def Qc.eY{v:ge}{l:List gD}{os:List Int}{x:cS}{a e:Int}(h:Qc v l os x a e)(hv:v.ax.length<1000)(hr:∀s∈v.ax,s.rows.length<1000)(EO:∀e∈l,e.op.nw<9223372036854775808):x.v.ax.length<1000/\(∀s∈x.v.ax,s.rows.length<1000)/\x.st.length<=10000/\x.qs.length<=10000/\∀l∈x.qs,l.length<=10000:=by
 have h0:Fb.v.ax.length<1000/\(∀s∈Fb.v.ax,s.rows.length<1000)/\Fb.st.length<=10000/\Fb.qs.length<=10000/\∀l∈Fb.qs,l.length<=10000:=⟨by decide,(by intro s hs;cases hs),by decide,by decide,(by intro l hl;cases hl)⟩;cases h with
 |GJ _ _=>exact h0
 |N3 _ _ _=>exact h0
 |pick _ _ _ _ _=>exact h0
 |Od _ _ _ _ _ _ _=>exact h0
 |tZ h1 hs _ _ _=>obtain⟨b,hb⟩:=IA (os:=os) (N9 h1 rfl) hv (TA hs EO) os.length;exact⟨b.v,by rw[hb];exact hr,b.st,b.qs,b.q⟩
def Gi.parts{Z U:AW}{val:ad}{x:cS}(h:Gi Z U val x):∃sv sq qq,val=ky x sv sq qq/\Eng.one sv=true/\Eng.one sq=true/\Eng.one qq=true:=by obtain⟨sv,sq,qq,e,h1,h2,h3⟩:=h;exact⟨sv,sq,qq,e,row_one h1.1,C5 h2,row_one h3⟩
def Ir{W:AW}{v:ge}{sv ev ov:ad}{l:List gD}{os:List Int}(hG:GW W)(h:HiR W v sv ev l)(ho:Pz W ov os):aY (.func (.func 3) #[] #[]) [KY v sv ev,ov] W=some (.bool true,W):=by
 refine aQ rfl ?_ wG;unfold qr;obtain⟨V1,ko⟩:∃V1,V1=W.add (.cells [.ae v.sh,.ae v.cL,.ae v.eO,sv,ev]):=⟨_,rfl⟩;have aM:Le W V1:=by rw[ko];exact(Le.refl W).add _
 have hn:V1.next=W.next+1:=by rw[ko];rfl
 have hg:V1.get W.next=some (.cells [.ae v.sh,.ae v.cL,.ae v.eO,sv,ev]):=by rw[ko];exact AW.aL _ _
 simp only[SX];rw[<-ko];clear ko;have cB:∀{V:AW},Le V1 V->dF 5 (ba W.next) V=some (KY v sv ev,V):=λ{V} hv=>bz (ao ((hv.get _ (by omega)).trans hg)) rfl
 have aw:=λ{V:AW} (hv:Le V1 V)=>Vw ((hG.mono aM).mono hv)
 have Nu:=ho.ints.mono aM;obtain⟨c,hf,hc⟩:=agJ (h.mono aM) 80;cases c with
 |true=>simp only[SX,wu2,cB (Le.refl _),hf,aw (Le.refl _),af];exact⟨aj,aM⟩
 |false=>
 by_cases c1:60<os.length/\os.length<=400
 ·have d1:decide ((60:Int)<(os.length:Int))=true:=cd;have d2:decide ((os.length:Int)<=400)=true:=cd;simp only[SX,cB (Le.refl _),hf,dR.ln Nu,d1,d2,aw (Le.refl _),af];exact⟨aj,aM⟩
 by_cases c2:410<os.length
 ·have d1:decide ((60:Int)<(os.length:Int))=true:=cd;have d2:decide ((os.length:Int)<=400)=false:=bS;have d3:decide ((410:Int)<(os.length:Int))=true:=cd;simp only[SX,cB (Le.refl _),hf,dR.ln Nu,d1,d2,d3,aw (Le.refl _),af];exact⟨aj,aM⟩
 obtain⟨k,-⟩:=hc rfl;have hG1:=hG.mono aM;obtain⟨_,U2,w1,x,y,a,e,hA,rfl,l2,m2⟩:=aj4 hG1 k h.nw (ho.mono aM) (by omega);obtain⟨sv2,sq2,qq2,p2,s2⟩:=Gi.parts m2;obtain⟨c2',k2,z2⟩:=C9.new U2 (val:=x) ⟨_,_,_,_,p2,s2⟩;obtain⟨U2',hU2⟩:∃U,U=U2.add (.cells c2'):=⟨_,rfl⟩;have l2':Le V1 U2':=by rw[hU2];exact l2.add _
 have l22:Le U2 U2':=by rw[hU2];exact(Le.refl _).add _
 have n2':U2.next<U2'.next:=by rw[hU2,AW.av];omega
 rw[<-hU2]at k2 z2;obtain⟨_,U3,w3,x',y',a',e',hA',rfl,l3,m3⟩:=agp (k.mono l2') h.nw (ho.mono (aM.trans l2')) (by omega);obtain⟨sv3,sq3,qq3,p3,s3⟩:=Gi.parts m3;obtain⟨c3',k3,z3⟩:=C9.new U3 (val:=x') ⟨_,_,_,_,p3,s3⟩;obtain⟨U3',hU3⟩:∃U,U=U3.add (.cells c3'):=⟨_,rfl⟩;have l33:Le U3 U3':=by rw[hU3];exact(Le.refl _).add _
 rw[<-hU3]at k3 z3;obtain⟨rfl,rfl,rfl⟩:=hA.I7 hA';have l13:Le V1 U3':=(l2'.trans l3).trans l33;have z2':C9 U3' U2.next x:=z2.keep ((l3.trans l33).get _ n2');have b:=hA.eY k.small k.rows h.nw;have same:=adL ((Gi.mono m2 (l22.trans (l3.trans l33))).at l13) ((Gi.mono m3 l33).at (l3.trans l33)) b.1 b.2.1 b.2.2.1 b.2.2.2.1 b.2.2.2.2;have ea:decide (a=a)=true:=aK rfl;have ee:decide (e=e)=true:=aK rfl;have t3:decide ((410:Int)<(os.length:Int))=false:=bS;by_cases c3:60<os.length
 ·have d1:decide ((60:Int)<(os.length:Int))=true:=cd;have d2:decide ((os.length:Int)<=400)=false:=bS;simp only[SX,cB (Le.refl _),hf,dR.ln Nu,d1,d2,t3,w1,nO,k2,cB l2',w3,k3,z2'.ld,z3.ld,same,aw l13,af];exact⟨aj,aM.trans l13⟩
 ·have d1:decide ((60:Int)<(os.length:Int))=false:=bS;simp only[SX,cB (Le.refl _),hf,dR.ln Nu,d1,t3,w1,nO,k2,cB l2',w3,k3,z2'.ld,z3.ld,same,aw l13,af];exact⟨aj,aM.trans l13⟩
def apw:nX Tryz.prog 3=some 1:=by kernel_rfl
def aeF{a:Option Addr}{n c k:Nat}(hk:k<=n)(hn:n<=c)(hc:c<eJ)(U:AW):eP Tryz.prog 28 (.slice a n c) (some (.ae (k:Int))) none none U=some (.slice (a.map λx=>if c=k then x else x.add (k*1)) (n-k) (c-k),U):=by
 unfold eP mz;rw[Tryz.underlying28];cases a with
 |none=>simp only[apw,ft,kJ,hk,hn,kE,bi,Option.map_none]
 |some a=>
  have hb:¬(c=eJ+1/\0<1):=λx=>by omega
  simp only[apw,ft,kJ,hk,hn,hc,hb,kE,bi,b9,dq]
def aj5{W:AW}{n:Nat}{c:List ad}(h:DR Tryz.prog W (n+2) 28 c):∃(ov:ad) (os:List Int),c=[ov]/\Pz W ov os:=by
 obtain⟨ov,os,rfl,hr,a,c,rfl,h1,h2,-⟩:=DR.ints h Tryz.underlying28 Tryz.underlying3 (by kernel_rfl);refine⟨_,os,rfl,hr,λk hk=>⟨_,aeF hk h1 h2,?_⟩⟩;obtain⟨a',c',e,hr⟩:=hr;injection e with e1 e2 e3;subst e1 e3;refine⟨_,_,by rw[mr],?_⟩;by_cases ya:k=os.length
 ·left;rw[ya];exact Eu
 right;rcases hr with rfl|⟨b,o,cs,rfl,i1,i2,i3⟩
 ·simp at hk ya;omega
 ·refine⟨b,o+k*1,cs,?_,i1,i2,λi hi=>?_⟩
  ·rw[dq,bL,dv]
  ·rw[mr]at hi;have:=i3 (k+i) (by omega);rw[List.getElem_drop];have e:o+k*1+i*1=o+(k+i)*1:=by omega
   rwa [e]
section
variable {H:Type} {enc:ag×ad->H} {w:ar} {σ:dx} {W:AW} {v0:ad} {d:DataW H} {p:List MemPlace} {r:Reach} {b0:Nat}
def apU:Yl Tryz.prog 7 28=true:=by kernel_rfl
def aac{t e:ag}(ht:Tryz.prog.underlying t=some (.slice e))(hv:Value.okWide Tryz.prog w r b0 t v0):∃a l c,v0=.slice a l c:=by
 unfold Value.okWide at hv;rw[ht]at hv;simp only at hv;unfold Cell.okWide at hv;rw[ht]at hv;cases v0 with
 |slice a l c=>exact⟨a,l,c,rfl⟩
 |_=>simp only[Cell.ok,ht]at hv
def ahN(ho:nh σ W w)(hv:Value.okWide Tryz.prog w r b0 28 v0)(h:DataW.Trod enc Tryz.prog w 0 (λ_=>true) true 28 v0 d p):
 ∃(σ2:dx) (W2:AW) (ov:ad) (os:List Int),nh σ2 W2 w/\Sub σ σ2/\Le W W2/\VR σ2 ov v0/\Pz W2 ov os:=by
 obtain⟨a,n,c,rfl⟩:=aac Tryz.underlying28 hv;obtain⟨m,hm⟩:=h;obtain⟨σ2,W2,LC,o2,s2,l2,r2,a2⟩:=Jg apU hm σ W ho;obtain⟨ov,os,rfl,hr⟩:=aj5 (n:=5) a2;have hvr:VR σ2 ov (.slice a n c):=r2.2 0 _ _ rfl rfl;exact⟨σ2,W2,ov,os,o2,s2,l2,hvr,hr⟩
end
end Go.Proofs.YtmaoneengdafhaaGreatDoor
