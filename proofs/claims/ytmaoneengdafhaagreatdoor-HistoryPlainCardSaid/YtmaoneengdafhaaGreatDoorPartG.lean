/- A part: contracts and laws. -/
import Derived.Test.YtmaoneengdafhaaGreatDoorPartF
set_option linter.unusedVariables false
set_option linter.unusedSimpArgs false
set_option linter.unusedSectionVars false
set_option linter.defProp false
noncomputable section
open Go renaming MemPlace->di,TypeId->af,Value->ad,World->ar,undef->aj
set_option maxRecDepth 100000
namespace Go.Proofs.YtmaoneengdafhaaGreatDoor
open Go Go.Eng
section
variable {W:AW} {lv ov sv ev pv:ad} {l:List iw} {os:List Int} {tb:Nat} {v:fo}
def Tj(ht:W.get tb=some (.cells (Wz v sv ev lv pv)))(htb:tb<W.next)(hl:SB W lv l)(ho:Xv W ov os)(hll:l.length<=800)(Ns:os.length<=800)(S4:∀(j:Nat) (o:iw),l[j]? =some o->o.id=(j:Int)+1):
 ∃a e:Int,Vp l os a e/\ba (.func (.func 23) #[] #[]) [aZ tb,ov] W=some (.tuple #[.ae a,.ae e],W):=by
 have pu:Ok (iT ba (aZ tb) ov W) λr=>∃a e:Int,Vp l os a e/\r.1=.tuple #[.ae a,.ae e]/\Le W r.2:=by
  unfold iT;have hbx:∀U,pP ov U=some (aZ U.next,U.add (.cells [ov])):=λU=>by obtain⟨a,c,e,-⟩:=ho.ints;rw[e];exact aS rfl rfl
  obtain⟨V0,hV0⟩:∃V0,V0=(((((W.add (.cells [aZ tb])).add (.cells [ov])).add (.cells [.ae 0])).add (.cells [.ae 0])).add (.map [] 0)).add (.cells [.map (some (W.next+4))]):=⟨_,rfl⟩;have s5:=stM (W:=((((((W.add (.cells [aZ tb])).add (.cells [ov])).add (.cells [.ae 0])).add (.cells [.ae 0])).add (.map [] 0)).add (.cells [.map none]))) (b:=W.next+5) (x:=.map none) (m:=W.next+4) (AW.aI (((((W.add (.cells [aZ tb])).add (.cells [ov])).add (.cells [.ae 0])).add (.cells [.ae 0])).add (.map [] 0)) _);have e5:(((((W.add (.cells [aZ tb])).add (.cells [ov])).add (.cells [.ae 0])).add (.cells [.ae 0])).add (.map [] 0)).next=W.next+5:=rfl;rw[<-e5,i8,e5,<-hV0]at s5;have O0:BP W V0 ov tb (pb os 0) 0 0:=by
   have k:∀d,d<W.next+5->V0.get d=(((((W.add (.cells [aZ tb])).add (.cells [ov])).add (.cells [.ae 0])).add (.cells [.ae 0])).add (.map [] 0)).get d:=λd hd=>by rw[hV0];exact AW.aE _ _ (by rw[e5];omega)
   have k4:∀d,d<W.next+4->V0.get d=((((W.add (.cells [aZ tb])).add (.cells [ov])).add (.cells [.ae 0])).add (.cells [.ae 0])).get d:=λd hd=>(k d (by omega)).trans (AW.aE _ _ (by simp only[AW.av];omega))
   have k3:∀d,d<W.next+3->V0.get d=(((W.add (.cells [aZ tb])).add (.cells [ov])).add (.cells [.ae 0])).get d:=λd hd=>(k4 d (by omega)).trans (AW.aE _ _ (by simp only[AW.av];omega))
   have k2:∀d,d<W.next+2->V0.get d=((W.add (.cells [aZ tb])).add (.cells [ov])).get d:=λd hd=>(k3 d (by omega)).trans (AW.aE _ _ (by simp only[AW.av];omega))
   have k1:∀d,d<W.next+1->V0.get d=(W.add (.cells [aZ tb])).get d:=λd hd=>(k2 d (by omega)).trans (AW.aE _ _ (by simp only[AW.av];omega))
   refine⟨⟨by rw[hV0];simp only[AW.av];omega,λd hd=>(k1 d (by omega)).trans (AW.aE _ _ (by omega))⟩,by rw[hV0];simp only[AW.av];omega,(k1 _ (by omega)).trans (AW.aI _ _),(k2 _ (by omega)).trans (AW.aI (W.add _) _),(k3 _ (by omega)).trans (AW.aI ((W.add _).add _) _),(k4 _ (by omega)).trans (AW.aI (((W.add _).add _).add _) _),by rw[hV0];exact AW.aI (((((W.add (.cells [aZ tb])).add (.cells [ov])).add (.cells [.ae 0])).add (.cells [.ae 0])).add (.map [] 0)) _,0,?_⟩;have e0:pb os 0=λ_=>none:=by funext x;unfold pb;rw[pd,ap (by simp)]
   rw[e0];exact xY.keep (PV (W:=(((W.add (.cells [aZ tb])).add (.cells [ov])).add (.cells [.ae 0])).add (.cells [.ae 0]))) (k (W.next+4) (by omega))
  have ab0:∀{U:AW} {m:Int->Option ad} {a e:Int},BP W U ov tb m a e->bz (aZ (W.next+1)) U=some (ov,U):=λh=>aO (ao h.b2) rfl
  have ldT:∀{U:AW} {m:Int->Option ad} {a e:Int},BP W U ov tb m a e->bz (aZ W.next) U=some (aZ tb,U):=λh=>aO (ao h.b1) rfl
  have ldL:∀{U:AW} {m:Int->Option ad} {a e:Int},BP W U ov tb m a e->bz (.pointer (some ⟨tb,5,none⟩)) U=some (lv,U):=λh=>aO (ao ((h.le.get _ htb).trans ht)) rfl
  have ldM:∀{U:AW} {m:Int->Option ad} {a e:Int},BP W U ov tb m a e->bz (aZ (W.next+5)) U=some (.map (some (W.next+4)),U):=λh=>aO (ao h.b5) rfl
  have hoI:=ho.ints;simp only[SX,zS,hbx,alI,alE,apy,alM,AW.av,iq,Nat.reduceAdd,s5];simp only[SX,ab0 O0,gG.ln hoI];clear s5 hV0;refine bh os.length (by omega) (λi R U=>BP W U ov tb (pb os i) 0 0/\R 2=aZ W.next/\R 3=aZ (W.next+1)/\R 4=aZ (W.next+2)/\R 5=aZ (W.next+3)/\R 6=aZ (W.next+5)/\R 14=ov/\R 15=.ae (os.length:Int)/\R 16=.ae (i:Int)/\∀j,j<i->EV l os j=0)
   (λr=>r.2.1 4=aZ (W.next+2)/\r.2.1 5=aZ (W.next+3)/\((r.1=.exit 0/\BP W r.2.2 ov tb (pb os os.length) 0 0/\r.2.1 2=aZ W.next/\r.2.1 3=aZ (W.next+1)/\r.2.1 6=aZ (W.next+5)/\∀j,j<os.length->EV l os j=0)\/(r.1=.ret/\∃i m,i<os.length/\(∀j,j<i->EV l os j=0)/\EV l os i≠0/\BP W r.2.2 ov tb m (i:Int) (EV l os i))))
   ⟨O0,rfl,rfl,rfl,rfl,rfl,rfl,rfl,rfl,λj hj=>by omega⟩ ?_ ?_ ?_
  ·rintro i R U hi ⟨hO,r2,r3,r4,r5,r6,Um,r15,r16,hz⟩;unfold gj;have t1:decide ((i:Int)<(os.length:Int))=true:=cK;have t2:=λW'=>bm W' i 1
   have e3:((i+1:Nat):Int)=(i:Int)+1:=by omega
   obtain⟨p,p1,p2⟩:=gG.gd (hoI.mono hO.le) hi;have bad:∀e,EV l os i=e->e≠0->∃U1 U2,eZ 1 (aZ (W.next+2)) (.ae (i:Int)) U=some (aj,U1)/\eZ 1 (aZ (W.next+3)) (.ae e) U1=some (aj,U2)/\BP W U2 ov tb (pb os i) (i:Int) (EV l os i):=λe he h0=>by obtain⟨U1,U2,k1,k2,k3,-⟩:=hO.ans (i:Int) e;exact⟨U1,U2,k1,k2,by rw[he];exact k3⟩
   simp only[SX,Um,r15,r16,t1,p1,p2];by_cases c1:os.getD i 0<1
   ·have e4:EV l os i=4:=by unfold EV;rw[an (.inl c1)]
    have d:=aK c1;obtain⟨U1,U2,k1,k2,k3⟩:=bad 4 e4 (by decide);simp only[SX,d,r4,r5,k1,k2,ah];exact .inr ⟨by simp,r4,r5,.inr ⟨ak,i,_,hi,hz,by rw[e4];decide,k3⟩⟩
   have d1:=aL c1;by_cases c2:(l.length:Int)<os.getD i 0
   ·have e4:EV l os i=4:=by unfold EV;rw[an (.inr c2)]
    have d:=aK c2;obtain⟨U1,U2,k1,k2,k3⟩:=bad 4 e4 (by decide);simp only[SX,d1,r2,ldT hO,aR,aJ,ldL hO,hl.ln,d,r4,r5,k1,k2,ah];exact .inr ⟨by simp,r4,r5,.inr ⟨ak,i,_,hi,hz,by rw[e4];decide,k3⟩⟩
   have d2:=aL c2;obtain⟨n,hm⟩:=hO.m;have lk:=RU hm acO ty3 tz4 (os.getD i 0);by_cases c3:os.getD i 0∈os.take i
   ·have e4:EV l os i=8:=by unfold EV;rw[bM,an c3]
    have em:(pb os i (os.getD i 0)).getD (.bool false)=.bool true:=by unfold pb;rw[an c3];rfl
    rw[em]at lk;obtain⟨U1,U2,k1,k2,k3⟩:=bad 8 e4 (by decide);simp only[SX,d1,r2,ldT hO,aR,aJ,ldL hO,hl.ln,d2,r6,ldM hO,lk,r4,r5,k1,k2,ah];exact .inr ⟨by simp,r4,r5,.inr ⟨ak,i,_,hi,hz,by rw[e4];decide,k3⟩⟩
   ·have em:(pb os i (os.getD i 0)).getD (.bool false)=.bool false:=by unfold pb;rw[ap c3];rfl
    rw[em]at lk;obtain⟨es,c,m1,m2⟩:=QV hm acO ty3 (os.getD i 0) (.bool true);have hn6:=hO.n;have hO2:BP W (U.put (W.next+4) (.map es c)) ov tb (pb os (i+1)) 0 0:=by
     have k:∀d,d≠W.next+4->(U.put (W.next+4) (.map es c)).get d=U.get d:=λd hd=>AW.ay _ _ (bc hd)
     refine⟨⟨hO.le.next,λd hd=>(k d (by omega)).trans (hO.le.get d hd)⟩,hn6,(k _ (by omega)).trans hO.b1,(k _ (by omega)).trans hO.b2,(k _ (by omega)).trans hO.b3,(k _ (by omega)).trans hO.b4,(k _ (by omega)).trans hO.b5,?_⟩;rw[<-YD hi]at m2;exact⟨_,m2⟩
    simp only[SX,d1,r2,ldT hO,aR,aJ,ldL hO,hl.ln,d2,r6,ldM hO,lk,m1,t2,ah];refine .inl ⟨ak,hO2,r2,r3,r4,r5,r6,Um,r15,by rw[e3];rfl,λj hj=>?_⟩;by_cases e:j=i
    ·subst e;unfold EV;rw[bM,ap c3]
    ·exact hz j (by omega)
  ·rintro R U ⟨hO,r2,r3,r4,r5,r6,Um,r15,r16,hz⟩;unfold gj;have t1:decide ((os.length:Int)<(os.length:Int))=false:=cg;simp only[SX,r15,r16,t1,ah];exact⟨by simp,r4,r5,.inl ⟨ak,hO,r2,r3,r6,hz⟩⟩
  rintro⟨e,R,U⟩ ⟨r4,r5,⟨rfl,hO,r2,r3,r6,hz⟩|⟨rfl,i,m,hi,h1,h2,hO⟩⟩;case inr=>have r4':R 4=aZ (W.next+2):=r4;have r5':R 5=aZ (W.next+3):=r5;have hO':BP W U ov tb m (i:Int) (EV l os i):=hO;simp only[SX,r4',r5',hO'.res,ah];exact⟨_,_,.one hi h1 h2,rfl,hO'.le⟩
  simp only at r2 r3 r4 r5 r6;have hO:BP W U ov tb (pb os os.length) 0 0:=hO;have hm0:pb os os.length=λx=>if x∈os then some (.bool true)else none:=by funext x;unfold pb;rw[cM]
  obtain⟨V1,s1,s2,s3,s4,s5⟩:=ahf (some ⟨tb,0,none⟩) (.func 26) #[] #[] U;have n2:=s2.next;have hUn:=hO.n;have O1:BP W V1 ov tb (pb os os.length) 0 0:=hO.keep n2 λd hd=>s2.get d (by omega)
  simp only[SX,r2,ldT hO,s1];refine aci (W0:=W) (b1:=U.next) (b2:=U.next+1) (tb:=tb) (isF:=.func (.func 26) #[] #[]) (ops:=l) hl (by omega) Hn rfl (BJ ((AW.aE _ _ (by omega)).trans s4) rfl) (BJ ((AW.aE _ _ (by omega)).trans ((O1.le.get _ htb).trans ht)) rfl)
   (λpre V=>V1.next<=V.next/\(∀b,b<V1.next->V.get b=V1.get b)/\∀o∈pre,Hn o=true->o.id∈os) (λx V=>x=.ret/\BP W V ov tb (pb os os.length) (os.length:Int) 10/\Pk2 l os)
   ⟨by rw[AW.av];omega,λb hb=>AW.aE _ _ (by omega),λo h=>by cases h⟩
   (λpre V ⟨g1,g2,_⟩=>⟨⟨by have:=O1.le.next;omega,λb hb=>(g2 b (by have:=O1.le.next;omega)).trans (O1.le.get b hb)⟩,BJ ((g2 _ (by omega)).trans s5) rfl⟩)
   (λpre V cs ⟨g1,g2,g3⟩ lA=>⟨by rw[AW.av];omega,λb hb=>(AW.aE _ _ (by omega)).trans (g2 b hb),g3⟩)
   (λpre V o ⟨g1,g2,g3⟩=>⟨by rw[AW.bG];omega,λb hb=>(AW.ay _ _ (by omega)).trans (g2 b hb),g3⟩)
   (λx V o ⟨h1,h2,h3⟩=>⟨h1,h2.keep (by rw[AW.bG];omega) λd hd=>AW.ay _ _ (by omega),h3⟩)
   (λpre o V _=>Wk o V) (λpre o V ol ⟨g1,g2,g3⟩ hn=>⟨g1,g2,λx hx hd=>by
    rcases lH.1 hx with hx|hx
    ·exact g3 x hx hd
    ·rw[ko.1 hx,hn]at hd;cases hd⟩) 9 ?_ ?_ ?_
  ·intro o V R' hR;have r44:R' 44=Jh o:=by rw[hR];rfl
   rw[pC];unfold jV;simp only[SX,QH,r44,IQ];rfl
  ·intro pre o V b R' hR ol agW ⟨g1,g2,g3⟩ lA hb CU lF;have r3':R' 3=aZ (W.next+1):=by rw[hR];exact r3
   have r4':R' 4=aZ (W.next+2):=by rw[hR];exact r4
   have r5':R' 5=aZ (W.next+3):=by rw[hR];exact r5
   have r6':R' 6=aZ (W.next+5):=by rw[hR];exact r6
   have r9':R' 9=aZ b:=by rw[hR];rfl
   clear hR;rw[pz];unfold j5;have hOV:BP W V ov tb (pb os os.length) 0 0:=O1.keep g1 λd hd=>g2 d (by omega)
   obtain⟨n,hm⟩:=hOV.m;have lk:=RU hm acO ty3 tz4 o.id;rw[hm0]at lk;by_cases c:o.id∈os
   ·simp only[an c,pk]at lk;simp only[SX,r6',r9',ldM hOV,aJ,aap hb,lk,ah];refine⟨aQ _,ak,.inl ⟨ak,g1,g2,λx hx hd=>?_⟩⟩;rcases lH.1 hx with hx|hx
    ·exact g3 x hx hd
    ·rw[ko.1 hx];exact c
   ·simp only[ap c,Option.getD_none]at lk;obtain⟨U1,U2,k1,k2,k3,k4,k5⟩:=hOV.ans (os.length:Int) 10;simp only[SX,r3',r4',r5',r6',r9',ldM hOV,aJ,aap hb,lk,ab0 hOV,gG.ln hoI,k1,k2,ah];refine⟨by omega,k5 _ (by omega) (by omega),.inr ⟨by simp,ak,k3,?_⟩⟩;have qk:=ol.length_le;rw[cx,Eu]at qk;have dT:l[pre.length]? =some o:=by obtain⟨t,e⟩:=ol;rw[<-e];simp
    refine⟨pre.length,by omega,?_,?_⟩
    ·rw[jt,dT];unfold Hn at agW;simpa using agW
    ·rw[<-S4 _ _ dT];exact c
  rintro x V (⟨rfl,q1,q2,q3⟩|⟨hx,rfl,hOV,h2⟩);case inr=>
   have hOK:BP W (V.kill V1.next) ov tb (pb os os.length) (os.length:Int) 10:=hOV.keep (by rw[AW.dr];omega) λd hd=>AW.de _ (by omega)
   simp only[SX,r4,r5,hOK.res,ah];exact⟨_,_,.two hz h2,rfl,hOK.le⟩
  have EU:¬Pk2 l os:=by
   rintro⟨j,h1,h2,h3⟩;have hj:l[j]? =some (l.getD j ho0):=by rw[jt,bN h1];rfl
   have:=q3 _ (xV hj) (by unfold Hn;simpa using h2);rw[S4 _ _ hj]at this;exact h3 this
  have hOV:BP W V ov tb (pb os os.length) 0 0:=O1.keep q1 λd hd=>q2 d (by omega)
  have hO2:BP W (V.kill V1.next) ov tb (pb os os.length) 0 0:=hOV.keep (by rw[AW.dr];omega) λd hd=>AW.de _ (by omega)
  generalize V.kill V1.next=V2 at *;simp only[SX,r3,ab0 hO2,gG.ln hoI];refine bh os.length (by omega) (λi R U=>BP W U ov tb (pb os os.length) 0 0/\R 2=aZ W.next/\R 3=aZ (W.next+1)/\R 4=aZ (W.next+2)/\R 5=aZ (W.next+3)/\R 52=ov/\R 53=.ae (os.length:Int)/\R 54=.ae (i:Int)/\∀j,j<i->¬ZS l os j)
   (λr=>r.2.1 4=aZ (W.next+2)/\r.2.1 5=aZ (W.next+3)/\((r.1=.exit 5/\BP W r.2.2 ov tb (pb os os.length) 0 0/\∀j,j<os.length->¬ZS l os j)\/(r.1=.ret/\∃i,i<os.length/\(∀j,j<i->¬ZS l os j)/\ZS l os i/\BP W r.2.2 ov tb (pb os os.length) (i:Int) 9)))
   ⟨hO2,r2,r3,r4,r5,rfl,rfl,rfl,λj hj=>by omega⟩ ?_ ?_ ?_
  ·rintro i R U hi ⟨hO,r2,r3,r4,r5,r52,r53,r54,hz3⟩;unfold gy;have t1:decide ((i:Int)<(os.length:Int))=true:=cK;have t2:=λW'=>bm W' i 1
   have e3:((i+1:Nat):Int)=(i:Int)+1:=by omega
   obtain⟨p,p1,p2⟩:=gG.gd (hoI.mono hO.le) hi;obtain⟨x1,x2,-⟩:=Vl (hz i hi);have hUn:=hO.n;have st:=ajm (W:=U.add (.cells [.ae 0])) (n:=os.getD i 0) (AW.aI U _);rw[i8]at st;obtain⟨U1,VM⟩:∃U1,U1=U.add (.cells [.ae (os.getD i 0)]):=⟨_,rfl⟩;have l1:Le U U1:=by rw[VM];exact(Le.refl U).add _
   have gx:U1.get U.next=some (.cells [.ae (os.getD i 0)]):=by rw[VM];exact AW.aI _ _
   have O1:BP W U1 ov tb (pb os os.length) 0 0:=hO.keep l1.next λd hd=>l1.get d (by omega)
   rw[<-VM]at st;clear VM;obtain⟨v',f1,f2⟩:=ho.from_ (i+1) (by omega);rw[e3]at f1;have dv:(os.drop (i+1)).length<1000:=by rw[px];omega
   have afQ:=MC (W:=U1) (f:=.func (.func 53) #[] #[aZ W.next,aZ U.next]) (p:=λy=>OB (iv l y) (iv l (os.getD i 0))) (f2.mono O1.le) dv (λy hy=>by
    obtain⟨k,hk,rfl⟩:=Ip.1 hy;have:=Vl (hz (k+(i+1)) (by omega));rw[Dd (by omega)]at this;have e2:os[i+1+k]'(by omega)=os[k+(i+1)]'(by omega):=by congr 1;omega
    rw[e2];exact ah3 O1.b1 ((O1.le.get _ htb).trans ht) gx (hl.mono O1.le) (by omega) x1 x2 this.1 this.2.1);have apz:(os.drop (i+1)).any (λy=>OB (iv l y) (iv l (os.getD i 0)))=true<->ZS l os i:=by
    rw[xk];constructor
    ·rintro⟨y,hy,hb⟩;obtain⟨k,hk,rfl⟩:=Ip.1 hy;refine⟨i+1+k,by omega,by omega,?_⟩;rw[Dd (by omega)];exact hb
    ·rintro⟨k,k1,k2,hb⟩;refine⟨os.getD k 0,Ip.2 ⟨k-(i+1),by omega,?_⟩,hb⟩;rw[Dd k2];congr 1;omega
   cases hc:(os.drop (i+1)).any (λy=>OB (iv l y) (iv l (os.getD i 0)))with
   |true=>rw[hc]at afQ;obtain⟨U2,U3,k1,k2,k3,-⟩:=O1.ans (i:Int) 9;simp only[SX,r2,r3,r4,r5,r52,r53,r54,t1,p1,p2,alI,st,ab0 O1,t2,f1,afQ,k1,k2,ah];exact .inr ⟨by simp,r4,r5,.inr ⟨ak,i,hi,hz3,apz.1 hc,k3⟩⟩
   |false=>
    rw[hc]at afQ;simp only[SX,r2,r3,r4,r5,r52,r53,r54,t1,p1,p2,alI,st,ab0 O1,t2,f1,afQ,ah];refine .inl ⟨ak,O1,r2,r3,r4,r5,r52,r53,by rw[e3];rfl,λj hj=>?_⟩;by_cases e:j=i
    ·subst e;intro h;rw[apz.2 h]at hc;cases hc
    ·exact hz3 j (by omega)
  ·rintro R U ⟨hO,r2,r3,r4,r5,r52,r53,r54,hz3⟩;unfold gy;have t1:decide ((os.length:Int)<(os.length:Int))=false:=cg;simp only[SX,r53,r54,t1,ah];exact⟨by simp,r4,r5,.inl ⟨ak,hO,hz3⟩⟩
  ·rintro⟨e,R,U⟩ ⟨r4,r5,⟨rfl,hO,hz3⟩|⟨rfl,i,hi,h1,h3,hO⟩⟩
   ·simp only at r4 r5;have hO:BP W U ov tb (pb os os.length) 0 0:=hO;obtain⟨U1,U2,k1,k2,k3,-⟩:=hO.ans 0 0;simp only[SX,r4,r5,k1,k2,k3.res,ah];exact⟨_,_,.vD hz EU hz3,rfl,k3.le⟩
   ·simp only at r4 r5;have hO:BP W U ov tb (pb os os.length) (i:Int) 9:=hO;simp only[SX,r4,r5,hO.res,ah];exact⟨_,_,.three hz EU hi h1 h3,rfl,hO.le⟩
 obtain⟨⟨v,V⟩,k1,a,e,k2,rfl,k3⟩:=pu;exact⟨a,e,k2,aP rfl ⟨_,k1,rfl,k3⟩ sr⟩
end
def Cc(X:Nat->Prop)(Z U:AW)(val:ad)(x:cI):Prop:=∀U',U.next<=U'.next->(∀b,¬X b->b<U.next->U'.get b=U.get b)->Hu Z U' val x
section
variable {X:Nat->Prop} {Z W U U':AW} {val eK:ad} {x x':cI}
def Cc.at(h:Cc X Z U val x):Hu Z U val x:=h U (aQ _) λ_ _ _=>rfl
def Cc.keep(h:Cc X Z U val x)(hn:U.next<=U'.next)(hg:∀b,¬X b->b<U.next->U'.get b=U.get b):Cc X Z U' val x:=λV hv F1=>h V (by omega) λb h1 h2=>(F1 b h1 (by omega)).trans (hg b h1 h2)
def Cc.mono(h:Cc X Z U val x)(aM:Le U U'):Cc X Z U' val x:=h.keep aM.next λb _ hb=>aM.get b hb
def Cc.put{b:Nat}{c:dI}(h:Cc X Z U val x)(hb:X b):Cc X Z (U.put b c) val x:=h.keep (aQ _) λd hd _=>AW.ay _ _ (λe=>hd (e▸hb))
def Cc.ofK(h:MdK Z W U val x)(hX:∀b,X b->(Z.next<=b/\b<W.next)\/U.next<=b):Cc X Z U val x:=λV hv hg=>h V hv λb hb lF=>hg b (λhx=>by have:=hX b hx;omega) lF
def Cc.ofR{v0:ad}{x0:cI}(h:Xa Z W U v0 x0 val x)(h0:Cc X Z W v0 x0)(aM:Le W U)(hX:∀b,X b->(Z.next<=b/\b<W.next)\/U.next<=b):Cc X Z U val x:=by
 rcases h with⟨rfl,rfl⟩|h
 ·exact h0.mono aM
 ·exact .ofK h hX
def Cc.parts(h:Cc X Z U val x):∃sv sq qq,val=ka x sv sq qq/\Eng.one sv=true/\Eng.one sq=true/\Eng.one qq=true:=by obtain⟨sv,sq,qq,e,h1,h2,h3⟩:=h.at;exact⟨sv,sq,qq,e,row_one h1.1,CR h2,row_one h3⟩
end
def Bi(U:AW)(b:Nat)(val:ad):Prop:=∃x sv sq qq,val=ka x sv sq qq/\Eng.one sv=true/\Eng.one sq=true/\Eng.one qq=true/\U.get b=some (.cells (eT x sv sq qq))
section
variable {Z W U U':AW} {val eK:ad} {x x':cI} {b:Nat}
def Bi.ld(h:Bi U b val):dJ 7 (aZ b) U=some (val,U):=by obtain⟨x,sv,sq,qq,rfl,-,-,-,g⟩:=h;exact bB (ao g) rfl
def Bi.keep(h:Bi U b val)(hg:U'.get b=U.get b):Bi U' b val:=by obtain⟨x,sv,sq,qq,e,h1,h2,h3,g⟩:=h;exact⟨x,sv,sq,qq,e,h1,h2,h3,hg.trans g⟩
def Bi.put(h:Bi U b val)(hv:∃(x:cI) (sv sq qq:ad),eK=ka x sv sq qq/\Eng.one sv=true/\Eng.one sq=true/\Eng.one qq=true):∃c,eZ 7 (aZ b) eK U=some (aj,U.put b c)/\Bi (U.put b c) b eK:=by obtain⟨x0,v0,q0,p0,-,-,-,-,g⟩:=h;obtain⟨x,sv,sq,qq,rfl,h1,h2,h3⟩:=hv;exact⟨_,gE (vs:=(eT x sv sq qq).toArray) g rfl rfl (by simp[dC,h1,h2,h3,cF]),x,sv,sq,qq,rfl,h1,h2,h3,AW.aW _ _ _⟩
def Bi.zero(W:AW):Bi (W.add (.cells iV)) W.next (ka CY dq dq dq):=⟨CY,dq,dq,dq,rfl,rfl,rfl,rfl,AW.aI _ _⟩
def Bi.new(U:AW)(hv:∃(x:cI) (sv sq qq:ad),val=ka x sv sq qq/\Eng.one sv=true/\Eng.one sq=true/\Eng.one qq=true):∃c,eZ 7 (aZ U.next) val (U.add (.cells iV))=some (aj,U.add (.cells c))/\Bi (U.add (.cells c)) U.next val:=by obtain⟨x,sv,sq,qq,rfl,h1,h2,h3⟩:=hv;have s:=gE (W:=U.add (.cells iV)) (b:=U.next) (n:=7) (vs:=(eT x sv sq qq).toArray) (AW.aI _ _) rfl rfl (by simp[dC,h1,h2,h3,cF]);rw[i8]at s;exact⟨_,s,x,sv,sq,qq,rfl,h1,h2,h3,AW.aI _ _⟩
def ajZ{a e:Int}(h:Bi U b val):iX Tryz.prog [(aZ b,some 34),(.ae a,none),(.ae e,none)] U=some (.tuple #[val,.ae a,.ae e],U):=by rw[adC,EF,h.ld];rfl
end
def WtA(Z W:AW)(v:fo)(l:List lD)(os:List Int)(q:ad)(W':AW):Prop:=∃(val:ad) (x:cI) (a e:Int),PM v l os x a e/\q=.tuple #[val,.ae a,.ae e]/\Le W W'/\Hu Z W' val x
def ad8(Z W:AW):Hu Z W (ka CY dq dq dq) CY:=⟨_,_,_,rfl,⟨⟨none,0,rfl,.inl rfl⟩,none,0,rfl,.inl ⟨aQ _,by unfold eG;omega⟩,λh=>absurd rfl h⟩,⟨none,0,rfl,.inl rfl⟩,⟨none,0,rfl,.inl rfl⟩⟩
def aeE{l:List lD}{n:Nat}{s:TL}(h:wD l n s)(ES:∀e∈l,e.op.nw<9223372036854775808)(y:Int):(iv s.ops y).op.nw<9223372036854775808:=by
 unfold iv;rw[jt];cases e:s.ops[(y-1).toNat]? with
 |none=>decide
 |some o=>obtain⟨-,i,x,-,h1,-,-,-,-,h2⟩:=h.inv.ids _ _ e;rw[pk,<-h2];exact ES x (xV h1)
def Ix{v:fo}{l:List iw}{os:List Int}(he:(du v).2=0)(hv:v.ax.length<1000)(ES:∀y,(iv l y).op.nw<9223372036854775808):∀k,Bnd (G9 v l os k)/\(G9 v l os k).v=v
 |0=>by obtain⟨hg,-,-,-,ht,-⟩:=cE he;exact⟨⟨hv,by unfold G9 pL;simp;omega,by unfold G9 pL;simp;omega,λl hl=>by unfold G9 pL at hl;rw[List.eq_of_mem_replicate hl];simp,by unfold G9 pL;simp⟩,rfl⟩
 |k+1=>by obtain⟨h1,h2⟩:=Ix he hv ES (os:=os) k;obtain⟨h3,h4⟩:=h1.do (iv l (os.getD k 0)).op (ES _);exact⟨h3,h4.trans h2⟩
def aju(U:AW){val:ad}(hv:∃(x:cI) (sv sq qq:ad),val=ka x sv sq qq/\Eng.one sv=true/\Eng.one sq=true/\Eng.one qq=true)(r:mK):
 ∃U4 U5,eZ 7 (aZ U.next) val ((U.add (.cells iV)).add (.cells (ig fw)))=some (aj,U4)/\eZ 9 (aZ (U.next+1)) (gt r) U4=some (aj,U5)/\Le U U5/\Bi U5 U.next val/\U5.get (U.next+1)=some (.cells (ig r))/\U5.next=U.next+2:=by
 have h0:Bi ((U.add (.cells iV)).add (.cells (ig fw))) U.next (ka CY dq dq dq):=(Bi.zero U).keep (AW.aE _ _ (by rw[AW.av];omega));obtain⟨c,k1,k2⟩:=h0.put hv;have g1:((U.add (.cells iV)).add (.cells (ig fw))).get (U.next+1)=some (.cells (ig fw)):=AW.aI (U.add (.cells iV)) _;have g2:(((U.add (.cells iV)).add (.cells (ig fw))).put U.next c).get (U.next+1)=some (.cells (ig fw)):=(AW.ay _ _ (by omega)).trans g1;refine⟨_,_,k1,gE (vs:=(ig r).toArray) g2 rfl rfl rfl,((((Le.refl U).add _).add _).put (aQ _) _).put (by omega) _,k2.keep (AW.ay _ _ (by omega)),AW.aW _ _ _,rfl⟩
def ad6:∃(x:cI) (sv sq qq:ad),ka CY dq dq dq=ka x sv sq qq/\Eng.one sv=true/\Eng.one sq=true/\Eng.one qq=true:=⟨_,_,_,_,rfl,rfl,rfl,rfl⟩
section
variable {Z W V:AW} {lv ov sv ev pv:ad} {l:List iw} {os:List Int} {tb b1:Nat} {v:fo} {ρ:Type}
structure WtI (Z V U:AW) (v:fo) (l:List iw) (os:List Int) (b1 k:Nat) (val:ad):Prop where
 le:Le V U
 n:V.next<U.next
 b6:Bi U V.next val
 z1:Bi U b1 (ka CY dq dq dq)
 md:Cc (λb=>b=b1\/b=V.next) Z U val (G9 v l os k)
 ok:∀j,j<k->¬Ff v l os j
def WtI.next{U U2 U5:AW}{val eK:ad}{k:Nat}(h:WtI Z V U v l os b1 k val)(aM:Le U U2)(h5:Le U2 U5)(hm:Cc (λb=>b=b1\/b=V.next) Z U2 eK (G9 v l os (k+1)))(hk:¬Ff v l os k)(CU:b1<V.next):
 ∃c,eZ 7 (aZ V.next) eK U5=some (aj,U5.put V.next c)/\WtI Z V (U5.put V.next c) v l os b1 (k+1) eK:=by
 have l5:=aM.trans h5;have hn:=h.n;have n5:=l5.next;obtain⟨Zx,sq',qq',e0,e1,e2,e3⟩:=hm.parts;obtain⟨c,k1,k2⟩:=(h.b6.keep (l5.get _ h.n)).put ⟨_,_,_,_,e0,e1,e2,e3⟩;refine⟨c,k1,(h.le.trans l5).put (aQ _) _,by rw[AW.bG];omega,k2,h.z1.keep ((AW.ay _ _ (by omega)).trans (l5.get _ (by omega))),(hm.mono h5).put (.inr rfl),λj hj=>?_⟩;by_cases e:j=k
 ·subst e;exact hk
 ·exact h.ok j (by omega)
def aaC{U:AW}{b:Nat}{o:iw}(h:U.get b=some (.cells (km o))):dJ 12 (.pointer (some ⟨b,4,none⟩)) U=some (wa o.op,U)/\dJ 9 (.pointer (some ⟨b,16,none⟩)) U=some (gt o.rp,U)/\dJ 25 (aZ b) U=some (Jh o,U)/\bz (.pointer (some ⟨b,3,none⟩)) U=some (.ae o.to,U):=
 ⟨bB (ao h) rfl,bB (ao h) rfl,Wp h,NA h⟩
def al8{U:AW}{b:Nat}{r:mK}(h:U.get b=some (.cells (ig r))):dJ 9 (aZ b) U=some (gt r,U):=bB (ao h) rfl
def Uc{R:ai.Fr}{U:AW}{val:ad}{K:LT->Option ρ}{G:ρ->Prop}(hG:GW V)(hz:Le Z V)(hl:SB V lv l)(ho:gG V ov os)(ht:V.get tb=some (.cells (Wz v sv ev lv pv)))(htb:tb<V.next)(CU:b1<V.next/\Z.next<=b1)(he:(du v).2=0)(hv:v.ax.length<1000)(hll:l.length<=1000)(Ns:os.length<=1000)
 (hp:∀j,j<os.length->EV l os j=0)(ES:∀y,(iv l y).op.nw<9223372036854775808)(h:WtI Z V U v l os b1 0 val)(r4:R 4=aZ b1)(r6:R 6=.ae 0)(r7:R 7=aZ tb)(od:R 11=aZ V.next)(r49:R 49=ov)(r50:R 50=.ae (os.length:Int))(r51:R 51=.ae 0)
 (hK0:∀R' U' eK,WtI Z V U' v l os b1 os.length eK->R' 4=aZ b1->R' 6=.ae 0->R' 11=aZ V.next->Ok (K (.exit 0,R',U')) G)
 (hK1:∀R' U' k,k<os.length->(∀j,j<k->¬Ff v l os j)->Ff v l os k->Le Z U'->Bi U' b1 (ka CY dq dq dq)->R' 4=aZ b1->R' 5=.ae (k:Int)->R' 6=.ae 6->Ok (K (.ret,R',U')) G):
 Ok (fb (fZ (jR ba) R U) K) G:=by
 refine bh os.length (by omega) (λk R U=>R 4=aZ b1/\R 6=.ae 0/\R 7=aZ tb/\R 11=aZ V.next/\R 49=ov/\R 50=.ae (os.length:Int)/\R 51=.ae (k:Int)/\∃val,WtI Z V U v l os b1 k val)
  (λr=>(r.1=.exit 0/\r.2.1 4=aZ b1/\r.2.1 6=.ae 0/\r.2.1 11=aZ V.next/\∃val,WtI Z V r.2.2 v l os b1 os.length val)\/(r.1=.ret/\∃k,k<os.length/\(∀j,j<k->¬Ff v l os j)/\Ff v l os k/\Le Z r.2.2/\Bi r.2.2 b1 (ka CY dq dq dq)/\r.2.1 4=aZ b1/\r.2.1 5=.ae (k:Int)/\r.2.1 6=.ae 6))
  ⟨r4,r6,r7,od,r49,r50,r51,val,h⟩ ?_ ?_ ?_
 ·rintro k R U hk ⟨r4,r6,r7,od,r49,r50,r51,val,h⟩;unfold jR;have t1:decide ((k:Int)<(os.length:Int))=true:=cK;have t2:=λW'=>bm W' k 1
  have e3:((k+1:Nat):Int)=(k:Int)+1:=by omega
  obtain⟨p,p1,p2⟩:=gG.gd (ho.mono h.le) hk;obtain⟨x1,x2,-⟩:=Vl (hp k hk);obtain⟨b,o,g1,g2,g3⟩:=SB.at (hl.mono h.le) x1 x2;have s1:=λW'=>Ao W' (os.getD k 0) 1
  have lt5:bz (.pointer (some ⟨tb,5,none⟩)) U=some (lv,U):=aO (ao ((h.le.get _ htb).trans ht)) rfl;obtain⟨bn,bv⟩:=Ix he hv ES (os:=os) k;have atV:G9 v l os (k+1)=(rZ (G9 v l os k) (iv l (os.getD k 0)).op).1:=rfl;have Mf:Ff v l os k<->0<=(iv l (os.getD k 0)).to/\(rZ (G9 v l os k) (iv l (os.getD k 0)).op).2.1≠(iv l (os.getD k 0)).rp:=Iff.rfl;have aug:=ES (os.getD k 0);generalize iv l (os.getD k 0)=x at *;have l1:Le U (U.add (.cells (km x))):=(Le.refl U).add _;have gx:(U.add (.cells (km x))).get U.next=some (.cells (km x)):=AW.aI _ _;have lF:=IQ x U;have hUn:=h.n;have hVn:=h.le.next;generalize VM:U.add (.cells (km x))=U1 at *;have n1:U1.next=U.next+1:=by rw[<-VM];rfl
  have md1:=h.md.mono l1;obtain⟨eK,U2,d1,d2,d3⟩:=aqz (hG.mono (h.le.trans l1)) md1.at (hz.trans (h.le.trans l1)) bn aug;have md2:=Cc.ofR d3 md1 d2 (λb hb=>.inl (by have:=hz.next;rcases hb with rfl|rfl<;>omega));rw[<-atV]at md2;obtain⟨Zx,sq',qq',e0,e1,e2,e4⟩:=md2.parts;obtain⟨U4,U5,k1,k2,k3,k4,k5,k6⟩:=aju U2 (val:=eK) ⟨_,_,_,_,e0,e1,e2,e4⟩ (rZ (G9 v l os k) x.op).2.1;have gx5:=(k3.get _ (by have:=d2.next;omega)).trans ((d2.get _ (by omega)).trans gx);obtain⟨o1,o2,o3,o4⟩:=aaC gx;obtain⟨q1,q2,q3,q4⟩:=aaC gx5;have lv6:=(h.b6.keep (l1.get _ h.n)).ld;have l5:=l1.trans (d2.trans k3);simp only[SX,r7,od,r49,r50,r51,t1,p1,p2,aR,aJ,lt5,s1,g1,g3 _ rfl,QH,lF,lv6,o1,d1,oE,B9,AW.av,k1,k2,q3,Wk];cases hd:Hn x with
  |false=>
   have nb:¬Ff v l os k:=λhb=>by have:=(Mf.1 hb).1;unfold Hn at hd;exact absurd this (by simpa using hd)
   obtain⟨c,m1,m2⟩:=h.next (l1.trans d2) k3 md2 nb CU.1;simp only[SX,k4.ld,m1,t2,ah];exact .inl ⟨ak,r4,r6,r7,od,r49,r50,by rw[e3];rfl,eK,m2⟩
  |true=>
   have h0:0<=x.to:=by unfold Hn at hd;simpa using hd
   by_cases hr:(rZ (G9 v l os k) x.op).2.1=x.rp
   ·have nb:¬Ff v l os k:=λhb=>(Mf.1 hb).2 hr
    obtain⟨c,m1,m2⟩:=h.next (l1.trans d2) k3 md2 nb CU.1;have e5:∀U,bO Tryz.prog .neq 50 false false (gt (rZ (G9 v l os k) x.op).2.1) (gt x.rp) U=some (.bool false,U):=λU=>by rw[acB];simp[hr]
    simp only[SX,al8 k5,q2,e5,k4.ld,m1,t2,ah];exact .inl ⟨ak,r4,r6,r7,od,r49,r50,by rw[e3];rfl,eK,m2⟩
   ·have bb:Ff v l os k:=Mf.2 ⟨h0,hr⟩;have aq0:=h.z1.keep (l5.get _ (by omega));obtain⟨c,m1,m2⟩:=aq0.put ad6;have e5:∀U,bO Tryz.prog .neq 50 false false (gt (rZ (G9 v l os k) x.op).2.1) (gt x.rp) U=some (.bool true,U):=λU=>by rw[acB];simp[hr]
    simp only[SX,al8 k5,q2,e5,r4,aq0.ld,m1,ah];refine .inr ⟨by simp,.inr ⟨ak,k,hk,h.ok,bb,(hz.trans (h.le.trans l5)).put CU.2 _,m2,r4,rfl,rfl⟩⟩
 ·rintro R U ⟨r4,r6,r7,od,r49,r50,r51,val,h⟩;unfold jR;have t1:decide ((os.length:Int)<(os.length:Int))=false:=cg;simp only[SX,r50,r51,t1,ah];exact⟨by simp,.inl ⟨ak,r4,r6,od,val,h⟩⟩
 ·rintro⟨e,R,U⟩ (⟨rfl,q4,q6,q11,val,h⟩|⟨rfl,k,hk,h1,h2,h3,h4,q4,q5,q6⟩)
  ·exact hK0 R U val h q4 q6 q11
  ·exact hK1 R U k hk h1 h2 h3 h4 q4 q5 q6
end
section
variable {Z W V:AW} {lv ov sv ev pv:ad} {l:List iw} {os:List Int} {tb b1:Nat} {v:fo} {ρ:Type}
end
section
variable {W:AW} {v:fo} {sv ev ov:ad} {l:List lD} {os:List Int}
def VJ{e0:Int}{l:List lD}{a e:Int}(h:N4 e0 l a e)(he:e=0):e0=0:=by
 cases h with
 |EO h1=>exact absurd he h1
 |len=>omega
 |bad h1 h2 h3 h4 h5=>exact absurd he h5
 |ok h1 h2 h3=>exact h1
def T5{U:AW}{b1:Nat}{a e:Int}(hw:PM v l os CY a e)(aM:Le W U)(hb:W.next<=b1)(h:Bi U b1 (ka CY dq dq dq)):
 ∃U2,eZ 7 (aZ b1) (ka CY dq dq dq) U=some (aj,U2)/\iX Tryz.prog [(aZ b1,some 34),(.ae a,none),(.ae e,none)] U2=some (.tuple #[ka CY dq dq dq,.ae a,.ae e],U2)/\WtA W W v l os (.tuple #[ka CY dq dq dq,.ae a,.ae e]) U2:=by
 obtain⟨c,k1,k2⟩:=h.put ad6;exact⟨_,k1,ajZ k2,_,_,_,_,hw,rfl,aM.put hb _,ad8 _ _⟩
def aqS{t o:Option (ad×AW)}(h:Ok t λr=>WtA W W v l os r.1 r.2)(Nr:∀{r},t=some r->o=some (gc W r)):∃q W',o=some (q,W')/\WtA W W v l os q W':=by
 obtain⟨⟨q,U⟩,h1,val,x,a,e,h2,rfl,h3,h4⟩:=h;have hg:=Nr h1;unfold gc at hg;by_cases hp:(bL (.tuple #[val,.ae a,.ae e])&& !Za (.tuple #[val,.ae a,.ae e]))=true/\Le W U
 ·rw[an hp]at hg;refine⟨_,_,hg,val,x,a,e,h2,rfl,.refl _,?_⟩;obtain⟨Zx,sq',qq',rfl,m1,m2,m3⟩:=h4;have hp1:=hp.1;obtain⟨⟨a1,c1,rfl,k1⟩,k2⟩:=m1;obtain⟨a2,c2,rfl,k3⟩:=m2;obtain⟨a3,c3,rfl,k4⟩:=m3;cases a1 with
  |some a1=>simp[bL,eH,cC]at hp1
  |none=>
  cases a2 with
  |some a2=>simp[bL,eH,cC]at hp1
  |none=>
  cases a3 with
  |some a3=>simp[bL,eH,cC]at hp1
  |none=>
  exact⟨_,_,_,rfl,⟨⟨none,c1,rfl,k1.imp id λ⟨b,o,cs,e,_⟩=>by cases e⟩,k2⟩,⟨none,c2,rfl,k3.imp id λ⟨b,o,cs,e,_⟩=>by cases e⟩,⟨none,c3,rfl,k4.imp id λ⟨b,o,cs,e,_⟩=>by cases e⟩⟩
 ·rw[ap hp]at hg;exact⟨_,_,hg,val,x,a,e,h2,rfl,h3,h4⟩
def aht(W:AW)(v:fo)(sv ev:ad):∃V1,V1=(W.add (.cells [.ae v.sh,.ae v.cT,.ae v.fm,sv,ev])).add (.cells iV)/\Le W V1/\V1.next=W.next+2/\V1.get W.next=some (.cells [.ae v.sh,.ae v.cT,.ae v.fm,sv,ev])/\Bi V1 (W.next+1) (ka CY dq dq dq):=
 ⟨_,rfl,((Le.refl W).add _).add _,rfl,(AW.aE _ _ (by rw[AW.av];omega)).trans (AW.aI _ _),by have:=Bi.zero (W.add (.cells [.ae v.sh,.ae v.cT,.ae v.fm,sv,ev]));rwa [AW.av]at this⟩
def ab4(hG:GW W)(h:HiA W v sv ev l)(ES:∀e∈l,e.op.nw<9223372036854775808)(ho:Xv W ov os)(Ns:os.length<=1000):
 ∃q W',ba (.func (.func 8) #[] #[]) [P5 v sv ev,ov] W=some (q,W')/\WtA W W v l os q W':=by
 refine aqS ?_ Cs;unfold yc;obtain⟨V1,kS,le1,n1,g0,z1⟩:=aht W v sv ev;simp only[SX,oE,AW.av];rw[<-kS];clear kS;have l5:dJ 5 (aZ W.next) V1=some (P5 v sv ev,V1):=bB (ao g0) rfl;obtain⟨q,V2,k1,a,e,p,hA,rfl,QU,hq⟩:=Xe (hG.mono le1) (h.mono le1);have z2:=z1.keep (QU.get _ (by omega));have ZF:=le1.trans QU;rcases hq with⟨he,rfl⟩|⟨rfl,s,tb,lv,pv,hs,rfl,t1,t2,t3,t4,t5⟩
 ·obtain⟨U2,m1,m2,m3⟩:=T5 (PM.He (os:=os) hA he) ZF (by omega) z2;have d:=aL he;simp only[SX,l5,k1,d,z2.ld,m1,m2,ah];exact m3
 obtain⟨rfl,hl4,-⟩:=hA.vD rfl;have d0:decide ((0:Int)=0)=true:=rfl;have hoI:=ho.ints;by_cases aps:400<os.length
 ·obtain⟨U2,m1,m2,m3⟩:=T5 (PM.SN hA hs aps) ZF (by omega) z2;have d:decide ((400:Int)<(os.length:Int))=true:=cK;simp only[SX,l5,k1,gG.ln hoI,d,z2.ld,m1,m2,ah];exact m3
 have dl:decide ((400:Int)<(os.length:Int))=false:=cg;have SY:s.ops.length<=400:=eS hs.inv.opk hl4;obtain⟨pa,pe,hp,k2⟩:=Tj (W:=V2) (os:=os) (ov:=ov) t3 t2 t4 (ho.mono ZF) (by omega) (by omega) (λj o hj=>(hs.inv.ids j o hj).1);by_cases hpe:pe=0;case neg=>obtain⟨U2,m1,m2,m3⟩:=T5 (PM.pick hA hs (by omega) hp hpe) ZF (by omega) z2;have d:=aL hpe;simp only[SX,l5,k1,gG.ln hoI,dl,k2,d,z2.ld,m1,m2,ah];exact m3
 subst hpe;obtain⟨rfl,CW,EU,hz3⟩:=hp.zero;have hve:(du v).2=0:=VJ hA rfl;have g0':V2.get W.next=_:=(QU.get _ (by omega)).trans g0;have l4:dJ 4 (aZ W.next) V2=some (eQ v sv,V2):=bB (ao g0') rfl;obtain⟨u,V3,k3,J1,md⟩:=agT h.ax ZF hve h.small;have md3:Cc (λb=>b=W.next+1\/b=V3.next) W V3 u (pL v):=Cc.ofK md (λb hb=>by rcases hb with rfl|rfl;exact .inl ⟨by omega,by have:=QU.next;omega⟩;exact .inr (aQ _));obtain⟨Zx,sq',qq',e0,e1,e2,e3⟩:=md3.parts;obtain⟨c,m1,m2⟩:=Bi.new V3 (val:=u) ⟨_,_,_,_,e0,e1,e2,e3⟩;have ahL:=ZF.trans J1;have n2:=QU.next;have n3:=J1.next;simp only[SX,l5,k1,gG.ln hoI,dl,k2,aJ,l4,k3,m1];refine Uc (Z:=W) (V:=V3) (tb:=tb) (b1:=W.next+1) (l:=s.ops) (lv:=lv) (ov:=ov) (val:=u) (hG.mono ahL) ahL (t4.mono J1) (hoI.mono ahL) ((J1.get _ t2).trans t3) (by omega) (by omega) hve h.small (by omega) (by omega) CW (aeE hs ES)
  ⟨(Le.refl _).add _,by rw[AW.av];omega,m2,(z2.keep (J1.get _ (by omega))).keep (AW.aE _ _ (by omega)),md3.mono ((Le.refl _).add _),λj hj=>by omega⟩ rfl rfl rfl rfl rfl rfl rfl ?_ ?_
 ·intro R' U' eK hI q4 q6 q11;obtain⟨sv2,sq2,qq2,f0,f1,f2,f3⟩:=hI.md.parts;obtain⟨c2,y1,y2⟩:=hI.z1.put (eK:=eK) ⟨_,_,_,_,f0,f1,f2,f3⟩;simp only[SX,q4,q6,q11,hI.b6.ld,y1,ajZ y2,ah];exact⟨_,_,_,_,.vD hA hs (by omega) hp hI.ok,rfl,(ahL.trans hI.le).put (by omega) _,(hI.md.put (.inl rfl)).at⟩
 ·intro R' U' k hk h1 h2 h3 h4 q4 q5 q6;simp only[SX,q4,q5,q6,ajZ h4,ah];exact⟨_,_,_,_,.RC hA hs (by omega) hp hk h1 h2,rfl,h3,ad8 _ _⟩
end
def ids(n:Nat):List Int:=(List.range n).map λ(j:Nat)=>(j:Int)+1
def A2(n:Nat):(ids n).length=n:=by simp[ids]
def AT{n j:Nat}(h:j<n):(ids n).getD j 0=(j:Int)+1:=by unfold ids;simp[List.getD,jJ,IG h]
def acE(n:Nat):ids (n+1)=ids n++[(n:Int)+1]:=by simp[ids,ql]
def adf{l m:List iw}{y:Int}(h1:1<=y)(h2:y<=l.length):iv (l++m) y=iv l y:=by unfold iv;rw[jt,jt,zl (by omega)]
def XS(l:List iw)(o:iw):iv (l++[o]) ((l.length:Int)+1)=o:=by unfold iv;rw[jt,show((l.length:Int)+1-1).toNat=l.length by omega];simp
def wD.app{E:List lD}{k:Nat}{s:TL}(h:wD E k s)(F:List lD):wD (E++F) k s:=by
 induction h with
 |zero=>exact .zero
 |succ h1 h2 h3 ih=>exact .succ ih ((zl (dh.1 h2).1).trans h2) h3
def M1{v:fo}{l l':List iw}{os os':List Int}:∀(k:Nat),(∀j,j<k->(iv l (os.getD j 0)).op=(iv l' (os'.getD j 0)).op)->G9 v l os k=G9 v l' os' k
 |0,_=>rfl
 |k+1,h=>by unfold G9;rw[M1 k λj hj=>h j (by omega),h k (by omega)]
structure PlI (v:fo) (E:List lD) (x:cI) (n:Nat) (s:TL):Prop where
 run:wD E E.length s
 len:E.length=2*n
 ops:s.ops.length=n
 bsy:∀t,s.busy t=none
 vY:s.vY=0
 wg:Pp s.wg=if n=0 then 0 else 1
 at_:∀(j:Nat) (o:iw),s.ops[j]? =some o->o.fr=2*(j:Int)/\o.to=2*(j:Int)+1
 st:∀j,j<n->(rZ (G9 v s.ops (ids n) j) (iv s.ops ((ids n).getD j 0)).op).2.1=(iv s.ops ((ids n).getD j 0)).rp
 last:G9 v s.ops (ids n) n=x
def PlI.nil(v:fo):PlI v [] (pL v) 0 TL.init:=⟨.zero,rfl,rfl,λ_=>rfl,rfl,rfl,λj o h=>by simp[TL.init]at h,λj hj=>by omega,rfl⟩
def PlI.snoc{v:fo}{E:List lD}{x:cI}{n:Nat}{s:TL}(h:PlI v E x n s){o:jC}{th:Int}(h1:1<=th)(h2:th<=64)(ho:Bp o=0):
 ∃s',PlI v (E++[⟨(n:Int)+1,th,false,o,fw⟩,⟨(n:Int)+1,th,true,UB,(rZ x o).2.1⟩]) (rZ x o).1 (n+1) s':=by
 have hl:=h.len;have afN:=h.ops;obtain⟨r,hr⟩:∃r,r=(rZ x o).2.1:=⟨_,rfl⟩;rw[<-hr];have e1:fY s ⟨(n:Int)+1,th,false,o,fw⟩=0:=by unfold fY;rw[ap (by simp only;omega),ap (by simp),ap (by simp[h.bsy,afN,ho])]
 obtain⟨s1,H3⟩:∃s1,s1=nQ s E.length ⟨(n:Int)+1,th,false,o,fw⟩:=⟨_,rfl⟩;have q1:s1=⟨s.ops++[⟨(n:Int)+1,th,(E.length:Int),-1,o,fw⟩],s.wg++[1],λt=>if t=th then some ((n:Int)+1)else s.busy t,1⟩:=by rw[H3];unfold nQ;rw[ap (by simp),h.vY];rfl
 have e2:fY s1 ⟨(n:Int)+1,th,true,UB,r⟩=0:=by unfold fY;rw[ap (by simp only;omega),an rfl,an (by rw[q1];simp)]
 have k1:=(h.run.app [⟨(n:Int)+1,th,false,o,fw⟩,⟨(n:Int)+1,th,true,UB,r⟩]).succ (x:=⟨(n:Int)+1,th,false,o,fw⟩) (by simp) e1;rw[<-H3]at k1;have k2:=k1.succ (x:=⟨(n:Int)+1,th,true,UB,r⟩) (by simp) e2;obtain⟨s2,Cd⟩:∃s2,s2=nQ s1 (E.length+1) ⟨(n:Int)+1,th,true,UB,r⟩:=⟨_,rfl⟩;rw[<-Cd]at k2;have q2:s2=⟨s.ops++[⟨(n:Int)+1,th,2*(n:Int),2*(n:Int)+1,o,r⟩],s.wg++[1]++[0],λt=>if t=th then none else(if t=th then some ((n:Int)+1)else s.busy t),0⟩:=by
  rw[Cd,q1];unfold nQ;rw[an rfl];have en:((n:Int)+1-1).toNat=s.ops.length:=by omega
  simp only[en];unfold Rl;have eg:(s.ops++[(⟨(n:Int)+1,th,(E.length:Int),-1,o,fw⟩:iw)])[s.ops.length]? =some ⟨(n:Int)+1,th,(E.length:Int),-1,o,fw⟩:=by simp
  rw[eg];simp only[List.set_append_right _ _ (aQ _),sk,Ij];have ei:((E.length:Nat):Int)=2*(n:Int):=by omega
  have ei2:((E.length+1:Nat):Int)=2*(n:Int)+1:=by omega
  rw[ei2,ei];rfl
 have sI:∀j,j<n->iv s2.ops ((ids (n+1)).getD j 0)=iv s.ops ((ids n).getD j 0):=λj hj=>by rw[AT (by omega),AT hj,q2];exact adf (by omega) (by omega)
 have aik:iv s2.ops ((ids (n+1)).getD n 0)=⟨(n:Int)+1,th,2*(n:Int),2*(n:Int)+1,o,r⟩:=by rw[AT (by omega),q2,<-afN];exact XS _ _
 have hw:∀j,j<=n->G9 v s2.ops (ids (n+1)) j=G9 v s.ops (ids n) j:=λj hj=>M1 j λi hi=>by rw[sI i (by omega)]
 refine⟨s2,by rw[cx];exact k2,by simp[hl];omega,by rw[q2];simp[afN],λt=>?_,by rw[q2],?_,λj p hp=>?_,λj hj=>?_,?_⟩
 ·rw[q2];simp only;by_cases e:t=th
  ·rw[an e]
  ·rw[ap e,ap e];exact h.bsy t
 ·rw[q2];simp only;rw[AK,AK,h.wg,ap (show¬n+1=0 by omega)];split<;>rfl
 ·rw[q2]at hp;rcases oW.1 hp with hp|⟨rfl,rfl⟩
  ·exact h.at_ j p hp
  ·rw[afN];exact⟨rfl,rfl⟩
 ·by_cases e:j=n
  ·subst e;rw[hw _ (aQ _),aik,h.last];exact hr.symm
  ·rw[hw j (by omega),sI j (by omega)];exact h.st j (by omega)
 ·show(rZ (G9 v s2.ops (ids (n+1)) n) (iv s2.ops ((ids (n+1)).getD n 0)).op).1=_;rw[hw _ (aQ _),aik,h.last]
section
variable {l:List iw} {os:List Int} {n:Nat} {f:Nat->Int}
def WJ(hl:l.length=n)(hn:os.length=n)(hf:∀j,j<n->os.getD j 0=f j)(hr:∀j,j<n->1<=f j/\f j<=n)(hi:∀i j,i<n->j<i->f j≠f i):∀j,j<os.length->EV l os j=0:=λj hj=>by unfold EV;have:=hr j (by omega);rw[hf j (by omega),bM,ap];intro hm;obtain⟨i,h1,h2⟩:=(D9 (by omega)).1 hm;rw[hf i (by omega)]at h2;exact hi j i (by omega) h1 h2
def WC(hl:l.length=n)(hn:os.length=n)(hf:∀j,j<n->os.getD j 0=f j)(hs:∀j,j<n->∃i,i<n/\f i=(j:Int)+1):¬Pk2 l os:=by rintro⟨j,h1,h2,h3⟩;obtain⟨i,i1,i2⟩:=hs j (by omega);exact h3 (adI.2 ⟨i,by omega,by rw[hf i i1,i2]⟩)
def VH(hl:l.length=n)(hn:os.length=n)(hf:∀j,j<n->os.getD j 0=f j)(hr:∀j,j<n->1<=f j/\f j<=n)(sI:∀(j:Nat) (o:iw),l[j]? =some o->o.fr=2*(j:Int)/\o.to=2*(j:Int)+1)(i:Nat)(hi:i<n):ZS l os i<->∃k,i<k/\k<n/\f k<f i:=by
 have key:∀j,j<n->(iv l (f j)).fr=2*(f j-1)/\(iv l (f j)).to=2*(f j-1)+1:=λj hj=>by
  have:=hr j hj;have lA:(f j-1).toNat<l.length:=by omega
  have h:=sI (f j-1).toNat _ (bN lA);have e:iv l (f j)=l[(f j-1).toNat]:=by unfold iv;rw[jt,bN lA];rfl
  rw[e];omega
 unfold ZS;constructor
 ·rintro⟨k,h1,h2,h3⟩;refine⟨k,h1,by omega,?_⟩;rw[hf k (by omega),hf i hi]at h3;have a:=key k (by omega);have b:=key i hi;unfold OB at h3;simp only[bA,ip]at h3;omega
 ·rintro⟨k,h1,h2,h3⟩;refine⟨k,h1,by omega,?_⟩;rw[hf k (by omega),hf i hi];have a:=key k (by omega);have b:=key i hi;have c:=hr k h2;unfold OB;simp only[bA,ip];omega
end
def PlI.wit{v:fo}{E:List lD}{x:cI}{n:Nat}{s:TL}(h:PlI v E x n s)(hv:(du v).2=0)(hn:n<=40):PM v E (ids n) x 0 0:=by
 have hl:=A2 n;have hf:∀j,j<n->(ids n).getD j 0=(j:Int)+1:=λj hj=>AT hj
 have hp:Vp s.ops (ids n) 0 0:=.vD (WJ h.ops hl hf (λj hj=>by omega) (λi j h1 h2=>by omega)) (WC h.ops hl hf λj hj=>⟨j,hj,rfl⟩) λj hj hk=>by obtain⟨k,h1,h2,h3⟩:=(VH h.ops hl hf (λj hj=>by omega) h.at_ j (by omega)).1 hk;omega
 have:=PM.vD (v:=v) (.ok hv (by have:=h.len;omega) h.run) h.run (by omega) hp (λj hj hb=>hb.2 (h.st j (by omega)));rwa [hl,h.last]at this
def sw(k j:Nat):Int:=if j=k+1 then(k:Int)+1 else if j=k then(k:Int)+2 else(j:Int)+1
def akU{n k j:Nat}(hk:k+1<n)(hj:j<n):(((ids n).set k ((k:Int)+2)).set (k+1) ((k:Int)+1)).getD j 0=sw k j:=by
 have hl:=A2 n;unfold sw;rw[jt];by_cases e1:j=k+1
 ·subst e1;rw[vK (by rw[pO];omega),an rfl];rfl
 ·rw[vw (bc e1),ap e1];by_cases e2:j=k
  ·subst e2;rw[vK (by omega),an rfl];rfl
  ·rw[vw (bc e2),ap e2,<-jt];exact AT hj
def PlI.swap{v:fo}{E:List lD}{x:cI}{n k:Nat}{s:TL}(h:PlI v E x n s)(hv:(du v).2=0)(hn:n<=40)(hk:k+1<n):PM v E (((ids n).set k ((k:Int)+2)).set (k+1) ((k:Int)+1)) CY k 9:=by
 have hl:(((ids n).set k ((k:Int)+2)).set (k+1) ((k:Int)+1)).length=n:=by rw[pO,pO,A2]
 have hf:∀j,j<n->_=sw k j:=λj hj=>akU hk hj
 have hr:∀j,j<n->1<=sw k j/\sw k j<=n:=λj hj=>by unfold sw;split<;>(try split)<;>omega
 have h3:=VH h.ops hl hf hr h.at_;refine .pick (.ok hv (by have:=h.len;omega) h.run) h.run (by omega) (.three (WJ h.ops hl hf hr λi j h1 h2=>?_) (WC h.ops hl hf λj hj=>?_) (by omega) (λj hj hp=>?_) ((h3 k (by omega)).2 ⟨k+1,by omega,hk,?_⟩)) (by decide)
 ·unfold sw;split<;>(try split)<;>(try split)<;>(try split)<;>omega
 ·by_cases e1:j=k
  ·exact⟨k+1,hk,by subst e1;unfold sw;rw[an rfl]⟩
  ·by_cases e2:j=k+1
   ·exact⟨k,by omega,by subst e2;unfold sw;rw[bM,an rfl];omega⟩
   ·exact⟨j,hj,by unfold sw;rw[ap e2,ap e1]⟩
 ·obtain⟨i,i1,i2,i3⟩:=(h3 j (by omega)).1 hp;unfold sw at i3;split at i3<;>(try split at i3)<;>(try split at i3)<;>(try split at i3)<;>omega
 ·unfold sw;rw[an rfl,bM,an rfl];omega
end Go.Proofs.YtmaoneengdafhaaGreatDoor
namespace Go.Proofs.YtmaoneengdafhaaGreatDoor
open Go Go.Eng Go.RowKit
def afo(l c:Nat):zG (.slice none l c) (.slice none l c)=true:=by simp[zG]
def afv{W:AW}{n:Nat}{t e:af}{v:ad}(h:DR Tryz.prog W (n+1) t [v])(ht:Tryz.prog.underlying t=some (.slice e)):∃a l c,v=.slice a l c/\(a=none\/∃b,a=some ⟨b,0,none⟩):=by obtain⟨a,len,cap,e1,-,-,h3,-⟩:=h.alf ht;injection e1 with e1;exact⟨a,len,cap,e1,h3⟩
def arp{v:ad}(h:∃a l c,v=.slice a l c/\(a=none\/∃b,a=some ⟨b,0,none⟩)):zG v v=true/\Eng.one v=true:=by
 obtain⟨a,l,c,rfl,rfl|⟨b,rfl⟩⟩:=h
 ·exact⟨afo _ _,rfl⟩
 ·exact⟨AV _ _ _ _,rfl⟩
def amU{W:AW}{n:Nat}{c:List ad}(h:DR Tryz.prog W (n+3) 63 c):∃s:mV,∀pre post,aeB W (pre++(c++post)) pre.length s:=by
 obtain⟨c1,c2,rfl,h1,h2⟩:=(h.struct Tryz.underlying63).cons;obtain⟨c3,c4,rfl,h3,h4⟩:=h2.cons;obtain⟨c5,c6,rfl,h5,h6⟩:=h4.cons;obtain rfl:=h6.nil;obtain⟨s,rfl,_⟩:=h1.str Tryz.underlying9;obtain⟨rv,zs,rfl,hz,_⟩:=h3.ints Tryz.underlying28 Tryz.underlying3 (by kernel_rfl);obtain⟨q,rfl⟩:=h5.int Tryz.underlying3;refine⟨⟨s.data.toList,zs,q⟩,λpre post=>⟨?_,?_,rv,?_,hz,arp (afv h3 Tryz.underlying28)⟩⟩
 ·rw[pY (by omega),SJ];simp
 ·rw[pY (by omega),Ib];rfl
 ·rw[pY (by omega),Ib];rfl
def ajt{W:AW}{n:Nat}{c:List ad}(h:DR Tryz.prog W (n+5) 24 c):∃(v:fo) (sv:ad),c=[.ae v.sh,.ae v.cT,.ae v.fm,sv]/\eW W sv v.ax:=by obtain⟨c1,c2,rfl,h1,h2⟩:=(h.struct Tryz.underlying24).cons;obtain⟨c3,c4,rfl,h3,h4⟩:=h2.cons;obtain⟨c5,c6,rfl,h5,h6⟩:=h4.cons;obtain⟨c7,c8,rfl,h7,h8⟩:=h6.cons;obtain rfl:=h8.nil;obtain⟨a,rfl⟩:=h1.int Tryz.underlying3;obtain⟨b,rfl⟩:=h3.int Tryz.underlying2;obtain⟨d,rfl⟩:=h5.int Tryz.underlying2;obtain⟨sv,l,rfl,r1,a',c',r2,r3,r4,r5⟩:=h7.row Tryz.underlying22 (at_:=aeB W) (λc _ hc=>amU hc);exact⟨⟨a,b,d,l⟩,sv,rfl,r1,a',c',r2,.inl ⟨r3,r4⟩,r5⟩
def aoc{W:AW}{n:Nat}{c:List ad}(h:DR Tryz.prog W (n+2) 46 c):∃a b d e:Int,c=[.int .u32 a,.int .u32 b,.int .u64 d,.int .u64 e]:=by obtain⟨c1,c2,rfl,h1,h2⟩:=(h.struct Tryz.underlying46).cons;obtain⟨c3,c4,rfl,h3,h4⟩:=h2.cons;obtain⟨c5,c6,rfl,h5,h6⟩:=h4.cons;obtain⟨c7,c8,rfl,h7,h8⟩:=h6.cons;obtain rfl:=h8.nil;obtain⟨a,rfl⟩:=h1.int Tryz.underlying43;obtain⟨b,rfl⟩:=h3.int Tryz.underlying43;obtain⟨d,rfl⟩:=h5.int Tryz.underlying44;obtain⟨e,rfl⟩:=h7.int Tryz.underlying44;exact⟨a,b,d,e,rfl⟩
def ajQ{W:AW}{n:Nat}{t:af}{cs:List ad}(h:DR Tryz.prog W (n+1) t cs)(ht:Tryz.prog.underlying t=some (.int .i64)):∃m,cs=[.ae m]/\m<9223372036854775808:=by unfold DR at h;rw[ht]at h;obtain⟨m,h1,-,h3⟩:=h;have:IntKind.i64.max=9223372036854775807:=rfl;exact⟨m,h1,by omega⟩
def an0{W:AW}{n:Nat}{c:List ad}(h:DR Tryz.prog W (n+3) 48 c):∃o:jC,c=(wa o).cells.toList/\o.nw<9223372036854775808:=by obtain⟨c1,r1,rfl,h1,h⟩:=(h.struct Tryz.underlying48).cons;obtain⟨c2,r2,rfl,h2,h⟩:=h.cons;obtain⟨c3,r3,rfl,h3,h⟩:=h.cons;obtain⟨c4,r4,rfl,h4,h⟩:=h.cons;obtain⟨c5,r5,rfl,h5,h⟩:=h.cons;obtain⟨c6,r6,rfl,h6,h⟩:=h.cons;obtain⟨c7,r7,rfl,h7,h⟩:=h.cons;obtain⟨c8,r8,rfl,h8,h⟩:=h.cons;obtain⟨c9,r9,rfl,h9,h⟩:=h.cons;obtain rfl:=h.nil;obtain⟨x1,rfl⟩:=h1.int Tryz.underlying3;obtain⟨x2,rfl⟩:=h2.int Tryz.underlying43;obtain⟨x3,rfl⟩:=h3.int Tryz.underlying2;obtain⟨x4,rfl⟩:=h4.int Tryz.underlying3;obtain⟨x5,rfl⟩:=h5.int Tryz.underlying3;obtain⟨x6,rfl⟩:=h6.int Tryz.underlying3;obtain⟨x7,rfl⟩:=h7.int Tryz.underlying43;obtain⟨a,b,d,e,rfl⟩:=aoc h8;obtain⟨x9,rfl,hb9⟩:=ajQ h9 Tryz.underlying2;exact⟨⟨x1,x2,x3,x4,x5,x6,x7,a,b,d,e,x9⟩,rfl,hb9⟩
section
variable {H:Type} {enc:af×ad->H} {w:ar} {σ:dz} {W:AW} {v0:ad} {d:DataW H} {p:List di} {r:Reach} {b0:Nat}
def alA{t:af}{fs:Array Field}(ht:Tryz.prog.underlying t=some (.struct fs))(hv:Value.okWide Tryz.prog w r b0 t v0):∃cs,v0=.agg cs:=by unfold Value.okWide at hv;rw[ht]at hv;obtain⟨cs,h,_⟩:=hv;exact⟨cs,h⟩
end
def aoH{w:ar}(hl:GR lX w.heap):np (σG lX) (WG lX 5) w:=⟨aiR rfl hl,ah4,1,_,rfl⟩
def avs:GW (WG lX 5):=afP rfl (λx hx=>by
 have h2:x=(0,yp)\/x=(1,Pt)\/x=(3,Ow)\/x=(4,OP):=by simpa[lX]using hx
 rcases h2 with rfl|rfl|rfl|rfl<;>rfl)
def aqt{W:AW}(h:Le (WG lX 5) W):GW W:=avs.mono h
def anW:Kids Tryz.prog (· <Tryz.prog.types.size):=kids_rows (by kernel_rfl) (by kernel_rfl)
def apT:∀t e,t<Tryz.prog.types.size->Tryz.prog.underlying t=some (.slice e)->0<Tryz.prog.cellsOf e:=slices_full_of Tryz.prog (by kernel_rfl)
def T1(mQ:cl Tryz.prog ai.ng ba){w:ar}{σ:dz}{W:AW}(ho:np σ W w)(hs:Sub (σG lX) σ){i:Nat}{args cZ:List ad}(hr:LR σ args cZ)(h:ba (.func (.func i) #[] #[]) args W=some (.bool true,W)):
 Calls Tryz.prog i cZ.toArray w λe w'=>e=.returned (.bool true)/\eE w w':=by
 have hG:BC σ [0,1,3,4]:=λg hg=>by obtain⟨e,he⟩:=(abl (gs:=lX) (ng:=[0,1,3,4]) rfl) g hg;exact⟨e,hs _ _ he⟩
 exact aat mQ ho.rel hG ho.ro hr rfl h
def PM.fb{v:fo}{l:List lD}{os:List Int}{x:cI}{a e:Int}(h:PM v l os x a e)(hv:v.ax.length<1000)(hr:∀s∈v.ax,s.rows.length<1000)(ES:∀e∈l,e.op.nw<9223372036854775808):x.v.ax.length<1000/\(∀s∈x.v.ax,s.rows.length<1000)/\x.st.length<=10000/\x.qs.length<=10000/\∀l∈x.qs,l.length<=10000:=by
 have h0:CY.v.ax.length<1000/\(∀s∈CY.v.ax,s.rows.length<1000)/\CY.st.length<=10000/\CY.qs.length<=10000/\∀l∈CY.qs,l.length<=10000:=⟨by decide,(by intro s hs;cases hs),by decide,by decide,(by intro l hl;cases hl)⟩;cases h with
 |He _ _=>exact h0
 |SN _ _ _=>exact h0
 |pick _ _ _ _ _=>exact h0
 |RC _ _ _ _ _ _ _=>exact h0
 |vD h1 hs _ _ _=>obtain⟨b,hb⟩:=Ix (os:=os) (VJ h1 rfl) hv (aeE hs ES) os.length;exact⟨b.v,by rw[hb];exact hr,b.st,b.qs,b.q⟩
def Hu.parts{Z U:AW}{val:ad}{x:cI}(h:Hu Z U val x):∃sv sq qq,val=ka x sv sq qq/\Eng.one sv=true/\Eng.one sq=true/\Eng.one qq=true:=by obtain⟨sv,sq,qq,e,h1,h2,h3⟩:=h;exact⟨sv,sq,qq,e,row_one h1.1,CR h2,row_one h3⟩
section
variable {H:Type} {enc:af×ad->H} {w:ar} {σ:dz} {W:AW} {v0:ad} {d:DataW H} {p:List di} {r:Reach} {b0:Nat}
def aaq{t e:af}(ht:Tryz.prog.underlying t=some (.slice e))(hv:Value.okWide Tryz.prog w r b0 t v0):∃a l c,v0=.slice a l c:=by
 unfold Value.okWide at hv;rw[ht]at hv;simp only at hv;unfold Cell.okWide at hv;rw[ht]at hv;cases v0 with
 |slice a l c=>exact⟨a,l,c,rfl⟩
 |_=>simp only[Cell.ok,ht]at hv
end
end Go.Proofs.YtmaoneengdafhaaGreatDoor
namespace Go.Proofs.YtmaoneengdafhaaGreatDoor
open Go Go.Eng
def J9{α:Type}{l:List α}{i:Nat}(h:i<l.length):l.take (i+1)=l.take i++[l[i]]:=jv h
def Vc{W:AW}{v:ad}{l:List Int}(h:gG W v l)(hl:l.length<=1000)(h0:l≠[])(hp:∀a∈l,0<=a):ba (.func (.func 40) #[] #[]) [v] W=some (.ae (Pp l),W):=by
 refine aP rfl ?_ BA;unfold wy;have pF:0<l.length:=vP.2 h0;have t0:¬((l.length:Int)<1):=by omega
 obtain⟨p0,i0,k0⟩:=gG.get h pF;have i0':∀W',pc 1 v (.ae 0) W'=some (p0,W'):=λW'=>i0 W' .i64
 have hm1:Pp (l.take 1)=l[0]:=by rw[J9 (i:=0) pF,AK];have:=hp l[0] (cD _);show max 0 _=_;omega
 simp only[SX,h.len yY,t0,i0',k0 _ (Le.refl _)];refine bh (l.length-1) (by omega) (λi R V=>V=W/\R 0=v/\R 3=.ae (Pp (l.take (i+1)))/\R 4=.ae ((i:Int)+1)) (λr=>r.2.2=W/\r.1=.exit 0/\r.2.1 3=.ae (Pp l)) ⟨rfl,rfl,by rw[hm1];rfl,rfl⟩ ?_ ?_ ?_
 ·rintro i R V hi ⟨rfl,r0,r3,r4⟩;unfold mr;have rq:i+1<l.length:=by omega
  have t1:((i:Int)+1<(l.length:Int)):=by omega
  have t2:=λW'=>bm W' ((i:Int)+1) 1
  have e3:((i+1:Nat):Int)+1=(i:Int)+1+1:=by omega
  obtain⟨p1,i1,i3⟩:=gG.get h rq;have i1':∀W',pc 1 v (.ae ((i:Int)+1)) W'=some (p1,W'):=λW'=>i1 W' .i64
  simp only[SX,r0,r3,r4,h.len yY,t1,i1',i3 _ (Le.refl _),amr,t2,ah];exact .inl ⟨ak,ak,r0,by rw[J9 rq,AK];rfl,by rw[e3];rfl⟩
 ·rintro R V ⟨rfl,r0,r3,r4⟩;unfold mr;have e:((l.length-1:Nat):Int)+1=(l.length:Int):=by omega
  rw[e]at r4;rw[show l.length-1+1=l.length by omega,cM]at r3;have t1:¬((l.length:Int)<(l.length:Int)):=by omega
  simp only[SX,r0,r4,h.len yY,t1,ah];exact⟨by simp,ak,ak,r3⟩
 ·rintro⟨q,R,V⟩ ⟨rfl,rfl,r3⟩;simp only at r3;simp only[SX,r3,ah];exact⟨ak,Le.refl _⟩
noncomputable def KP(s:TL):Int:=Pp s.wg
def abR{l:List lD}{s:TL}(hs:wD l l.length s):∀a∈s.wg,0<=a:=λa ha=>by obtain⟨k,hk,rfl⟩:=List.mem_iff_getElem.1 ha;have Ns:=hs.inv.opl;have:=hs.amL.1 k (by omega);rw[bN hk]at this;injection this with this;rw[this];omega
def Sp{W:AW}{v:fo}{sv ev:ad}{l:List lD}(hG:GW W)(h:HiA W v sv ev l){a e:Int}(hA:N4 (du v).2 l a e){s:TL}(hs:e=0->wD l l.length s):ba (.func (.func 14) #[] #[]) [P5 v sv ev] W=some (.tuple #[.ae (if e=0 then KP s else 0),.ae e],W):=by
 refine aP rfl ?_ F7;unfold BN;have aM:Le W (W.add (.cells [.ae v.sh,.ae v.cT,.ae v.fm,sv,ev])):=(Le.refl W).add _;have hg:(W.add (.cells [.ae v.sh,.ae v.cT,.ae v.fm,sv,ev])).get W.next=some (.cells [.ae v.sh,.ae v.cT,.ae v.fm,sv,ev]):=AW.aI _ _;simp only[SX];generalize W.add (.cells [.ae v.sh,.ae v.cT,.ae v.fm,sv,ev])=W1 at *;have cB:dJ 5 (.pointer (some ⟨W.next,0,none⟩)) W1=some (P5 v sv ev,W1):=bB (ao hg) rfl;obtain⟨q,W',hc,a',e',p,hA',rfl,l3,hp⟩:=Xe (hG.mono aM) (h.mono aM);obtain⟨rfl,rfl⟩:=hA.HI hA';by_cases he:e=0;case neg=>have d:decide (e=0)=false:=aL he;simp only[SX,cB,hc,d,ap he,ah];exact⟨ak,aM.trans l3⟩
 subst he;rcases hp with⟨hp,-⟩|⟨-,s',tb,ov,pv,CP,rfl,m1,m2,m3,m4,m5⟩
 ·exact absurd rfl hp
 have:=(hs rfl).HI CP;subst this;have d:decide ((0:Int)=0)=true:=rfl;have c6:bz (.pointer (some ⟨tb,6,none⟩)) W'=some (pv,W'):=BJ m3 rfl;have Ns:=CP.inv.opl;have azq:=(hA.vD rfl).2.1;by_cases hz:s'.wg=[]
 ·have d2:decide ((s'.wg.length:Int)=0)=true:=aK (by rw[hz];rfl);have hw:KP s'=0:=by unfold KP;rw[hz];rfl
  simp only[SX,cB,hc,aR,aJ,c6,m5.len yY,d2,bi,hw,ah];exact⟨ak,aM.trans l3⟩
 ·have pF:0<s'.wg.length:=vP.2 hz;have d2:decide ((s'.wg.length:Int)=0)=false:=cg;have hm:=Vc m5 (by omega) hz (abR CP);simp only[SX,cB,hc,aR,aJ,c6,m5.len yY,d2,hm,bi,ah];exact⟨rfl,aM.trans l3⟩
def as1:kZ Tryz.prog #[25,25] 24 176=true:=by kernel_rfl
def aql{lo:Nat}{W:AW}{v:ad}{l:List lD}(h:EL lo W 24 Io v l):EvL W v l:=h.row PB (AN PB)
abbrev S6(v:fo)(sv ev:ad):List ad:=[.ae v.sh,.ae v.cT,.ae v.fm,sv,ev]
def aj2:fo:=⟨0,0,0,[]⟩
abbrev D5:ad:=.slice none 0 0
def atL(W:AW):dm Tryz.prog 27 W=some (.pointer (some ⟨W.next,0,none⟩),W.add (.cells (S6 aj2 D5 D5))):=aS (by kernel_rfl) rfl
def awE{W:AW}{b:Nat}{v0 v:fo}{s0 e0 sv u:ad}(h:W.get b=some (.cells (S6 v0 s0 e0)))(h1:Eng.one sv=true)(h2:Eng.one u=true):eZ 5 (.pointer (some ⟨b,0,none⟩)) (P5 v sv u) W=some (aj,W.put b (.cells (S6 v sv u))):=
 gE h rfl rfl (by simp[h1,h2,cF])
def Oe{W:AW}{b:Nat}{v:fo}{sv u:ad}(x:W.get b=some (.cells (S6 v sv u))):dJ 5 (.pointer (some ⟨b,0,none⟩)) W=some (P5 v sv u,W):=bB (ao x) rfl
def alF{W:AW}{b:Nat}{v:fo}{sv u:ad}(x:W.get b=some (.cells (S6 v sv u))):bz (.pointer (some ⟨b,4,none⟩)) W=some (u,W):=BJ x rfl
def apu{n:Int}(h0:0<=n)(h1:n<=65535)(W:AW):tY Tryz.prog 42 3 (.int .u16 n) W=some (.ae n,W):=by have:tY Tryz.prog 42 3 (.int .u16 n) W=some (.ae (IntKind.i64.wrap n),W):=aS (by kernel_rfl) rfl;rw[this,wm (by omega) (by omega)]
def agq{x:Int}{n:Nat}(hx:0<=x)(hn:1<n):∃k:Nat,k+1<n/\x.tmod ((n:Int)-1)=(k:Int):=by refine⟨x.toNat % (n-1),by have:=Nat.mod_lt x.toNat (show n-1>0 by omega);omega,?_⟩;rw[Int.ofNat_tmod,Int.toNat_of_nonneg hx,show((n-1:Nat):Int)=(n:Int)-1 by omega]
section
variable {X:AW} {v:fo} {sv u atv ov:ad} {os ts:List Int} {l:List lD} {wb B sb c:Nat} {st:cI} {ρ:Type}
end
def Cc.sub{X X':Nat->Prop}{Z U:AW}{val:ad}{x:cI}(h:Cc X Z U val x)(hs:∀b,b<U.next->X' b->X b):Cc X' Z U val x:=λV hv hg=>h V hv λb h1 h2=>hg b (λh3=>h1 (hs b h2 h3)) h2
def ZH{α:Type}{P:Program}{W:AW}{ts:Array af}{z bytes:Nat}{f:α->List ad}{v:ad}{l l2:List α}{bo:Option Nat}(hk:kZ P ts z bytes=true)(hf:∀a,(f a).length=z)(h1:∀a,(f a).all Eng.one=true)
 (h:fE W z f v l bo){b c:Nat}(hc:aH W b=some (l2.flatMap f))(h0:l2≠[])(hb:l.length+l2.length<1099511627776)(lF:(2*(l.length+l2.length)+192)*bytes<=281474976710656):
 ∃v' W',dn P W ts v (.slice (some ⟨b,0,none⟩) l2.length c)=some (v',W')/\fE W' z f v' (l++l2) (some W.next)/\W'.next=W.next+1/\∀b,b<W.next->bo≠some b->W'.get b=W.get b:=by
 have hl:(l2.flatMap f).length=l2.length*z:=bZ hf l2;have hn:l2.flatMap f=((l2.flatMap f).drop 0).take (l2.length*z):=by rw[jj,<-hl,cM]
 have hp2:0<l2.length:=vP.2 h0;have ha:=D0 h1 l2;rcases h with⟨rfl,rfl,rfl⟩|⟨h0',B,rfl,i2,rfl,i4⟩
 ·refine⟨_,_,IA (b:=b) (o:=0) (c:=c) hk hc hn hl hp2 ha (by simp at hb;omega) (by simpa using lF),.inr ⟨by simpa using h0,W.next,rfl,by rw[AW.av];omega,by simp,by rw[AW.aI];simp⟩,AW.av _ _,λd hd _=>AW.aE _ _ (by omega)⟩
 ·have pF:0<l.length:=vP.2 h0';refine⟨_,_,Pw (b:=b) (o:=0) (c:=c) hk hc hn hl hp2 ha i4 (bZ hf l) hb lF pF,.inr ⟨by simp[h0'],W.next,rfl,by rw[AW.av,AW.dr];omega,by simp,?_⟩,by rw[AW.av,AW.dr],λd hd fp=>?_⟩
  ·have:=(W.kill B).aI (.cells (l.flatMap f++l2.flatMap f));rw[AW.dr]at this;rw[this,iS]
  ·rw[AW.aE _ _ (by rw[AW.dr];omega),AW.de _ (λe=>fp (by rw[e]))]
def ah0(o:jC):(AJ o).length=12:=rfl
abbrev OpL(W:AW)(v:ad)(l:List jC):Prop:=Row W 12 (vl 12 AJ) v l
def OpL.get{W:AW}{v:ad}{l:List jC}(h:OpL W v l){i:Nat}(hi:i<l.length):
 ∃p,(∀W' k,pc 12 v (.int k (i:Int)) W'=some (p,W'))/\∀W',Le W W'->dJ 12 p W'=some (wa l[i],W'):=by
 obtain⟨b,o,cs,h1,h2,h3,h4⟩:=h.elem hi;refine⟨_,h1,λW' aM=>?_⟩;have e0:(cs.drop o).take 12=AJ l[i]:=h4;have:=bB (n:=12) (o:=o) (W:=W') (by rw[aM.aH h2];exact h3) (by rw[e0];rfl);rw[e0]at this;exact this
def aeR:((#[54]:Array af)[0]?).bind Tryz.prog.underlying=some (.slice 48):=by kernel_rfl
def alY(n:Int)(W:AW):cJ Tryz.prog 28 1 [(0,.ae n)] W=some (.slice (some ⟨W.next,0,none⟩) 1 1,W.add (.cells (fJ n))):=aS (by kernel_rfl) rfl
def amP(a b:lD)(W:AW):cJ Tryz.prog 25 2 [(0,evV a),(1,evV b)] W=some (.slice (some ⟨W.next,0,none⟩) 2 2,W.add (.cells ([a,b].flatMap Io))):=aS (by kernel_rfl) rfl
def amB(n th:Int)(o:jC)(W:AW):dU Tryz.prog 52 [(0,.ae n),(1,.ae th),(3,wa o)] W=some (evV ⟨n,th,false,o,fw⟩,W):=aS (by kernel_rfl) rfl
def amb(n th:Int)(r:mK)(W:AW):dU Tryz.prog 52 [(0,.ae n),(1,.ae th),(2,.bool true),(4,gt r)] W=some (evV ⟨n,th,true,UB,r⟩,W):=aS (by kernel_rfl) rfl
def av7{U:AW}{b:Nat}{v:fo}{sv w w':ad}(hc:U.get b=some (.cells (S6 v sv w)))(h1:w'.cells=#[w']/\Eng.one w'=true):eZ 1 (.pointer (some ⟨b,4,none⟩)) w' U=some (aj,U.put b (.cells (S6 v sv w'))):=by rw[qC h1.1 h1.2,agp hc];rfl
structure PlW (Z V U:AW) (v:fo) (sv u ov:ad) (E:List lD) (n:Nat) (val:ad) (x:cI) (bo bp:Option Nat):Prop where
 le:Le V U
 nx:V.next+2<=U.next
 s:Bi U V.next val
 h:U.get (V.next+1)=some (.cells (S6 v sv u))
 e:fE U 24 Io u E bo
 o:fE U 1 fJ ov (ids n) bp
 d:(∀B,bo=some B->V.next+2<=B/\bp≠some B)/\∀B,bp=some B->V.next+2<=B
 m:Cc (λb=>b=V.next\/b=V.next+1\/bo=some b\/bp=some b) Z U val x
def PlW.mono{Z V U U':AW}{v:fo}{sv u ov:ad}{E:List lD}{n:Nat}{val:ad}{x:cI}{bo bp:Option Nat}(h:PlW Z V U v sv u ov E n val x bo bp)(aM:Le U U'):PlW Z V U' v sv u ov E n val x bo bp:=by have:=h.nx;have:=aM.next;exact⟨h.le.trans aM,by omega,h.s.keep (aM.get _ (by omega)),(aM.get _ (by omega)).trans h.h,h.e.keep (by omega) λB hB=>aM.get B (h.e.lt hB),h.o.keep (by omega) λB hB=>aM.get B (h.o.lt hB),h.d,h.m.mono aM⟩
def ahY{U U2:AW}{val:ad}{r:mK}(aM:Le ((U.add (.cells iV)).add (.cells (ig fw))) U2)(hv:∃(x:cI) (sv sq qq:ad),val=ka x sv sq qq/\Eng.one sv=true/\Eng.one sq=true/\Eng.one qq=true):
 ∃U4 U5,eZ 7 (aZ U.next) val U2=some (aj,U4)/\eZ 9 (aZ (U.next+1)) (gt r) U4=some (aj,U5)/\Bi U5 U.next val/\U5.get (U.next+1)=some (.cells (ig r))/\U5.next=U2.next/\∀b,b≠U.next->b≠U.next+1->U5.get b=U2.get b:=by
 have n1:((U.add (.cells iV)).add (.cells (ig fw))).next=U.next+2:=rfl;have h0:Bi ((U.add (.cells iV)).add (.cells (ig fw))) U.next (ka CY dq dq dq):=(Bi.zero U).keep (AW.aE _ _ (by rw[AW.av];omega));obtain⟨c,k1,k2⟩:=(h0.keep (aM.get _ (by omega))).put hv;have g1:((U.add (.cells iV)).add (.cells (ig fw))).get (U.next+1)=some (.cells (ig fw)):=AW.aI (U.add (.cells iV)) _;have g2:(U2.put U.next c).get (U.next+1)=some (.cells (ig fw)):=(AW.ay _ _ (by omega)).trans ((aM.get _ (by omega)).trans g1);exact⟨_,_,k1,gE (vs:=(ig r).toArray) g2 rfl rfl rfl,k2.keep (AW.ay _ _ (by omega)),AW.aW _ _ _,rfl,λb h1 h2=>(AW.ay _ _ (bc h2)).trans (AW.ay _ _ (bc h1))⟩
section
variable {W V:AW} {lv sv:ad} {l:List jC} {v:fo} {ρ:Type}
structure PlJ (W V U:AW) (v:fo) (sv:ad) (i:Nat) (ov:ad):Prop where
 ex:∃(n:Nat) (E:List lD) (x:cI) (s:TL) (val u:ad) (bo bp:Option Nat),n<=i/\PlI v E x n s/\PlW W V U v sv u ov E n val x bo bp/\Bnd x/\x.v=v/\∀e∈E,e.op.nw<9223372036854775808
def al2{x:cI}{o:jC}(h:(rZ x o).2.2=0):Bp o=0:=by
 unfold rZ at h;by_cases c:PK x=0
 ·rw[an c]at h;unfold yw at h;by_cases d:Bp o=0
  ·exact d
  ·rw[ap d]at h;exact absurd h d
 ·rw[ap c]at h;exact absurd h c
def Y9{R:ai.Fr}{U:AW}{ov0:ad}{K:LT->Option ρ}{G:ρ->Prop}(hl:OpL W lv l)(ayK:l.length<=40)(ES:∀o∈l,o.nw<9223372036854775808)(hz:Le W V)(he:(du v).2=0)
 (h:PlJ W V U v sv 0 ov0)(r1:R 1=lv)(r7:R 7=aZ V.next)(r9:R 9=aZ (V.next+1))(pi:R 10=ov0)(od:R 11=.ae 0)
 (hK:∀R' U' ov,PlJ W V U' v sv l.length ov->R' 2=R 2->R' 7=aZ V.next->R' 9=aZ (V.next+1)->R' 10=ov->Ok (K (.exit 0,R',U')) G):
 Ok (fb (fZ (gV ba) R U) K) G:=by
 refine bh l.length (by omega) (λi R' U=>R' 1=lv/\R' 2=R 2/\R' 7=aZ V.next/\R' 9=aZ (V.next+1)/\R' 11=.ae (i:Int)/\PlJ W V U v sv i (R' 10))
  (λr=>r.1=.exit 0/\r.2.1 2=R 2/\r.2.1 7=aZ V.next/\r.2.1 9=aZ (V.next+1)/\PlJ W V r.2.2 v sv l.length (r.2.1 10))
  ⟨r1,rfl,r7,r9,od,by rw[pi];exact h⟩ ?_ ?_ ?_
 ·rintro i R' U hi ⟨r1,r2,r7,r9,od,h⟩;generalize pi:R' 10=ov at h;obtain⟨n,E,x,s,val,u,bo,bp,hni,hI,h,hb,hv,hE⟩:=h.ex;unfold gV;have t1:decide ((i:Int)<(l.length:Int))=true:=cK;have t2:=λW'=>bm W' i 1
  have e3:((i+1:Nat):Int)=(i:Int)+1:=by omega
  have ln:=λW'=>Row.len hl aeR W' 3 #[false]
  obtain⟨p,p1,p2⟩:=hl.get hi;have hn:=h.nx;have hVU:=h.le.next;have hzn:=hz.next;have hWU:Le W U:=hz.trans h.le;obtain⟨Ua,hUa⟩:∃Ua,Ua=(U.add (.cells iV)).add (.cells (ig fw)):=⟨_,rfl⟩;have la:Le U Ua:=by rw[hUa];exact((Le.refl _).add _).add _
  have na:Ua.next=U.next+2:=by rw[hUa];rfl
  have aku:(l[i]).nw<9223372036854775808:=ES _ (cD hi);generalize l[i]=o at *;obtain⟨eK,U2,d1,d2,d3⟩:=amZ ((h.m.mono la).at) (hWU.trans la) (by rw[hv];exact Iy he) hb aku;have d2n:=d2.next;have md2:Cc (λb=>b=V.next\/b=V.next+1\/bo=some b\/bp=some b\/b=U.next\/b=U.next+1\/U2.next<=b) W U2 eK (rZ x o).1:=by
   refine Cc.ofR d3 ((h.m.sub λb hb hx=>?_).mono la) d2 λb hx=>?_
   ·rcases hx with e|e|e|e|e|e|e
    ·exact .inl e
    ·exact .inr (.inl e)
    ·exact .inr (.inr (.inl e))
    ·exact .inr (.inr (.inr e))
    ·omega
    ·omega
    ·omega
   ·rcases hx with e|e|e|e|e|e|e
    ·exact .inl ⟨by omega,by omega⟩
    ·exact .inl ⟨by omega,by omega⟩
    ·have h1:=(h.d.1 b e).1;have h2:=h.e.lt e;exact .inl ⟨by omega,by omega⟩
    ·have h1:=h.d.2 b e;have h2:=h.o.lt e;exact .inl ⟨by omega,by omega⟩
    ·exact .inl ⟨by omega,by omega⟩
    ·exact .inl ⟨by omega,by omega⟩
    ·exact .inr e
  obtain⟨Zx,sq',qq',f0,f1,f2,f3⟩:=md2.parts;obtain⟨U4,U5,k1,k2,k3,k4,k5,k6⟩:=ahY (U:=U) (U2:=U2) (r:=(rZ x o).2.1) (by rw[<-hUa];exact d2) ⟨_,_,_,_,f0,f1,f2,f3⟩;have l5:Le U U5:=⟨by omega,λb hb=>(k6 b (by omega) (by omega)).trans ((d2.get b (by omega)).trans (la.get b hb))⟩;have h5:=h.mono l5;have hB:=hb.do o aku;simp only[SX,r1,r7,od,ln,t1,h.s.ld,p1,p2 _ hWU,oE,B9,AW.av];rw[<-hUa];simp only[SX,d1,k1,k2];by_cases c:(rZ x o).2.2=0;case neg=>have d:=aL c;simp only[SX,d,t2,ah];exact .inl ⟨ak,r1,r2,r7,r9,by rw[e3];rfl,by show PlJ W V U5 v sv (i+1) (R' 10);rw[pi];exact⟨n,E,x,s,val,u,bo,bp,by omega,hI,h5,hb,hv,hE⟩⟩
  have d:=aK c;have dv:=A2 n;have lo:=λU'=>gG.ln h5.o.gJ.ints U'
  rw[dv]at lo;have s1:=λW'=>bm W' n 1
  have auI:(i:Int).tmod 64=((i % 64:Nat):Int):=by rw[Int.ofNat_tmod];rfl
  have s2:∀W',bO Tryz.prog .rem 3 false true (.ae (i:Int)) (.ae 64) W'=some (.ae ((i % 64:Nat):Int),W'):=λW'=>by rw[Se (by omega),auI]
  have s3:=λW'=>kU (P:=Tryz.prog) (W:=W') (t:=3) (c:=true) (d:=false) (a:=1) (b:=((i % 64:Nat):Int)) (by omega) (by omega)
  obtain⟨ov',U6,q1,q2,q3,q4⟩:=abT ((n:Int)+1) Vu iE tj h5.o (by omega) (by omega);have hEl:=hI.len;have le6:∀b,b<U5.next->bp≠some b->U6.get b=U5.get b:=q4;obtain⟨th,Xh⟩:∃th:Int,th=1+((i % 64:Nat):Int):=⟨_,rfl⟩;rw[<-Xh]at s3;obtain⟨a,ha⟩:∃a:lD,a=⟨(n:Int)+1,th,false,o,fw⟩:=⟨_,rfl⟩;obtain⟨b,Kf⟩:∃b:lD,b=⟨(n:Int)+1,th,true,UB,(rZ x o).2.1⟩:=⟨_,rfl⟩;have bpl:∀B,bp=some B->B<U.next:=λB hB=>h.o.lt hB
  have bol:∀B,bo=some B->B<U.next:=λB hB=>h.e.lt hB
  have k5':U5.next=U2.next:=k5;have g6h:U6.get (V.next+1)=some (.cells (S6 v sv u)):=(le6 _ (by omega) (λe=>by have:=h.d.2 _ e;omega)).trans h5.h;have e6:fE U6 24 Io u E bo:=h5.e.keep (by omega) λB hB=>le6 B (by have:=bol B hB;omega) (h.d.1 B hB).2
  obtain⟨W6,hW6⟩:∃W6,W6=U6.add (.cells ([a,b].flatMap Io)):=⟨_,rfl⟩;have n6:W6.next=U6.next+1:=by rw[hW6];rfl
  have e6':fE W6 24 Io u E bo:=e6.keep (by omega) λB hB=>by rw[hW6];exact AW.aE _ _ (by have:=bol B hB;omega)
  obtain⟨u',U7,y1,y2,y3,y4⟩:=ZH (l2:=[a,b]) as1 PB ag8 e6' (b:=U6.next) (c:=2) (by rw[hW6];exact bF) (by simp) (by simp;omega) (by simp;omega);have y1':dn Tryz.prog W6 #[25,25] u (.slice (some ⟨U6.next,0,none⟩) 2 2)=some (u',U7):=y1;have g7:∀b,b<U6.next->bo≠some b->U7.get b=U6.get b:=λb hb hn=>(y4 b (by omega) hn).trans (by rw[hW6];exact AW.aE _ _ (by omega))
  have g7h:U7.get (V.next+1)=some (.cells (S6 v sv u)):=(g7 _ (by omega) (λe=>by have:=(h.d.1 _ e).1;omega)).trans g6h;have z1:=av7 g7h (w':=u') (Ep y2);obtain⟨U8,hU8⟩:∃U8,U8=U7.put (V.next+1) (.cells (S6 v sv u')):=⟨_,rfl⟩;rw[<-hU8]at z1;have n8:U8.next=U7.next:=by rw[hU8];rfl
  have g8:∀b,b≠V.next+1->U8.get b=U7.get b:=λb hb=>by rw[hU8];exact AW.ay _ _ (bc hb)
  have g85:∀b,b<U5.next->b≠V.next+1->bp≠some b->bo≠some b->U8.get b=U5.get b:=λb h1 h2 h3 h4=>(g8 b h2).trans ((g7 b (by omega) h4).trans (le6 b h1 h3))
  have s8:Bi U8 U.next eK:=k3.keep (g85 _ (by omega) (by omega) (λe=>by have:=bpl _ e;omega) (λe=>by have:=bol _ e;omega));have s8':Bi U8 V.next val:=h5.s.keep (g85 _ (by omega) (by omega) (λe=>by have:=h.d.2 _ e;omega) (λe=>by have:=(h.d.1 _ e).1;omega));obtain⟨cc,w1,w2⟩:=s8'.put ⟨_,_,_,_,f0,f1,f2,f3⟩;obtain⟨U9,hU9⟩:∃U9,U9=U8.put V.next cc:=⟨_,rfl⟩;rw[<-hU9]at w1 w2;have n9:U9.next=U8.next:=by rw[hU9];rfl
  have g9:∀b,b≠V.next->U9.get b=U8.get b:=λb hb=>by rw[hU9];exact AW.ay _ _ (bc hb)
  have c4:bz (.pointer (some ⟨V.next+1,4,none⟩)) U6=some (u,U6):=alF g6h;have c9:dJ 9 (aZ (U.next+1)) U6=some (gt (rZ x o).2.1,U6):=al8 ((le6 _ (by omega) (λe=>by have:=bpl _ e;omega)).trans k4);have pp:dJ 12 p U6=some (wa o,U6):=p2 _ ⟨by omega,λb hb=>(le6 b (by omega) (λe=>by have:=h.d.2 _ e;omega)).trans ((l5.get b (by omega)).trans (hWU.get b hb))⟩;have bdc:=amB ((n:Int)+1) th o;have bdr:=amb ((n:Int)+1) th (rZ x o).2.1;rw[<-ha]at bdc;rw[<-Kf]at bdr;have bs:=amP a b U6;rw[<-hW6]at bs;simp only[SX,d,r9,pi,lo,s1,alY,q1,s2,s3,aJ,c4,pp,bdc,c9,bdr,bs,y1',z1,s8.ld,w1,t2,ah];have m9:Cc (λb=>b=V.next\/b=V.next+1\/some (U6.next+1)=some b\/some (U5.next+1)=some b) W U9 eK (rZ x o).1:=by
   refine(md2.keep (U':=U9) (by omega) λb hx lA=>?_).sub λb lA hx=>?_
   ·simp only[not_or]at hx;exact(g9 b hx.1).trans ((g85 b (by omega) hx.2.1 hx.2.2.2.1 hx.2.2.1).trans (k6 b hx.2.2.2.2.1 hx.2.2.2.2.2.1))
   ·rcases hx with e|e|e|e
    ·exact .inl e
    ·exact .inr (.inl e)
    ·injection e with e;exact .inr (.inr (.inr (.inr (.inr (.inr (by omega))))))
    ·injection e with e;exact .inr (.inr (.inr (.inr (.inr (.inr (by omega))))))
  obtain⟨s',PD⟩:=hI.snoc (o:=o) (th:=th) (by omega) (by omega) (al2 c);rw[<-ha,<-Kf]at PD;refine .inl ⟨ak,r1,r2,r7,r9,by rw[e3];rfl,?_⟩;show PlJ W V U9 v sv (i+1) ov';refine⟨n+1,E++[a,b],_,s',eK,u',some (U6.next+1),some (U5.next+1),by omega,PD,⟨⟨by omega,λb hb=>?_⟩,by omega,w2,(g9 _ (by omega)).trans (by rw[hU8];exact AW.aW _ _ _),?_,?_,⟨λB hB=>?_,λB hB=>?_⟩,m9⟩,hB.1,hB.2.trans hv,λe he=>?_⟩
  ·have h1:bp≠some b:=λe=>by have:=h.d.2 _ e;omega
   have h2:bo≠some b:=λe=>by have:=(h.d.1 _ e).1;omega
   exact(g9 b (by omega)).trans ((g85 b (by omega) (by omega) h1 h2).trans ((k6 b (by omega) (by omega)).trans ((d2.get b (by omega)).trans ((la.get b (by omega)).trans (h.le.get b hb)))))
  ·rw[n6]at y2;exact y2.keep (by omega) λB hB=>by injection hB with hB;exact(g9 B (by omega)).trans (g8 B (by omega))
  ·rw[acE];refine q2.keep (by omega) λB hB=>?_
   injection hB with hB;exact(g9 B (by omega)).trans ((g8 B (by omega)).trans (g7 B (by omega) (λe=>by have:=bol _ e;omega)))
  ·injection hB with hB;exact⟨by omega,λe=>by injection e with e;omega⟩
  ·injection hB with hB;omega
  ·rcases lH.1 he with he|he
   ·exact hE e he
   ·simp only[eI,List.not_mem_nil,or_false]at he;rcases he with rfl|rfl
    ·rw[ha];exact aku
    ·rw[Kf];show UB.nw<_;decide
 ·rintro R' U ⟨r1,r2,r7,r9,od,h⟩;unfold gV;have t1:decide ((l.length:Int)<(l.length:Int))=false:=cg;have ln:=λW'=>Row.len hl aeR W' 3 #[false]
  simp only[SX,r1,od,ln,t1,ah];exact⟨by simp,ak,r2,r7,r9,h⟩
 ·rintro⟨e,R',U⟩ ⟨rfl,q2,q7,q9,h⟩;exact hK R' U _ h q2 q7 q9 rfl
end
def aco{W:AW}{v:fo}{sv:ad}(hs:eW W sv v.ax)(he:(du v).2≠0)(hv:v.ax.length<1000)(hr:∀s∈v.ax,s.rows.length<1000):
 ba (.func (.func 12) #[] #[]) [eQ v sv] W=some (.tuple #[ka CY dq dq dq,.ae (du v).2],W):=by
 refine aP rfl ?_ DU;unfold Az;have nh:=qT (W:=(W.add (.cells [.ae v.sh,.ae v.cT,.ae v.fm,sv])).add (.cells iV)) (gZ.mono hs.1 (((Le.refl W).add _).add _)) hv hr;have e2:(b9 v).2=(du v).2:=by unfold b9;rw[ap he]
 rw[e2]at nh;obtain⟨V,hV⟩:∃V,V=(W.add (.cells [.ae v.sh,.ae v.cT,.ae v.fm,sv])).add (.cells iV):=⟨_,rfl⟩;have n1:V.next=W.next+2:=by rw[hV];rfl
 have aM:Le W V:=by rw[hV];exact((Le.refl W).add _).add _
 have g0:V.get W.next=some (.cells [.ae v.sh,.ae v.cT,.ae v.fm,sv]):=by rw[hV];exact(AW.aE _ _ (by rw[AW.av];omega)).trans (AW.aI _ _)
 have g1:V.get (W.next+1)=some (.cells iV):=by rw[hV,<-AW.av W (.cells [.ae v.sh,.ae v.cT,.ae v.fm,sv])];exact AW.aI _ _
 have l4:dJ 4 (aZ W.next) V=some (eQ v sv,V):=bB (ao g0) rfl;have bx:pP (eQ v sv) W=some (aZ W.next,W.add (.cells [.ae v.sh,.ae v.cT,.ae v.fm,sv])):=iB _;rw[<-hV]at nh;simp only[SX,bx,oE,AW.av];rw[<-hV];clear hV;have d:=aL he;obtain⟨V3,p1,p2,p3,p4⟩:=Tv (W:=V) (b:=W.next+1) (x:=CY) (sv:=dq) (sq:=dq) (qq:=dq) (e:=.ae (du v).2) rfl rfl rfl g1;simp only[SX,l4,nh,d,alU,p1,p2,ah];exact⟨ak,⟨by omega,λb hb=>(p4 b (by omega)).trans (aM.get b hb)⟩⟩
def ab7(v:fo)(sv:ad)(W:AW):dU Tryz.prog 27 [(0,eQ v sv)] W=some (P5 v sv D5,W):=aS (by kernel_rfl) rfl
def afV(a b:Int)(W:AW):aV Tryz.prog .min #[3,3] 3 #[false,true] [.ae a,.ae b] W=some (.ae (min a b),W):=by
 have e:aV Tryz.prog .min #[3,3] 3 #[false,true] [.ae a,.ae b] W=(nX Tryz.prog ([Value.int .i64 a,.ae b].all bL) (builtin .min #[3,3] 3 #[false,true] #[.ae a,.ae b])).map λv=>(v,W):=by unfold aV;rfl
 rw[e];have e2:builtin .min #[3,3] 3 #[false,true] #[.ae a,.ae b]=(do pure (.value (<-Builtin.min_ #[3,3] 3 #[.ae a,.ae b]))):=rfl;rw[e2];refine Hk ?_ rfl _ rfl;unfold Builtin.min_;simp only[List.foldlM_cons,List.foldlM_nil,fh,Builtin.min2,gl,bJ];congr 2;by_cases h:b<a
 ·rw[an h];omega
 ·rw[ap h];omega
def KU(l:List Int):l.flatMap fJ=l.map (Value.int .i64):=by
 induction l with
 |nil=>rfl
 |cons a l ih=>rw[fy,lj,ih];rfl
def ahA{W:AW}{v:ad}{l:List Int}(h:Rd W 1 fJ v l):gG W v l:=by
 obtain⟨a,c,rfl,h⟩:=h;refine⟨a,c,rfl,?_⟩;rcases h with h|⟨b,o,cs,rfl,h2,h3,h4⟩
 ·exact .inl h
 ·refine .inr ⟨b,o,cs,rfl,h2,h3,λi hi=>?_⟩;rw[KU,gK]at h4;show cs[o+i*1]? =_;have:=gO (λl=>l[i]?) h4;simp only[jJ,bN hi,dA]at this;rw[ND hi,p9]at this;rw[gK];exact this
def as5:rB Tryz.prog 28=some 1:=by kernel_rfl
def WX{W:AW}{v:ad}{l:List Int}{bo:Option Nat}(h:fE W 1 fJ v l bo)(hl:l.length<=1000):Xv W v l:=
 ⟨h.gJ.ints,λk hk=>let⟨v',h1,h2⟩:=h.gJ.el.from (kk:=.i64) as5 (by omega) iE hk (by omega);⟨v',h1,ahA h2⟩⟩
def Uj{W:AW}{v:ad}{l:List lD}{bo:Option Nat}(h:fE W 24 Io v l bo):EvL W v l:=aql h.gJ.el
def abQ{U:AW}{B:Nat}{m:List Int}{i:Nat}(hB:U.get B=some (.cells (m.flatMap fJ)))(hi:i<m.length)(y:Int):eZ 1 (.pointer (some ⟨B,i,none⟩)) (.ae y) U=some (aj,U.put B (.cells ((m.set i y).flatMap fJ))):=by rw[uZ,cR hB,bJ];rw[KU,KU,eP,an hi,List.map_set]
section
variable {W:AW} {v:fo} {sv lv:ad} {l:List jC} {at_:Int}
def akg{V U:AW}{u ov val:ad}{E:List lD}{n:Nat}{x:cI}{s:TL}{bo bp:Option Nat}(hG:GW W)(hz:Le W V)(hs:eW W sv v.ax)(he:(du v).2=0)(hv:v.ax.length<1000)(hn:2<=n)(aa6:n<=40)(hI:PlI v E x n s)(h:PlW W V U v sv u ov E n val x bo bp)(hE:∀e∈E,e.op.nw<9223372036854775808)(k:Nat)(hk:k+1<n):
 ∃(p0 p1:ad) (U1 U2:AW) (q q':ad) (U3 U4:AW),(∀W' kk,pc 1 ov (.int kk (k:Int)) W'=some (p0,W'))/\(∀W' kk,pc 1 ov (.int kk ((k:Int)+1)) W'=some (p1,W'))/\bz p1 U=some (.ae ((k:Int)+2),U)/\bz p0 U=some (.ae ((k:Int)+1),U)/\
  eZ 1 p0 (.ae ((k:Int)+2)) U=some (aj,U1)/\eZ 1 p1 (.ae ((k:Int)+1)) U1=some (aj,U2)/\dJ 5 (aZ (V.next+1)) U2=some (P5 v sv u,U2)/\ba (.func (.func 8) #[] #[]) [P5 v sv u,ov] U2=some (.tuple #[q,.ae (k:Int),.ae 9],U3)/\eZ 7 (aZ U3.next) q (U3.add (.cells iV))=some (aj,U4)/\Le W U4:=by
 have dv:=A2 n;obtain⟨B,rfl,hB,rfl,gB⟩:∃B,bp=some B/\B<U.next/\ov=.slice (some ⟨B,0,none⟩) (ids n).length (eG+1)/\U.get B=some (.cells ((ids n).flatMap fJ)):=by
  rcases h.o with⟨e,-⟩|⟨-,B,h1,h2,h3,h4⟩
  ·rw[e]at dv;simp at dv;omega
  ·exact⟨B,h1,h2,h3,h4⟩
 have hBV:=h.d.2 B rfl;have hzn:=hz.next;have hI0:gG U (.slice (some ⟨B,0,none⟩) (ids n).length (eG+1)) (ids n):=h.o.gJ.ints;obtain⟨p0,a1,a2⟩:=gG.gd hI0 (i:=k) (by omega);obtain⟨p1,b1,b2⟩:=gG.gd hI0 (i:=k+1) (by omega);rw[AT (by omega)]at a2 b2;have e1:((k+1:Nat):Int)=(k:Int)+1:=by omega
 rw[e1]at b1;have e2:(((k+1:Nat):Int)+1)=(k:Int)+2:=by omega
 rw[e2]at b2;have x0:p0=.pointer (some ⟨B,k,none⟩):=by have h1:=a1 U .i64;rw[oq (by omega)]at h1;injection h1 with h1;injection h1 with h1;rw[<-h1];simp
 have x1:p1=.pointer (some ⟨B,k+1,none⟩):=by have h1:=b1 U .i64;rw[<-e1,oq (by omega)]at h1;injection h1 with h1;injection h1 with h1;rw[<-h1];simp
 have s0:=abQ gB (i:=k) (by omega) ((k:Int)+2);have gB1:(U.put B (.cells (((ids n).set k ((k:Int)+2)).flatMap fJ))).get B=_:=AW.aW _ _ _;have s1:=abQ gB1 (i:=k+1) (by rw[pO];omega) ((k:Int)+1);rw[<-x0]at s0;rw[<-x1]at s1;obtain⟨U2,hU2⟩:∃U2,U2=(U.put B (.cells (((ids n).set k ((k:Int)+2)).flatMap fJ))).put B (.cells ((((ids n).set k ((k:Int)+2)).set (k+1) ((k:Int)+1)).flatMap fJ)):=⟨_,rfl⟩;rw[<-hU2]at s1;have n2:U2.next=U.next:=by rw[hU2];rfl
 have g2:∀b,b≠B->U2.get b=U.get b:=λb hb=>by rw[hU2];exact(AW.ay _ _ (bc hb)).trans (AW.ay _ _ (bc hb))
 have gB2:U2.get B=some (.cells ((((ids n).set k ((k:Int)+2)).set (k+1) ((k:Int)+1)).flatMap fJ)):=by rw[hU2];exact AW.aW _ _ _
 have hZ:Le W U2:=⟨by have:=h.le.next;omega,λb hb=>(g2 b (by omega)).trans ((hz.trans h.le).get b hb)⟩;have l2:(((ids n).set k ((k:Int)+2)).set (k+1) ((k:Int)+1)).length=n:=by rw[pO,pO,dv]
 have o2:fE U2 1 fJ (.slice (some ⟨B,0,none⟩) (ids n).length (eG+1)) (((ids n).set k ((k:Int)+2)).set (k+1) ((k:Int)+1)) (some B):=
  .inr ⟨λe=>by rw[e]at l2;simp at l2;omega,B,rfl,by omega,by rw[l2,dv],gB2⟩
 have ev2:EvL U2 u E:=Uj (h.e.keep (by omega) λB' hB'=>g2 B' λe=>(h.d.1 B' hB').2 (by rw[e]));have hh2:U2.get (V.next+1)=some (.cells (S6 v sv u)):=(g2 _ (by omega)).trans h.h;obtain⟨_,U3,w1,q,y,a,e,hA,rfl,l3,m3⟩:=ab4 (hG.mono hZ) ⟨hs.mono hZ,hv,Iy he,ev2⟩ hE (WX o2 (by omega)) (by omega);obtain⟨rfl,rfl,rfl⟩:=hA.HI (hI.swap he aa6 hk);obtain⟨sv2,sq2,qq2,p2,r2⟩:=Hu.parts m3;obtain⟨c2',k2,z2⟩:=Bi.new U3 (val:=q) ⟨_,_,_,_,p2,r2⟩;exact⟨p0,p1,_,U2,q,q,U3,_,a1,b1,b2,a2,s0,s1,Oe hh2,w1,k2,(hZ.trans l3).add _⟩
def Lu(hG:GW W)(hs:eW W sv v.ax)(hl:OpL W lv l)(ES:∀o∈l,o.nw<9223372036854775808)(ha0:0<=at_)(ha1:at_<=65535):ba (.func (.func 5) #[] #[]) [eQ v sv,lv,.int .u16 at_] W=some (.bool true,W):=by
 refine aP rfl ?_ yv;unfold tA;obtain⟨V1,kS⟩:∃V1,V1=W.add (.cells [.ae v.sh,.ae v.cT,.ae v.fm,sv]):=⟨_,rfl⟩;have aM:Le W V1:=by rw[kS];exact(Le.refl W).add _
 have hn1:V1.next=W.next+1:=by rw[kS];rfl
 have g0:V1.get W.next=some (.cells [.ae v.sh,.ae v.cT,.ae v.fm,sv]):=by rw[kS];exact AW.aI _ _
 have bx:pP (eQ v sv) W=some (aZ W.next,V1):=by rw[kS];exact iB _
 clear kS;have l4:∀{U:AW},Le V1 U->dJ 4 (aZ W.next) U=some (eQ v sv,U):=λ{U} hU=>bB (ao ((hU.get _ (by omega)).trans g0)) rfl
 have ln:=λW'=>Row.len hl aeR W' 3 #[false]
 have aw:=λ{V:AW} (hv:Le V1 V)=>Jc ((hG.mono aM).mono hv)
 have hr:HiR V1 v sv D5 []:=⟨hs.mono aM,⟨none,0,rfl,.inl rfl⟩,λe he=>by cases he⟩;obtain⟨c,hf,hc⟩:=afI hr 80;by_cases c1:40<l.length
 ·have d1:decide ((40:Int)<(l.length:Int))=true:=cK;simp only[SX,bx,ln,d1,aw (Le.refl _),ah];exact⟨ak,aM⟩
 have d1:decide ((40:Int)<(l.length:Int))=false:=cg;simp only[SX,bx,ln,d1,l4 (Le.refl _),ab7,hf];cases c with
 |true=>simp only[SX,aw (Le.refl _),ah];exact⟨ak,aM⟩
 |false=>
 obtain⟨k,-⟩:=hc rfl;by_cases he:(du v).2=0;case neg=>have hb:=aco (W:=V1) (hs.mono aM) he k.small k.rows;obtain⟨c2',k2,z2⟩:=Bi.new V1 (val:=ka CY dq dq dq) ad6;have d:=aL he;simp only[SX,hb,oE,k2,d,aw ((Le.refl V1).add _),ah];exact⟨ak,aM.add _⟩
 obtain⟨u,V,hb,l2,m2⟩:=agl hs aM he k.small;have nV:=l2.next;have hz:Le W V:=aM.trans l2;have md:Cc (λb=>b=V.next\/b=V.next+1\/(none:Option Nat)=some b\/(none:Option Nat)=some b) W V u (pL v):=Cc.ofK m2 λb hb=>by
  rcases hb with e|e|e|e
  ·exact .inr (by omega)
  ·exact .inr (by omega)
  ·cases e
  ·cases e
 obtain⟨sv2,sq2,qq2,p2,r2⟩:=md.parts;obtain⟨c2',k2,z2⟩:=Bi.new V (val:=u) ⟨_,_,_,_,p2,r2⟩;obtain⟨V2,yB⟩:∃V2,V2=V.add (.cells c2'):=⟨_,rfl⟩;have n2:V2.next=V.next+1:=by rw[yB];rfl
 have l22:Le V V2:=by rw[yB];exact(Le.refl _).add _
 rw[<-yB]at k2 z2;obtain⟨V3,wZ⟩:∃V3,V3=V2.add (.cells (S6 v sv D5)):=⟨_,rfl⟩;have l33:Le V2 V3:=by rw[wZ];exact(Le.refl _).add _
 have n3:V3.next=V.next+2:=by rw[wZ,AW.av,n2]
 have g3:V3.get (V.next+1)=some (.cells (S6 v sv D5)):=by rw[wZ,<-n2];exact AW.aI _ _
 have C1:=row_one hs.1;have k3:eZ 5 (aZ (V.next+1)) (P5 v sv D5) (V2.add (.cells (S6 aj2 D5 D5)))=some (aj,V3):=by have:=awE (W:=V2.add (.cells (S6 aj2 D5 D5))) (b:=V2.next) (v:=v) (sv:=sv) (u:=D5) (AW.aI _ _) C1 rfl;rwa [i8,<-wZ,n2]at this
 have d0:decide ((0:Int)=0)=true:=rfl;have lV2:=l2.trans l22;simp only[SX,hb,oE,k2,l4 lV2,ab7,atL,n2,k3];refine Y9 (W:=W) (V:=V) (v:=v) (sv:=sv) (l:=l) (lv:=lv) (ov0:=D5) hl (by omega) ES hz he ⟨0,[],pL v,TL.init,u,D5,none,none,aQ _,.nil v,⟨l22.trans l33,by omega,z2.keep (l33.get _ (by omega)),g3,.inl ⟨rfl,rfl,rfl⟩,.inl ⟨rfl,rfl,rfl⟩,⟨λB hB=>(by cases hB),λB hB=>(by cases hB)⟩,md.mono (l22.trans l33)⟩,(Ix (l:=[]) (os:=[]) he k.small (λy=>by unfold iv;simp;decide) 0).1,rfl,λe he=>by cases he⟩ rfl rfl rfl rfl rfl ?_;intro R' U ov hJ q2 q7 q9 q10;obtain⟨n,E,x,s,val,w,bo,bp,hn,hI,h,hbn,hv,hE⟩:=hJ.ex;have q2':R' 2=.int .u16 at_:=q2;have aa6:n<=40:=by omega
 have dv:=A2 n;have lU:Le V1 U:=l2.trans h.le;have hWU:=aM.trans lU;have atM:=WX h.o (by omega);obtain⟨_,U2,w1,y,z,a,e,hA,rfl,l5,m5⟩:=ab4 (hG.mono hWU) ⟨hs.mono hWU,k.small,k.rows,Uj h.e⟩ hE atM (by omega);obtain⟨rfl,rfl,rfl⟩:=hA.HI (hI.wit he aa6);obtain⟨sv3,sq3,qq3,p3,r3⟩:=Hu.parts m5;obtain⟨c3',k4,z4⟩:=Bi.new U2 (val:=y) ⟨_,_,_,_,p3,r3⟩;obtain⟨U3,hU3⟩:∃U3,U3=U2.add (.cells c3'):=⟨_,rfl⟩;have l6:Le U2 U3:=by rw[hU3];exact(Le.refl _).add _
 rw[<-hU3]at k4 z4;have h3:=h.mono (l5.trans l6);have agz:=hWU.trans (l5.trans l6);have lU3:=lU.trans (l5.trans l6);have wd:=Sp (hG.mono agz) ⟨hs.mono agz,k.small,k.rows,Uj h3.e⟩ (.ok he (by have:=hI.len;omega) hI.run) (λ_=>hI.run);rw[an rfl]at wd;have hw:KP s=min (n:Int) 1:=by unfold KP;rw[hI.wg];split<;>omega
 rw[hw]at wd;have b:=(hI.wit he aa6).fb k.small k.rows hE;have same:=adv ((h3.m.at).at agz) ((Hu.mono m5 l6).at (l5.trans l6)) b.1 b.2.1 b.2.2.1 b.2.2.2.1 b.2.2.2.2;have lo:=λU'=>gG.ln h.o.gJ.ints U'
 rw[dv]at lo;have ed:decide (min (n:Int) 1=min (n:Int) 1)=true:=aK rfl;simp only[SX,q2',q7,q9,q10,Oe h.h,w1,k4,Oe h3.h,wd,h3.s.ld,z4.ld,same,lo,afV];by_cases c2:n<2
 ·have d2:decide ((n:Int)<2)=true:=cK;simp only[SX,d2,aw lU3,ah];exact⟨ak,agz⟩
 have d2:decide ((n:Int)<2)=false:=cg;obtain⟨j,hj,ej⟩:=agq (n:=n) ha0 (by omega);have s1:=λW'=>Ao W' n 1
 have s2:∀W',bO Tryz.prog .rem 3 false false (.ae at_) (.ae ((n:Int)-1)) W'=some (.ae (j:Int),W'):=λW'=>by rw[Se (by omega),ej]
 have s3:=λW'=>bm W' j 1
 obtain⟨p0,p1,U4,U5,q,q',U6,U7,a1,a2,a3,a4,a5,a6,a7,a8,a9,a10⟩:=akg hG hz hs he k.small (by omega) aa6 hI h3 hE j hj;have ej:decide ((j:Int)=(j:Int))=true:=aK rfl;have e9:decide ((9:Int)=9)=true:=rfl;simp only[SX,d2,apu ha0 ha1,s1,s2,s3,a1,a2,a3,a4,a5,a6,a7,a8,a9,Jc (hG.mono a10),ah];exact⟨ak,a10⟩
end
end Go.Proofs.YtmaoneengdafhaaGreatDoor
namespace Go.Proofs.YtmaoneengdafhaaGreatDoor
open Go Go.Eng Go.RowKit Go.WideShapes
section
variable {H:Type} {enc:af×ad->H} {w:ar} {σ:dz} {W:AW} {v0:ad} {d:DataW H} {p:List di} {r:Reach} {b0:Nat}
def apZ:Yg Tryz.prog 7 24=true:=by kernel_rfl
def aqc:Yg Tryz.prog 7 54=true:=by kernel_rfl
def ahZ(ho:np σ W w)(hv:Value.okWide Tryz.prog w r b0 24 v0)(h:DataW.Trod enc Tryz.prog w 0 (λ_=>true) true 24 v0 d p):
 ∃(σ2:dz) (W2:AW) (v:fo) (sv:ad),np σ2 W2 w/\Sub σ σ2/\Le W W2/\VR σ2 (eQ v sv) v0/\eW W2 sv v.ax:=by
 obtain⟨cs,rfl⟩:=alA Tryz.underlying24 hv;obtain⟨m,hm⟩:=h;obtain⟨σ2,W2,Ls,o2,s2,l2,r2,a2⟩:=KS apZ hm σ W ho;obtain⟨v,sv,rfl,hs⟩:=ajt (n:=2) a2;exact⟨σ2,W2,v,sv,o2,s2,l2,.TV (a:=#[.ae v.sh,.ae v.cT,.ae v.fm,sv]) r2,hs⟩
def afW(ho:np σ W w)(hv:Value.okWide Tryz.prog w r b0 54 v0)(h:DataW.Trod enc Tryz.prog w 0 (λ_=>true) true 54 v0 d p):
 ∃(σ2:dz) (W2:AW) (lv:ad) (l:List jC),np σ2 W2 w/\Sub σ σ2/\Le W W2/\VR σ2 lv v0/\OpL W2 lv l/\∀o∈l,o.nw<9223372036854775808:=by
 obtain⟨a,n,c,rfl⟩:=aaq Tryz.underlying54 hv;obtain⟨m,hm⟩:=h;obtain⟨σ2,W2,Ls,o2,s2,l2,r2,a2⟩:=KS aqc hm σ W ho;obtain⟨lv,l,rfl,hr⟩:=DR.row (n:=6) a2 Tryz.underlying54 (at_:=λcs p o=>vl 12 AJ cs p o/\o.nw<9223372036854775808) (λc _ hc=>by obtain⟨o,rfl,ho⟩:=an0 (n:=3) hc;exact⟨o,λpre post=>⟨AN ah0 o pre post,ho⟩⟩);have hvr:VR σ2 lv (.slice a n c):=r2.2 0 _ _ rfl rfl;refine⟨σ2,W2,lv,l,o2,s2,l2,hvr,Row.imp hr.1 (.refl _) λ_ _ _ h=>h.1,λo Nr=>?_⟩;obtain⟨a,c,-,h⟩:=hr.1;obtain⟨i,hi,rfl⟩:=Bk Nr;rcases h with h|⟨b,o,cs,-,-,-,h⟩
 ·rw[h]at hi;cases hi
 ·exact(h i hi).2
def amq{t:af}(ht:Tryz.prog.underlying t=some (.int .u16))(h:Value.okWide Tryz.prog w r b0 t v0):∃n,v0=.int .u16 n/\0<=n/\n<=65535:=by obtain⟨n,rfl⟩:=okWide_int ht h;refine⟨n,rfl,?_⟩;simp only[Value.okWide,ht,Cell.okWide,Cell.ok]at h;have h2:=h.2;have e1:IntKind.u16.max=65535:=rfl;have e2:IntKind.u16.min=0:=rfl;unfold IntKind.has at h2;omega
end
end Go.Proofs.YtmaoneengdafhaaGreatDoor
