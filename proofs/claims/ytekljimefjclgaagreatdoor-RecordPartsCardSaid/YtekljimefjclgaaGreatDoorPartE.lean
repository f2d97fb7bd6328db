/- A part: contracts and laws. -/
import Derived.Test.YtekljimefjclgaaGreatDoorPartD
set_option linter.unusedVariables false
set_option linter.unusedSimpArgs false
set_option linter.unusedSectionVars false
set_option linter.defProp false
noncomputable section
open Go renaming TypeId->ai,Value->ae,World->au,undef->ag
set_option maxRecDepth 100000
namespace Go.Proofs.YtekljimefjclgaaGreatDoor
open Go Go.Eng
def LX(W:AW):aD Tryz.prog 64 0 [] W=some (.slice (some ⟨W.next,0,none⟩) 0 0,W.add (.cells [])):=aJ (by kernel_rfl) rfl
def FJ(W:AW):bD Tryz.prog 133 [(0,.af 0),(1,.af 0),(2,.af 1),(3,.af 2),(4,.af 3)] W=some (.agg #[.af 0,.af 0,.af 1,.af 2,.af 3],W):=aJ (by kernel_rfl) rfl
def XB(W:AW):eH Tryz.prog 133 (.agg #[.af 0,.af 0,.af 1,.af 2,.af 3]) (.af 2) W=some (.af 1,W):=aJ (by kernel_rfl) rfl
def YM(W:AW):eH Tryz.prog 133 (.agg #[.af 0,.af 0,.af 1,.af 2,.af 3]) (.af 3) W=some (.af 2,W):=aJ (by kernel_rfl) rfl
def Zl(W:AW):eH Tryz.prog 133 (.agg #[.af 0,.af 0,.af 1,.af 2,.af 3]) (.af 4) W=some (.af 3,W):=aJ (by kernel_rfl) rfl
def ahn{k:Int}(h:k=2\/k=3\/k=4)(W:AW):eH Tryz.prog 133 (.agg #[.af 0,.af 0,.af 1,.af 2,.af 3]) (.af k) W=some (.af (fX k),W):=by
 rcases h with rfl|rfl|rfl
 ·exact XB W
 ·exact YM W
 ·exact Zl W
def nO(n:Int):(jE n).length=1:=rfl
def Aa(n:Int):(jE n).all Eng.one=true:=rfl
def Oa{s s':RS}{n j:Nat}{q:Option Int}(h:∀k:Nat,s'.lk k=if k=j then q else s.lk k):Gc s' n=(Gc s n).set j (q.getD 0):=by
 unfold Gc;refine List.ext_getElem (by simp) λk h1 h2=>?_
 rw[List.getElem_set];simp only[List.getElem_map,List.getElem_range,h];by_cases e:k=j
 ·rw[ax e,ax e.symm]
 ·rw[ay e,ay (bL e)]
def ais{s:RS}{U:AW}{B n j:Nat}(hB:U.get B=some (.cells ((Gc s n).flatMap jE)))(hj:j<n):aK (.pointer (some ⟨B,j,none⟩)) U=some (.af ((s.lk j).getD 0),U):=by refine eQ hB ?_;rw[tV,jh];unfold Gc;rw[jh,B4 hj];rfl
def aag{s:RS}{U:AW}{B n j:Nat}(hB:U.get B=some (.cells ((Gc s n).flatMap jE)))(hj:j<n)(z:Int):bP 1 (.pointer (some ⟨B,j,none⟩)) (.af z) U=some (ag,U.put B (.cells (((Gc s n).set j z).flatMap jE))):=by rw[gx rfl rfl,Bp hB,bp,ax (by rw[tV,gR,pN];exact hj)];rw[tV,tV,List.map_set]
section
variable {W V U:AW} {v:cA} {sv ev cv lv:ae} {s:RS} {f:Int->Option ei} {tn st:Int} {l:List de} {i:Nat} {x:de} {o:ei}
def alW(h:yH W U v sv ev cv s.of lv tn st x)(h1:Eng.one sv=true)(h2:Eng.one ev=true)(h3:Eng.one cv=true)(h4:Eng.one lv=true)(hw:1<=x.wk/\x.wk<=64)(ho:s.of x.wk=some o)(h49:o.s<=49):
 ∃U',ir bm (cr W.next) (cr (W.next+1)) (cr (W.next+2)) U=some (.tuple #[uT v sv ev cv (λk=>if k=x.wk then some ⟨o.c,o.s+1,o.e⟩else s.of k) lv tn st,.af 0],U')/\Le W U'/\U'.next=U.next/\∀d,d≠W.next->d≠W.next+1->U'.get d=U.get d:=by
 obtain⟨w,Be⟩:∃w:Nat,x.wk=(w:Int):=⟨x.wk.toNat,by omega⟩;have ix:=λW'=>sJ (len:=65) (z:=3) (b:=W.next) (o:=6) (i:=w) (k:=.i64) (W:=W') (by omega)
 rw[<-Be]at ix;have im:s.of (w:Int)=some o:=by rw[<-Be];exact ho
 have lw:=fx h.g2;have lo:aK (.pointer (some ⟨W.next,6+w*3+1,none⟩)) U=some (.af (o.s:Int),U):=On h.g0 (w:=w) (by omega) (by omega) (by rw[im];rfl);have ad:=λW'=>cQ W' (o.s:Int) 1
 have e1:((o.s:Int)+1)=((o.s+1:Nat):Int):=by omega
 have so:=VN h.g0 (w:=w) (by omega) (j:=1) (by omega) (x:=.af ((o.s:Int)+1)) rfl rfl (o:=⟨o.c,o.s+1,o.e⟩) (by rw[im,e1];rfl);rw[<-Be]at so;have hp:=h.put cv (λk=>if k=x.wk then some ⟨o.c,o.s+1,o.e⟩else s.of k) lv tn st;obtain⟨U1,jO⟩:∃U1,U1=U.put W.next (.cells (eV v sv ev cv (λk=>if k=x.wk then some ⟨o.c,o.s+1,o.e⟩else s.of k) lv tn st)):=⟨_,rfl⟩;rw[<-jO]at so hp;obtain⟨U',q1,q2,q3,q4,q5,q6⟩:=hp.fin h1 h2 h3 h4 0;refine⟨U',?_,q4,by rw[q5,jO];rfl,λd hd hd1=>(q6 d hd1).trans (by rw[jO];exact AW.aE _ _ (bL hd))⟩;unfold ir;simp only[SX,aI,lw,ix,lo,ad,so,q1,q2,q3]
open Classical in
def ahX(h:yH W V v sv ev cv s.of lv s.tn s.st x)(hC:M4 W v s cv lv)(hI:kZ s)(hr:Hg W ev l)(hs:eY W sv v.az)(hv:v.az.length<1000)(hrw:∀s∈v.az,s.rows.length<1000)(hvz:(fp v).2=0)(IK:1<=v.sh/\v.sh<=16)(hlk:∀j id,s.lk j=some id->1<=id)(h1:Eng.one sv=true)(hw:1<=x.wk/\x.wk<=64)(hk:x.k=2\/x.k=3\/x.k=4)(hn:eX s x=0):
 Ok (gf bm (.af (i:Int)) (cr W.next) (cr (W.next+1)) (cr (W.next+2)) V) λr=>∃val,r.1=.tuple #[val,.af (Er v s x)]/\Le W r.2/\EJ r.2 W.next cv lv v sv ev val (Er v s x) (rN s i x):=by
 have h2:Eng.one ev=true:=row_one hr;have h3:=(ff hC.c).2;have h4:=(ff hC.l).2;have WW:=h.nx;have lk:=pa h.g2;have k1:x.k≠1:=by omega
 unfold gf;have d:=bq k1;have lw:=fx h.g2;have e0:Er v s x=cY v s x:=by unfold Er;rw[hn];rfl
 obtain⟨w,Be⟩:∃w:Nat,x.wk=(w:Int):=⟨x.wk.toNat,by omega⟩;have ix:=λW'=>sJ (len:=65) (z:=3) (b:=W.next) (o:=6) (i:=w) (k:=.i64) (W:=W') (by omega)
 rw[<-Be]at ix;have l3:=Lp h.g0 (w:=w) (by omega);rw[<-Be]at l3;cases ho:s.of x.wk with
 |none=>unfold eX at hn;rw[ay k1,ho]at hn;exact absurd (show(4:Int)=0 from hn) (by decide)
 |some o=>
 rw[ho]at l3;have Qq:bA 3 (.pointer (some ⟨W.next,6+w*3,none⟩)) V=some (.agg #[.af (o.c:Int),.af (o.s:Int),.bool o.e],V):=l3;obtain⟨V4,b1,b2,b3,b4,b5⟩:=nxO h o.c o.s o.e;have Lx:aK (cr V.next) V4=some (.af (o.c:Int),V4):=eQ b5 rfl;have d2:decide ((o.c:Int)<0)=false:=dS;have AH:=h.mono b3;have mr:=hI.of _ _ ho;have h49:=hI.steps _ _ ho;obtain⟨B,oo,c1,c2⟩:=ClL.get (wM dA (hC.c.dq AH.le)) mr;obtain⟨-,c3,-,-⟩:=c2 V4 rfl;rw[<-pD mr]at c3;have id:(aZ s o.c).id=x.id:=by
  unfold eX at hn;rw[ay k1,ho]at hn;simp only at hn;by_cases e:(aZ s o.c).id=x.id
  ·exact e
  ·rw[ax e]at hn;exact absurd hn (by decide)
 have d3:=aS id;obtain⟨V5,V6,V7,V8,u,uv,B2,se,p1,p2,p3,p4,p5,p6,p7,p8,p9,Xa,p11,MF,p13,⟨p14,p15,p16,p17,cc,p18⟩,Ru,p20⟩:=ZB AH hC hI ho hs hv hrw (b3:=V.next) ⟨by omega,by omega⟩ b5;have fu:Sm W.next cv u:=.inr λa k m e=>by rw[p18]at e;injection e with e;injection e with e;rw[<-e];show _<=B2;omega
 have ln:∀W',aB Tryz.prog .len #[130] 3 #[false] [uv] W'=some (.af ((wT v (aZ s o.c).op).length:Int),W'):=λW'=>Row.len p11 ZA W' 3 #[false]
 have n8:=MF.nx;have Xh:=pa MF.g2;have ll8:=qy MF.g2;have Zj:aK (.pointer (some ⟨V.next,1,none⟩)) V8=some (.af (o.s:Int),V8):=eQ p13 rfl;have d5:decide (x.k=5)=false:=dS;have d6:decide (x.k=6)=false:=dS;have Q7:=ahn hk;have hR:=sO (v:=v) ho k1 (by omega) (by omega);have hA:=P4 v (aZ s o.c).op o.s (fX x.k) x.lk;by_cases e1:(wT v (aZ s o.c).op).length<=o.s
 ·have d7:decide (((wT v (aZ s o.c).op).length:Int)<=(o.s:Int))=true:=jr;rw[ay λe=>by obtain⟨q,-⟩:=hA.1 e;omega]at hR;obtain⟨U',q1,q2,q3,q4,q5,q6⟩:=MF.fin h1 h2 Ru h4 6;simp only[SX,aI,cC,lk,d,lw,ix,Qq,b1,b2,Lx,d2,fw AH.g2,iw AH.g0,c1,c3,d3,p1,p2,p3,p4,p5,p6,p7,p8,p9,Xa,Xh,d5,d6,FJ,Q7,Zj,ln,d7,q1,q2,q3,am];exact⟨_,by rw[e0,hR],q4,.bad (by rw[e0,hR];decide) Ru h4⟩
 have d7:decide (((wT v (aZ s o.c).op).length:Int)<=(o.s:Int))=false:=dS;have gZ:o.s<(wT v (aZ s o.c).op).length:=by omega
 obtain⟨sb,so,s1,s2⟩:=p11.get gZ;have bd:=Lj (fX x.k) x.lk;obtain⟨a,b,XD⟩:∃a b,(wT v (aZ s o.c).op)[o.s]=(a,b):=⟨_,_,rfl⟩;rw[XD]at s2;have s2':∀W',Le V8 W'->bA 2 (.pointer (some ⟨sb,so,none⟩)) W'=some (.agg #[.af a,.af b],W'):=s2;have Gm:∀W',bD Tryz.prog 135 [(0,.af (fX x.k)),(1,.af x.lk)] W'=some (.agg #[.af (fX x.k),.af x.lk],W'):=bd;have s2e:=s2' V8 (.refl _);by_cases e2:a=fX x.k/\b=x.lk;case neg=>
  have d8:(!(a==fX x.k&&b==x.lk))=true:=by
   cases hb:(a==fX x.k&&b==x.lk)with
   |false=>rfl
   |true=>simp at hb;exact absurd hb e2
  rw[ay λe=>by obtain⟨q,q2⟩:=hA.1 e;rw[XD]at q2;injection q2 with q2 q3;exact e2 ⟨q2,q3⟩]at hR;obtain⟨U',q1,q2,q3,q4,q5,q6⟩:=MF.fin h1 h2 Ru h4 6;simp only[SX,aI,cC,lk,d,lw,ix,Qq,b1,b2,Lx,d2,fw AH.g2,iw AH.g0,c1,c3,d3,p1,p2,p3,p4,p5,p6,p7,p8,p9,Xa,Xh,d5,d6,FJ,Q7,Zj,ln,d7,s1,s2e,ll8,Gm,FG,d8,q1,q2,q3,am];exact⟨_,by rw[e0,hR],q4,.bad (by rw[e0,hR];decide) Ru h4⟩
 have d8:(!(a==fX x.k&&b==x.lk))=false:=by simp[e2]
 have nS:iK v (aZ s o.c).op o.s=((fX x.k,x.lk),0):=hA.2 ⟨gZ,by rw[XD,e2.1,e2.2]⟩;rw[ax nS]at hR;have Hr:qi v<2000:=by unfold qi;omega
 have aeK:0<qi v:=by unfold qi;omega
 obtain⟨V9,Rl⟩:∃V9,V9=V8.add (.cells []):=⟨_,rfl⟩;have l9:Le V8 V9:=by rw[Rl];exact(Le.refl _).add _
 have n9:V9.next=V8.next+1:=by rw[Rl];rfl
 have b9:=LX V8;rw[<-Rl]at b9;have h9:=MF.mono l9;have hE0:EL V9.next V9 1 jE (.slice (some ⟨V8.next,0,none⟩) 0 0) []:=EL.Uc _ _ _ _ _;obtain⟨u2,V10,m1,m2,m3,m4⟩:=hE0.app EK nO Aa (hC.l.dq h9.le) (by rw[pN];simp;omega) (by rw[pN];simp;omega) (aP _);rw[kg]at m2;have yL:=h9.far m3 λd hd=>m4 d (by omega)
 have wo:=ff (m2.rd nO);have sl:=O0 yL.g0 wo.1 wo.2;have xM:=yL.put u s.of u2 s.tn s.st;obtain⟨CB,acf⟩:∃CB,CB=V10.put W.next (.cells (eV v sv ev u s.of u2 s.tn s.st)):=⟨_,rfl⟩;rw[<-acf]at sl xM;have n11:CB.next=V10.next:=by rw[acf];rfl
 have o11:∀d,d≠W.next->CB.get d=V10.get d:=λd hd=>by rw[acf];exact AW.aE _ _ (bL hd)
 rcases m2 with⟨e,-⟩|⟨hz,B3,c3',aq7,hn3,hu2,-,hB3⟩
 ·have:=cR List.length e;rw[pN]at this;exact absurd this (by simp;omega)
 rw[pN]at hu2;have gB3:CB.get B3=some (.cells ((Gc s (qi v)).flatMap jE)):=(o11 _ (by omega)).trans hB3;have gB2:CB.get B2=some (.cells (s.cl.flatMap gq)):=(o11 _ (by omega)).trans ((m4 _ (by omega)).trans ((l9.get _ p16).trans p17));have gV:CB.get V.next=some (.cells [.af (o.c:Int),.af (o.s:Int),.bool o.e]):=(o11 _ (by omega)).trans ((m4 _ (by omega)).trans ((l9.get _ (by omega)).trans p13));have fl:Sm W.next lv u2:=.inr λa k m e=>by rw[hu2]at e;injection e with e;injection e with e;rw[<-e];show _<=B3;omega
 have vD:(rN s i x).of=λk=>if k=x.wk then some ⟨o.c,o.s+1,o.e⟩else s.of k:=by unfold rN;rw[ay k1,ho];simp only[ay (show¬x.k=5 by omega),ay (show¬x.k=6 by omega)]
 have qF:(rN s i x).cl=if x.k=3 then ql s.cl o.c λc=>{c with co:=i,rp:=x.rp}else s.cl:=by unfold rN;rw[ay k1,ho];simp only[ay (show¬x.k=5 by omega),ay (show¬x.k=6 by omega)]
 have vJ:(rN s i x).lk=λk=>if k=x.lk then(if x.k=2 then some x.id else if x.k=4 then none else s.lk k)else s.lk k:=by unfold rN;rw[ay k1,ho];simp only[ay (show¬x.k=5 by omega),ay (show¬x.k=6 by omega)]
 have htn:(rN s i x).tn=s.tn:=by unfold rN;rw[ay k1,ho];simp only[ay (show¬x.k=5 by omega),ay (show¬x.k=6 by omega)]
 have anm:(rN s i x).st=s.st:=by unfold rN;rw[ay k1,ho];simp only[ay (show¬x.k=5 by omega),ay (show¬x.k=6 by omega)]
 have Y9:=pa xM.g2;have abL:=qy xM.g2;have adp:=zG xM.g0;have done:∀(wQ:AW) (cl':List pc) (X8:List Int),yH W wQ v sv ev u s.of u2 s.tn s.st x->CB.next<=wQ.next->wQ.get B2=some (.cells (cl'.flatMap gq))->wQ.get B3=some (.cells (X8.flatMap jE))->cl'=(rN s i x).cl->X8=Gc (rN s i x) (qi v)->cY v s x=0->
  Ok (ir bm (cr W.next) (cr (W.next+1)) (cr (W.next+2)) wQ) λr=>∃val,r.1=.tuple #[val,.af (Er v s x)]/\Le W r.2/\EJ r.2 W.next cv lv v sv ev val (Er v s x) (rN s i x):=by
  intro wQ cl' X8 g aqK g2 g3 ec el hz;obtain⟨U',q1,q2,q3,q4⟩:=alW g h1 h2 Ru wo.2 hw ho h49;rw[q1,am];have np:cl'.length=s.cl.length:=by rw[ec,qF];split;exact mA _ _ _;rfl
  have hll:X8.length=qi v:=by rw[el,pN]
  refine⟨_,by rw[e0,hz],q2,u,u2,_,_,_,rfl,Ru,wo.2,λ_=>⟨vD.symm,htn.symm,anm.symm,⟨?_,?_⟩,fu,fl⟩⟩
  ·rw[<-ec];refine⟨_,_,by rw[np];exact p18,.inr ⟨B2,0,_,rfl,by show B2<U'.next;omega,bk ((q4 _ (by omega) (by omega)).trans g2),?_⟩⟩;rw[kN,<-ch dA,dd]
  ·rw[<-el];refine⟨_,_,by rw[hll];exact hu2,.inr ⟨B3,0,_,rfl,by show B3<U'.next;omega,bk ((q4 _ (by omega) (by omega)).trans g3),?_⟩⟩;rw[kN,<-ch nO,dd]
 rcases hk with k2|k3|k4
 ·obtain⟨y1,y2⟩:=Fj hvz nS (.inl (by rw[k2];rfl));obtain⟨j,hj⟩:∃j:Nat,x.lk=(j:Int):=⟨x.lk.toNat,by omega⟩;have Sk:j<qi v:=by unfold qi;omega
  have ixl:∀W' kk,gn 1 u2 (.int kk x.lk) W'=some (.pointer (some ⟨B3,j,none⟩),W'):=λW' kk=>by rw[hu2,hj,sf Sk,aI,ko]
  have ld:=ais gB3 Sk;have d9:=aS k2;by_cases e3:(s.lk x.lk).isSome=true
  ·obtain⟨q,hq⟩:=Hl.1 e3;have hq1:=hlk _ _ hq;rw[hj]at hq;rw[hq]at ld;have ld':aK (.pointer (some ⟨B3,j,none⟩)) CB=some (.af q,CB):=ld;have d10:decide (q=0)=false:=dS;rw[ax ⟨k2,e3⟩]at hR;obtain⟨U',q1,q2,q3,q4,q5,q6⟩:=xM.fin h1 h2 Ru wo.2 20;simp only[SX,aI,cC,lk,d,lw,ix,Qq,b1,b2,Lx,d2,fw AH.g2,iw AH.g0,c1,c3,d3,p1,p2,p3,p4,p5,p6,p7,p8,p9,Xa,Xh,d5,d6,FJ,Q7,Zj,ln,d7,s1,s2e,ll8,Gm,FG,d8,b9,zG h9.g0,m1,sl,Y9,d9,adp,abL,ixl,ld',d10,q1,q2,q3,am];exact⟨_,by rw[e0,hR],q4,.bad (by rw[e0,hR];decide) Ru wo.2⟩
  rw[ay λc=>e3 c.2]at hR;have hq:s.lk (j:Int)=none:=by rw[<-hj];simpa using e3
  rw[hq]at ld;have ld':aK (.pointer (some ⟨B3,j,none⟩)) CB=some (.af 0,CB):=ld;have d10:decide ((0:Int)=0)=true:=by decide
  have stl:=aag gB3 Sk x.id;obtain⟨wQ,yE⟩:∃wQ,wQ=CB.put B3 (.cells (((Gc s (qi v)).set j x.id).flatMap jE)):=⟨_,rfl⟩;rw[<-yE]at stl;have n12:wQ.next=CB.next:=by rw[yE];rfl
  have YX:∀d,d≠B3->wQ.get d=CB.get d:=λd hd=>by rw[yE];exact AW.aE _ _ (bL hd)
  simp only[SX,aI,cC,lk,d,lw,ix,Qq,b1,b2,Lx,d2,fw AH.g2,iw AH.g0,c1,c3,d3,p1,p2,p3,p4,p5,p6,p7,p8,p9,Xa,Xh,d5,d6,FJ,Q7,Zj,ln,d7,s1,s2e,ll8,Gm,FG,d8,b9,zG h9.g0,m1,sl,Y9,d9,adp,abL,ixl,ld',fw xM.g2,stl];refine done wQ s.cl ((Gc s (qi v)).set j x.id) (xM.far (by omega) λd hd=>YX d (by omega)) (by omega) ((YX _ (by omega)).trans gB2) (by rw[yE];exact AW.bz _ _ _) ?_ ?_ hR
  ·rw[qF,b8]
  ·refine(Oa (q:=some x.id) λk=>?_).symm;rw[vJ];by_cases e:k=j
   ·simp only[e,hj,bh,ax k2]
   ·simp only[hj,ay e];rw[b8]
 ·have anL:(rN s i x).lk=s.lk:=by rw[vJ];funext k;rw[ay (show¬x.k=2 by omega),ay (show¬x.k=4 by omega),ite_self]
  rw[b8]at hR;have d9:decide (x.k=2)=false:=dS;have d10:decide (x.k=4)=false:=dS;have alM:aK (cr V.next) CB=some (.af (o.c:Int),CB):=eQ gV rfl;have st1:=OH gB2 mr (i:Int);obtain⟨wQ,yE⟩:∃wQ,wQ=CB.put B2 (.cells ((s.cl.set o.c {s.cl[o.c]with co:=(i:Int)}).flatMap gq)):=⟨_,rfl⟩;rw[<-yE]at st1;have n12:wQ.next=CB.next:=by rw[yE];rfl
  have YX:∀d,d≠B2->wQ.get d=CB.get d:=λd hd=>by rw[yE];exact AW.aE _ _ (bL hd)
  have g12:wQ.get B2=some (.cells ((s.cl.set o.c {s.cl[o.c]with co:=(i:Int)}).flatMap gq)):=by rw[yE];exact AW.bz _ _ _
  have h12:yH W wQ v sv ev u s.of u2 s.tn s.st x:=xM.far (by omega) λd hd=>YX d (by omega)
  have am6:aK (cr V.next) wQ=some (.af (o.c:Int),wQ):=eQ ((YX _ (by omega)).trans gV) rfl;have Yu:=OI g12 (c:=o.c) (by rw[kp];exact mr) x.rp;rw[List.set_set,List.getElem_set_self]at Yu;obtain⟨V13,YF⟩:∃V13,V13=wQ.put B2 (.cells ((s.cl.set o.c {s.cl[o.c]with co:=(i:Int),rp:=x.rp}).flatMap gq)):=⟨_,rfl⟩;rw[<-YF]at Yu;have n13:V13.next=wQ.next:=by rw[YF];rfl
  have o13:∀d,d≠B2->V13.get d=wQ.get d:=λd hd=>by rw[YF];exact AW.aE _ _ (bL hd)
  have vrp:fK (IR x.rp) (IR x.rp)=true:=nW (by simp[Sv,tr]);have vu:fK u u=true:=by rw[p18];simp[fK,tr,wJ]
  simp only[SX,aI,cC,lk,d,lw,ix,Qq,b1,b2,Lx,d2,fw AH.g2,iw AH.g0,c1,c3,d3,p1,p2,p3,p4,p5,p6,p7,p8,p9,Xa,Xh,d5,d6,FJ,Q7,Zj,ln,d7,s1,s2e,ll8,Gm,FG,d8,b9,zG h9.g0,m1,sl,Y9,d9,d10,iw xM.g0,alM,yU xM.g2,st1,kE,yU h12.g2,am6,iw h12.g0,vrp,vu,Tk,iM,Yu];refine done V13 (s.cl.set o.c {s.cl[o.c]with co:=(i:Int),rp:=x.rp}) (Gc s (qi v)) (h12.far (by omega) λd hd=>o13 d (by omega)) (by omega) (by rw[YF];exact AW.bz _ _ _) ((o13 _ (by omega)).trans ((YX _ (by omega)).trans gB3)) ?_ ?_ hR
  ·rw[qF,ax k3,BO mr]
  ·unfold Gc;rw[anL]
 ·obtain⟨y1,y2⟩:=Fj hvz nS (.inr (by rw[k4];rfl));obtain⟨j,hj⟩:∃j:Nat,x.lk=(j:Int):=⟨x.lk.toNat,by omega⟩;have Sk:j<qi v:=by unfold qi;omega
  have ixl:∀W' kk,gn 1 u2 (.int kk x.lk) W'=some (.pointer (some ⟨B3,j,none⟩),W'):=λW' kk=>by rw[hu2,hj,sf Sk,aI,ko]
  have d9:decide (x.k=2)=false:=dS;have d10:=aS k4;rw[b8]at hR;have stl:=aag gB3 Sk 0;obtain⟨wQ,yE⟩:∃wQ,wQ=CB.put B3 (.cells (((Gc s (qi v)).set j 0).flatMap jE)):=⟨_,rfl⟩;rw[<-yE]at stl;have n12:wQ.next=CB.next:=by rw[yE];rfl
  have YX:∀d,d≠B3->wQ.get d=CB.get d:=λd hd=>by rw[yE];exact AW.aE _ _ (bL hd)
  simp only[SX,aI,cC,lk,d,lw,ix,Qq,b1,b2,Lx,d2,fw AH.g2,iw AH.g0,c1,c3,d3,p1,p2,p3,p4,p5,p6,p7,p8,p9,Xa,Xh,d5,d6,FJ,Q7,Zj,ln,d7,s1,s2e,ll8,Gm,FG,d8,b9,zG h9.g0,m1,sl,Y9,d9,d10,adp,abL,ixl,stl];refine done wQ s.cl ((Gc s (qi v)).set j 0) (xM.far (by omega) λd hd=>YX d (by omega)) (by omega) ((YX _ (by omega)).trans gB2) (by rw[yE];exact AW.bz _ _ _) ?_ ?_ hR
  ·rw[qF,b8]
  ·refine(Oa (q:=none) λk=>?_).symm;rw[vJ];by_cases e:k=j
   ·simp only[e,hj,bh,ax k4];rw[b8]
   ·simp only[hj,ay e];rw[b8]
end
def aaZ(v:cA)(s:RS)(x:de):sd v s x=if dX s x≠0 then dX s x else Er v (xx s x) x:=by rw[Mr];rfl
def XY(s:RS)(x:de):dX s x=if nj x≠0 then nj x else if x.tn<0\/1000000000<x.tn\/x.wk<1\/64<x.wk then 7 else if x.tn<s.tn\/(nE x=true/\x.tn<=s.st)then 18 else 0:=by
 unfold dX nj;by_cases c1:x.k<1\/6<x.k
 ·simp only[ax c1];rfl
 ·simp only[ay c1];by_cases c2:x≠ij x
  ·simp only[ax c2];rfl
  ·simp only[ay c2,ne_eq,ve,bR]
structure NxH (W:AW) (v:cA) (sv ev cv lv:ae) (s:RS) (l:List de):Prop where
 c:M4 W v s cv lv
 inv:kZ s
 r:Hg W ev l
 sc:eY W sv v.az
 vl:v.az.length<1000
 w:∀t∈v.az,t.rows.length<1000
 z:(fp v).2=0
 k:∀j id,s.lk j=some id->1<=id
 o:Eng.one sv=true
section
variable {W V U:AW} {v:cA} {sv ev cv lv:ae} {s:RS} {f:Int->Option ei} {tn st:Int} {l:List de} {i:Nat} {x:de} {o:ei}
def aeH(h:yH W V v sv ev cv s.of lv s.tn s.st x)(H:NxH W v sv ev cv lv s l)(hx:l[i]? =some x)(hw:1<=x.wk/\x.wk<=64)(hk:1<=x.k/\x.k<=6):
 Ok (gf bm (.af (i:Int)) (cr W.next) (cr (W.next+1)) (cr (W.next+2)) V) λr=>∃val,r.1=.tuple #[val,.af (Er v s x)]/\Le W r.2/\EJ r.2 W.next cv lv v sv ev val (Er v s x) (rN s i x):=by
 by_cases c:x.k=1\/x.k=5\/x.k=6\/eX s x≠0
 ·exact agT h H.c H.inv H.r hx H.sc H.vl H.w H.o hw c
 ·have hn:eX s x=0:=by
   by_cases e:eX s x=0
   ·exact e
   ·exact absurd (.inr (.inr (.inr e))) c
  exact ahX h H.c H.inv H.r H.sc H.vl H.w H.z (gA H.z) H.k H.o hw (by omega) hn
def Ul(h:yH W V v sv ev cv s.of lv s.tn s.st x)(H:NxH W v sv ev cv lv s l)(hx:l[i]? =some x){e:Int}(hE:dX s x=e):
 Ok (mu bm (.af (i:Int)) (cr W.next) (cr (W.next+1)) (cr (W.next+2)) (.af e) V) λr=>∃val,r.1=.tuple #[val,.af (sd v s x)]/\Le W r.2/\EJ r.2 W.next cv lv v sv ev val (sd v s x) (H9 s i x):=by
 have h2:Eng.one ev=true:=row_one H.r;have h3:=(ff H.c.c).2;have h4:=(ff H.c.l).2;have WW:=h.nx;have Ly:=aaZ v s x;unfold mu;by_cases e0:e=0;case neg=>have d:=bq e0;rw[ax (by rw[hE];exact e0),hE]at Ly;obtain⟨U',q1,q2,q3,q4,q5,q6⟩:=h.fin H.o h2 h3 h4 e;simp only[SX,d,q1,q2,q3,am];exact⟨_,by rw[Ly],q4,.bad (by rw[Ly];exact e0) h3 h4⟩
 have d:=aS e0;have hh:dX s x=0:=hE.trans e0;rw[ay (by simpa using hh)]at Ly;obtain⟨hk,-,-,hw,-,-⟩:=sQ hh;have ltn:=sx h.g2;have s1:=Yl h.g0 x.tn;have h1:=h.put cv s.of lv x.tn s.st;obtain⟨V1,wL⟩:∃V1,V1=V.put W.next (.cells (eV v sv ev cv s.of lv x.tn s.st)):=⟨_,rfl⟩;rw[<-wL]at s1 h1;have low:=Uu x;have la:=mp h1.g2;have akI:=sx h1.g2;have H':NxH W v sv ev cv lv (xx s x) l:=⟨⟨H.c.c,H.c.l⟩,⟨H.inv.ids,H.inv.of,H.inv.len,H.inv.wk,H.inv.steps⟩,H.r,H.sc,H.vl,H.w,H.z,H.k,H.o⟩;have fin:∀{r:ae×AW},(∃val,r.1=.tuple #[val,.af (Er v (xx s x) x)]/\Le W r.2/\EJ r.2 W.next cv lv v sv ev val (Er v (xx s x) x) (rN (xx s x) i x))->∃val,r.1=.tuple #[val,.af (sd v s x)]/\Le W r.2/\EJ r.2 W.next cv lv v sv ev val (sd v s x) (H9 s i x):=by
  rintro r ⟨val,a1,a2,a3⟩;refine⟨val,by rw[Ly];exact a1,a2,?_⟩;obtain⟨lN,Gp,f',Vf,EA,b1,b2,b3,b4⟩:=a3;refine⟨lN,Gp,f',Vf,EA,b1,b2,b3,λhe=>?_⟩;rw[Ly]at he;have hn:eX s x=0:=by
   by_cases e:eX s x=0
   ·exact e
   ·unfold Er at he;rw[ax (show eX (xx s x) x≠0 from e)]at he;exact he
  rw[Uf hn];exact b4 he
 cases ho:nE x with
 |true=>
  rw[ho]at low;have s2:=Xm h1.g0 x.tn;have hp:=h1.put cv s.of lv x.tn x.tn;obtain⟨V2,pG⟩:∃V2,V2=V1.put W.next (.cells (eV v sv ev cv s.of lv x.tn x.tn)):=⟨_,rfl⟩;rw[<-pG]at s2 hp;have e1:(xx s x).st=x.tn:=by unfold xx;simp only[ho,bh]
  have PQ:yH W V2 v sv ev cv (xx s x).of lv (xx s x).tn (xx s x).st x:=by rw[e1];exact hp
  simp only[SX,d,aI,ltn,s1,la,low,akI,s2];exact Ok.mono (aeH PQ H' hx hw hk) λr=>fin
 |false=>
  rw[ho]at low;have e1:(xx s x).st=s.st:=by unfold xx;simp only[ho,gO,bR]
  have PQ:yH W V1 v sv ev cv (xx s x).of lv (xx s x).tn (xx s x).st x:=by rw[e1];exact h1
  simp only[SX,d,aI,ltn,s1,la,low];exact Ok.mono (aeH PQ H' hx hw hk) λr=>fin
def adq(h:yH W V v sv ev cv s.of lv s.tn s.st x)(H:NxH W v sv ev cv lv s l)(hx:l[i]? =some x){e:Int}(hE:dX s x=if e≠0 then e else if x.tn<s.tn\/(nE x=true/\x.tn<=s.st)then 18 else 0):
 Ok (js bm (.af (i:Int)) (cr W.next) (cr (W.next+1)) (cr (W.next+2)) (.af e) V) λr=>∃val,r.1=.tuple #[val,.af (sd v s x)]/\Le W r.2/\EJ r.2 W.next cv lv v sv ev val (sd v s x) (H9 s i x):=by
 unfold js;by_cases e0:e=0;case neg=>have d:=bq e0;rw[ax e0]at hE;simp only[SX,d,wu1,wu2];exact Ul h H hx hE
 have d:=aS e0;rw[ay (by simpa using e0)]at hE;have ltn:=sx h.g2;have YA:=abQ h.g0;have lss:=acU h.g0;have la:=mp h.g2;have low:=Uu x;by_cases c1:x.tn<s.tn
 ·have d1:=aS c1;rw[ax (.inl c1)]at hE;simp only[SX,d,wu2,ltn,YA,d1];exact Ul h H hx hE
 have d1:=bq c1;cases ho:nE x with
 |false=>rw[ho]at low hE;rw[ay (by simp;omega)]at hE;simp only[SX,d,ltn,YA,d1,la,low];rw[e0];exact Ul h H hx hE
 |true=>
  rw[ho]at low hE;by_cases c2:x.tn<=s.st
  ·have d2:=aS c2;rw[ax (.inr ⟨rfl,c2⟩)]at hE;simp only[SX,d,ltn,YA,lss,d1,la,low,d2];exact Ul h H hx hE
  ·have d2:=bq c2;rw[ay (by simp;omega)]at hE;simp only[SX,d,ltn,YA,lss,d1,la,low,d2];rw[e0];exact Ul h H hx hE
def YU(H:NxH W v sv ev cv lv s l)(hx:l[i]? =some x):
 ∃val W',bm (.func (.func 38) #[] #[]) [uT v sv ev cv s.of lv s.tn s.st,.af (i:Int)] W=some (.tuple #[val,.af (sd v s x)],W')/\Le W W'/\EJ W' W.next cv lv v sv ev val (sd v s x) (H9 s i x):=by
 refine Ta ?_ EW;unfold CA;obtain⟨V1,V2,V3,k1,k2,k3,k4,k5,k6,k7,k8,k9,g0,g1,g2⟩:=Hf v sv ev cv s.of lv s.tn s.st x W;have h:yH W V3 v sv ev cv s.of lv s.tn s.st x:=⟨k3.trans k7,by omega,g0,g1,g2⟩;obtain⟨hi,Ym⟩:=du.1 hx;obtain⟨p,p1,p2⟩:=H.r.get hi;rw[Ym]at p2;have le:=NH k9;have lw:=fx g2;have lt:=sx g2;have la:=mp g2;have fo:=PS x;have hF:=XY s x;by_cases c1:nj x=0;case neg=>have d:=bq c1;rw[ax c1]at hF;simp only[SX,k1,k2,aI,cC,le,p1,p2 _ k3,k5,k6,la,fo,d,wu1];exact adq h H hx (by rw[hF,ax c1])
 have d:=aS c1;rw[ay (by simpa using c1)]at hF;have bad:(x.tn<0\/1000000000<x.tn\/x.wk<1\/64<x.wk)->Ok (js bm (.af (i:Int)) (cr W.next) (cr (W.next+1)) (cr (W.next+2)) (.af 7) V3) λr=>∃val,r.1=.tuple #[val,.af (sd v s x)]/\Le W r.2/\EJ r.2 W.next cv lv v sv ev val (sd v s x) (H9 s i x):=λc=>adq h H hx (by rw[hF,ax c,ax (by decide)])
 by_cases c2:x.tn<0
 ·have d2:=aS c2;simp only[SX,k1,k2,aI,cC,le,p1,p2 _ k3,k5,k6,la,fo,d,lt,d2];exact bad (.inl c2)
 have d2:=bq c2;by_cases c3:1000000000<x.tn
 ·have d3:=aS c3;simp only[SX,k1,k2,aI,cC,le,p1,p2 _ k3,k5,k6,la,fo,d,lt,d2,d3];exact bad (.inr (.inl c3))
 have d3:=bq c3;by_cases c4:x.wk<1
 ·have d4:=aS c4;simp only[SX,k1,k2,aI,cC,le,p1,p2 _ k3,k5,k6,la,fo,d,lt,d2,d3,lw,d4];exact bad (.inr (.inr (.inl c4)))
 have d4:=bq c4;by_cases c5:64<x.wk
 ·have d5:=aS c5;simp only[SX,k1,k2,aI,cC,le,p1,p2 _ k3,k5,k6,la,fo,d,lt,d2,d3,lw,d4,d5];exact bad (.inr (.inr (.inr c5)))
 have d5:=bq c5;rw[b8]at hF;simp only[SX,k1,k2,aI,cC,le,p1,p2 _ k3,k5,k6,la,fo,d,lt,d2,d3,lw,d4,d5];exact adq h H hx (by rw[ay (show¬nj x≠0 fromλe=>e c1)];exact hF)
end
abbrev stZ:ae:=uT eZ bc bc bc zf bc 0 0
def DnA(W':AW)(v:cA)(sv ev:ae)(l:List de)(val:ae)(a e:Int):Prop:=
 qW v l a e/\((e≠0/\val=stZ)\/(e=0/\∃s cv lv,fQ v l l.length s/\val=uT v sv ev cv s.of lv s.tn s.st/\Eng.one cv=true/\Eng.one lv=true/\M4 W' v s cv lv))
section
variable {W V U:AW} {v:cA} {sv ev cv lv:ae} {s:RS} {l:List de} {i:Nat} {x:de}
def S0{b2:Nat}{cs:List ae}(g2:U.get b2=some (.cells cs))(hl:cs.length=204)(a e:Int):
 ∃U',bP 204 (cr b2) stZ U=some (ag,U')/\aF Tryz.prog [(cr b2,some 88),(.af a,none),(.af e,none)] U'=some (.tuple #[stZ,.af a,.af e],U')/\U'.next=U.next/\∀d,d≠b2->U'.get d=U.get d:=by
 refine⟨_,iY g2 hl rfl rfl rfl rfl,?_,rfl,λd hd=>AW.aE _ _ (bL hd)⟩;rw[D5,RY,iF (AW.bz _ _ _)];rfl
structure DnB (V U:AW) (v:cA) (sv ev:ae) (l:List de) (b2 b7 i:Nat) (s:RS) (cv lv:ae):Prop where
 le:Le V U
 lo:V.next<=b7/\b7<U.next
 g7:U.get b7=some (.cells (eV v sv ev cv s.of lv s.tn s.st))
 run:fQ v l i s
 c:M4 U v s cv lv
 a7:av b7 cv/\av b7 lv
 a2:av b2 cv/\av b2 lv
def Je{K:LT->Option (ae×AW)}{Q:ae×AW->Prop}{R0:Nat->ae}{b1 b2 b7:Nat}(hr:Hg V ev l)(hs:fJ V sv v.az)(hv:v.az.length<1000)(hw:∀s∈v.az,s.rows.length<1000)(hz:(fp v).2=0)(hl:l.length<=2000)(hb:b1<V.next/\b2<V.next)(g1:V.get b1=some (.cells (qT v sv ev))){cs:List ae}(g2:V.get b2=some (.cells cs))(pw:cs.length=204)
 (h:DnB V U v sv ev l b2 b7 0 s cv lv)(r1:R0 1=cr b1)(r2:R0 2=cr b2)(r7:R0 7=cr b7)(r8:R0 8=.af 0)
 (hK0:∀R U s cv lv,DnB V U v sv ev l b2 b7 l.length s cv lv->R 2=cr b2->R 7=cr b7->Ok (K (.exit 0,R,U)) Q)
 (hK1:∀R U k s x,fQ v l k s->l[k]? =some x->sd v s x≠0->(∀d,d<V.next->d≠b2->U.get d=V.get d)->V.next<=U.next->U.get b2=some (.cells (eV eZ bc bc bc zf bc 0 0))->R 2=cr b2->R 3=.af (k:Int)->R 4=.af (sd v s x)->Ok (K (.ret,R,U)) Q):
 Ok (ah (cW (mq bm) R0 U) K) Q:=by
 have h1:Eng.one sv=true:=row_one hs.1;have h2:Eng.one ev=true:=row_one hr;refine bY l.length (by omega) (λi R U=>R 1=cr b1/\R 2=cr b2/\R 7=cr b7/\R 8=.af (i:Int)/\∃s cv lv,DnB V U v sv ev l b2 b7 i s cv lv)
  (λr=>(r.1=.exit 0/\r.2.1 2=cr b2/\r.2.1 7=cr b7/\∃s cv lv,DnB V r.2.2 v sv ev l b2 b7 l.length s cv lv)\/(r.1=.ret/\∃k s x,fQ v l k s/\l[k]? =some x/\sd v s x≠0/\(∀d,d<V.next->d≠b2->r.2.2.get d=V.get d)/\V.next<=r.2.2.next/\r.2.2.get b2=some (.cells (eV eZ bc bc bc zf bc 0 0))/\r.2.1 2=cr b2/\r.2.1 3=.af (k:Int)/\r.2.1 4=.af (sd v s x)))
  ⟨r1,r2,r7,r8,_,_,_,h⟩ ?_ ?_ ?_
 ·rintro i R U hi ⟨r1,r2,r7,r8,s,cv,lv,h⟩;unfold mq;have t1:decide ((i:Int)<(l.length:Int))=true:=jr;have t2:=λW'=>cQ W' i 1
  have e3:((i+1:Nat):Int)=(i:Int)+1:=by omega
  have Sj:aK (.pointer (some ⟨b1,4,none⟩)) U=some (ev,U):=eQ ((h.le.get _ hb.1).trans g1) rfl;have ln:∀W',aB Tryz.prog .len #[25] 3 #[false] [ev] W'=some (.af (l.length:Int),W'):=λW'=>Row.len hr qK W' 3 #[false]
  have vJ:=h.lo;have hln:=h.le.next;have H:NxH U v sv ev cv lv s l:=⟨h.c,h.run.inv,hr.mono h.le,hs.1.mono h.le,hv,hw,hz,h.run.lks,h1⟩;have hx:l[i]? =some l[i]:=cL hi;generalize l[i]=x at *;obtain⟨val,W',k1,k2,lN,Gp,f',Vf,EA,rfl,k3,k4,k5⟩:=YU H hx;have hkn:=k2.next;have a88:=Im W';have pt:=iY (v:=v) (sv:=sv) (ev:=ev) (cv:=lN) (f:=f') (lv:=Gp) (tn:=Vf) (st:=EA) (AW.aT W' (.cells (eV eZ bc bc bc zf bc 0 0))) dL h1 h2 k3 k4;rw[gt]at pt;obtain⟨V1,wL⟩:∃V1,V1=W'.add (.cells (eV v sv ev lN f' Gp Vf EA)):=⟨_,rfl⟩;rw[<-wL]at pt;have l1:Le W' V1:=by rw[wL];exact(Le.refl _).add _
  have n1:V1.next=W'.next+1:=by rw[wL];rfl
  have gv:V1.get W'.next=some (.cells (eV v sv ev lN f' Gp Vf EA)):=by rw[wL];exact AW.aT _ _
  have lU:Le U V1:=k2.trans l1;by_cases c:sd v s x=0
  ·have d:=aS c;obtain⟨rfl,rfl,rfl,q4,q5,q6⟩:=k5 c;have p7:=iY (v:=v) (sv:=sv) (ev:=ev) (cv:=lN) (f:=(H9 s i x).of) (lv:=Gp) (tn:=(H9 s i x).tn) (st:=(H9 s i x).st) ((lU.get _ vJ.2).trans h.g7) dL h1 h2 k3 k4;obtain⟨V2,pG⟩:∃V2,V2=V1.put b7 (.cells (eV v sv ev lN (H9 s i x).of Gp (H9 s i x).tn (H9 s i x).st)):=⟨_,rfl⟩;rw[<-pG]at p7;have n2:V2.next=V1.next:=by rw[pG];rfl
   have o2:∀d,d≠b7->V2.get d=V1.get d:=λd hd=>by rw[pG];exact AW.aE _ _ (bL hd)
   simp only[SX,r1,r7,r8,Sj,ln,t1,iF h.g7,k1,a88,pt,d,iF gv,p7,t2,aI,am];have avf:∀{q:Nat} {c0 c1:ae},q<U.next->av q c0->Sm U.next c0 c1->av q c1:=λ{q c0 c1} hq ha hf a k m e hk=>by
    rcases hf with rfl|hf
    ·exact ha a k m e hk
    ·have:=hf a k m e;omega
   refine .inl ⟨aA,r1,r2,r7,by rw[e3];rfl,_,lN,Gp,⟨⟨by omega,λd hd=>(o2 d (by omega)).trans ((lU.get d (by omega)).trans (h.le.get d hd))⟩,⟨vJ.1,by omega⟩,by rw[pG];exact AW.bz _ _ _,.succ h.run hx c,⟨?_,?_⟩,⟨avf vJ.2 h.a7.1 q5,avf vJ.2 h.a7.2 q6⟩,⟨avf (by omega) h.a2.1 q5,avf (by omega) h.a2.2 q6⟩⟩⟩
   ·exact zV (q4.c.dq l1) q5 h.a7.1 vJ.2 (by omega) o2
   ·exact zV (q4.l.dq l1) q6 h.a7.2 vJ.2 (by omega) o2
  ·have d:=bq c;have g2':V1.get b2=some (.cells cs):=((h.le.trans lU).get _ hb.2).trans g2;have p2:=iY (v:=eZ) (sv:=bc) (ev:=bc) (cv:=bc) (f:=zf) (lv:=bc) (tn:=0) (st:=0) g2' pw rfl rfl rfl rfl;obtain⟨V2,pG⟩:∃V2,V2=V1.put b2 (.cells (eV eZ bc bc bc zf bc 0 0)):=⟨_,rfl⟩;rw[<-pG]at p2;simp only[SX,r1,r2,r7,r8,Sj,ln,t1,iF h.g7,k1,a88,pt,d,Wz,p2,aI,am];refine .inr ⟨by simp,.inr ⟨aA,i,s,x,h.run,hx,c,λd hd hd2=>?_,?_,by rw[pG];exact AW.bz _ _ _,r2,rfl,rfl⟩⟩
   ·show V2.get d=V.get d;rw[pG,AW.aE _ _ (bL hd2)];exact(h.le.trans lU).get d hd
   ·show V.next<=V2.next;rw[pG,AW.cT];omega
 ·rintro R U ⟨r1,r2,r7,r8,s,cv,lv,h⟩;unfold mq;have t1:decide ((l.length:Int)<(l.length:Int))=false:=dS;have Sj:aK (.pointer (some ⟨b1,4,none⟩)) U=some (ev,U):=eQ ((h.le.get _ hb.1).trans g1) rfl;have ln:∀W',aB Tryz.prog .len #[25] 3 #[false] [ev] W'=some (.af (l.length:Int),W'):=λW'=>Row.len hr qK W' 3 #[false]
  simp only[SX,r1,r8,Sj,ln,t1,aI,am];exact⟨by simp,.inl ⟨aA,r2,r7,s,cv,lv,h⟩⟩
 ·rintro⟨e,R,U⟩ (⟨rfl,q2,q7,s,cv,lv,q⟩|⟨rfl,k,s,x,y1,y2,y3,y4,y5,y6,y7,y8,y9⟩)
  ·exact hK0 R U s cv lv q q2 q7
  ·exact hK1 R U k s x y1 y2 y3 y4 y5 y6 y7 y8 y9
end
def Wn(q:Nat):av q bc:=λa k m e _=>by injection e with e;cases e
section
variable {W V U:AW} {v:cA} {sv ev cv lv:ae} {s:RS} {l:List de} {i:Nat} {x:de}
def Of(h:KK W v sv ev l):∃val a e W',bm (.func (.func 25) #[] #[]) [pz v sv ev] W=some (.tuple #[val,.af a,.af e],W')/\Le W W'/\DnA W' v sv ev l val a e:=by
 have h1:Eng.one sv=true:=row_one h.az.1;have h2:Eng.one ev=true:=row_one h.GD;have oK:Ok (wy bm (pz v sv ev) W) λr=>∃val a e,r.1=.tuple #[val,.af a,.af e]/\Le W r.2/\DnA r.2 v sv ev l val a e:=by
  unfold wy;obtain⟨V,bx,a8,nV,g0⟩:=qq v sv ev W;obtain⟨V1,wL⟩:∃V1,V1=V.add (.cells (eV eZ bc bc bc zf bc 0 0)):=⟨_,rfl⟩;have l1:Le V V1:=by rw[wL];exact(Le.refl _).add _
  have n1:V1.next=V.next+1:=by rw[wL];rfl
  have a1:=Im V;rw[<-wL]at a1;have g11:V1.get V.next=some (.cells (eV eZ bc bc bc zf bc 0 0)):=by rw[wL];exact AW.aT _ _
  have g10:=(l1.get _ (by omega)).trans g0;have Ld:Le W V1:=a8.trans l1;have l4:bA 4 (cr W.next) V1=some (fc v sv,V1):=eh (bk g10) rfl;have l5:=ee g10;have Sj:aK (.pointer (some ⟨W.next,4,none⟩)) V1=some (ev,V1):=eQ g10 rfl;have ck:=vn (h.az.1.mono Ld) h.small h.rows;have ln:∀W',aB Tryz.prog .len #[25] 3 #[false] [ev] W'=some (.af (l.length:Int),W'):=λW'=>Row.len h.GD qK W' 3 #[false]
  by_cases c1:(fp v).2=0;case neg=>have d1:=bq c1;obtain⟨U',q1,q2,q3,q4⟩:=S0 g11 dL (-1) (fp v).2;simp only[SX,bx,a1,aI,l4,ck,d1,Wz,q1,q2,am];exact⟨_,_,_,rfl,⟨by omega,λd hd=>(q4 d (by omega)).trans (Ld.get d hd)⟩,.ZY c1,.inl ⟨c1,rfl⟩⟩
  have d1:=aS c1;by_cases c2:2000<l.length
  ·have d2:decide ((2000:Int)<(l.length:Int))=true:=jr;obtain⟨U',q1,q2,q3,q4⟩:=S0 g11 dL (-1) 3;simp only[SX,bx,a1,aI,l4,ck,d1,Sj,ln,d2,Wz,q1,q2,am];exact⟨_,_,_,rfl,⟨by omega,λd hd=>(q4 d (by omega)).trans (Ld.get d hd)⟩,.len c1 c2,.inl ⟨by decide,rfl⟩⟩
  have d2:decide ((2000:Int)<(l.length:Int))=false:=dS;obtain⟨lv,V2,b1,b2,b3,b4⟩:=Wv (h.az.mono Ld) h2 h.small (gA c1);have iW:=b2.next;have a3:=Im V2;have h4:=(ff b3.l).2;have pt:=iY (v:=v) (sv:=sv) (ev:=ev) (cv:=bc) (f:=(RS.init).of) (lv:=lv) (tn:=0) (st:= -1) (AW.aT V2 (.cells (eV eZ bc bc bc zf bc 0 0))) dL h1 h2 rfl h4;rw[gt]at pt;obtain⟨V3,Zd⟩:∃V3,V3=V2.add (.cells (eV v sv ev bc (RS.init).of lv 0 (-1))):=⟨_,rfl⟩;rw[<-Zd]at pt;have l3:Le V2 V3:=by rw[Zd];exact(Le.refl _).add _
  have n3:V3.next=V2.next+1:=by rw[Zd];rfl
  have Fx:Le W V2:=Ld.trans b2;have hD:DnB V2 V3 v sv ev l V.next V2.next 0 RS.init bc lv:=⟨l3,⟨aP _,by omega⟩,by rw[Zd];exact AW.aT _ _,.zero,b3.mono l3,⟨Wn _,Tx b3.l (aP _)⟩,⟨Wn _,λa k m e hk=>by have:=b4 a k m e;omega⟩⟩;simp only[SX,bx,a1,aI,l4,ck,d1,Sj,ln,d2,l5,b1,a3,pt];refine Je (V:=V2) (b1:=W.next) (b2:=V.next) (b7:=V2.next) (h.GD.mono Fx) (h.az.mono Fx) h.small h.rows c1 (by omega) ⟨by omega,by omega⟩ ((b2.get _ (by omega)).trans g10) ((b2.get _ (by omega)).trans g11) dL hD rfl rfl rfl rfl ?_ ?_
  ·intro R U s cv lv g q2 q7;have vJ:=g.lo;have hgn:=g.le.next;have k3:=(ff g.c.c).2;have k4:=(ff g.c.l).2;have g2:U.get V.next=some (.cells (eV eZ bc bc bc zf bc 0 0)):=(g.le.get _ (by omega)).trans ((b2.get _ (by omega)).trans g11);have p2:=iY (v:=v) (sv:=sv) (ev:=ev) (cv:=cv) (f:=s.of) (lv:=lv) (tn:=s.tn) (st:=s.st) g2 dL h1 h2 k3 k4;obtain⟨U2,j7⟩:∃U2,U2=U.put V.next (.cells (eV v sv ev cv s.of lv s.tn s.st)):=⟨_,rfl⟩;rw[<-j7]at p2;have o2:∀d,d≠V.next->U2.get d=U.get d:=λd hd=>by rw[j7];exact AW.aE _ _ (bL hd)
   have n2:U2.next=U.next:=by rw[j7];rfl
   have gr:bA 204 (cr V.next) U2=_:=iF (W:=U2) (by rw[j7];exact AW.bz _ _ _);simp only[SX,q2,q7,iF g.g7,p2,D5,RY,gr,bp,am];refine⟨_,_,_,rfl,⟨by omega,λd hd=>(o2 d (by omega)).trans ((g.le.get d (by omega)).trans (Fx.get d hd))⟩,.ok c1 (by omega) g.run,.inr ⟨rfl,s,cv,lv,g.run,rfl,k3,k4,?_,?_⟩⟩
   ·exact zV (n:=V.next+1) g.c.c (.inl rfl) g.a2.1 (by omega) (by omega) o2
   ·exact zV (n:=V.next+1) g.c.l (.inl rfl) g.a2.2 (by omega) (by omega) o2
  ·intro R U k s x eE hx he hg hn g2 q2 q3 q4;simp only[SX,q2,q3,q4,D5,RY,iF g2,bp,am];exact⟨_,_,_,rfl,⟨by omega,λd hd=>(hg d (by omega) (by omega)).trans (Fx.get d hd)⟩,.bad c1 (by omega) eE hx he,.inl ⟨he,rfl⟩⟩
 obtain⟨q,W',k1,val,a,e,rfl,k2,k3⟩:=qN (Q:=λq W'=>∃val a e,q=.tuple #[val,.af a,.af e]/\Le W W'/\DnA W' v sv ev l val a e) oK E0
  (λq W' ⟨val,a,e,e1,k2,k3,k4⟩ a8 hp=>⟨val,a,e,e1,.refl _,k3,by
    rcases k4 with k4|⟨h0,s,cv,lv,r1,rfl,r2,r3,r4⟩
    ·exact .inl k4
    ·refine .inr ⟨h0,s,cv,lv,r1,rfl,r2,r3,?_⟩;subst e1;have hp2:(eV v sv ev cv s.of lv s.tn s.st).all cG=true:=by simp only[bC,fa,mf,iM,bK,eI]at hp;exact hp.1
     rw[cM]at hp2;have hlv:=hp2 lv (qw (rq (v:=v) (sv:=sv) (ev:=ev) (cv:=cv) (f:=s.of) (lv:=lv) (tn:=s.tn) (st:=s.st) 0));have ZG:=hp2 cv (qw (i:=5) rfl);exact⟨uS r4.c ZG,uS r4.l hlv⟩⟩)
 exact⟨val,a,e,W',k1,k2,k3⟩
def DnA.put{val:ae}{a e:Int}(h1:Eng.one sv=true)(h2:Eng.one ev=true)(h:DnA W v sv ev l val a e):∃(v':cA) (sv' ev' lN Gp:ae) (f:Int->Option ei) (tn st:Int),val=uT v' sv' ev' lN f Gp tn st/\Eng.one sv'=true/\Eng.one ev'=true/\Eng.one lN=true/\Eng.one Gp=true/\(e=0->∃s,fQ v l l.length s/\Rd W 26 gq lN s.cl):=by
 obtain⟨-,⟨he,rfl⟩|⟨he,s,cv,lv,r1,rfl,r2,r3,r4⟩⟩:=h
 ·exact⟨_,_,_,_,_,_,_,_,rfl,rfl,rfl,rfl,rfl,λe=>absurd e he⟩
 ·exact⟨_,_,_,_,_,_,_,_,rfl,h1,h2,r2,r3,λ_=>⟨s,r1,r4.c⟩⟩
def FQ(h:KK W v sv ev l):∃a e:Int,qW v l a e/\bm (.func (.func 9) #[] #[]) [pz v sv ev] W=some (.tuple #[.af a,.af e],W):=by obtain⟨V,bx,a8,nV,g0⟩:=qq v sv ev W;obtain⟨val,a,e,W',k1,k2,k3⟩:=Of (h.mono a8);obtain⟨v',sv',ev',lN,Gp,f,tn,st,rfl,i1,i2,i3,i4,-⟩:=k3.put (row_one h.az.1) (row_one h.GD);refine⟨a,e,k3.1,bT rfl ?_ Cg⟩;unfold Ah;have a1:=Im W';have pt:=iY (v:=v') (sv:=sv') (ev:=ev') (cv:=lN) (f:=f) (lv:=Gp) (tn:=tn) (st:=st) (AW.aT W' (.cells (eV eZ bc bc bc zf bc 0 0))) dL i1 i2 i3 i4;rw[gt]at pt;simp only[SX,bx,ee g0,k1,a1,pt,am];exact⟨aA,(a8.trans k2).add _⟩
end
abbrev Mf(y:qA):List ae:=[.af y.id,.af y.fr,.af y.to]
abbrev spV(y:qA):ae:=.agg (Mf y).toArray
abbrev SpR(W:AW)(v:ae)(l:List qA):Prop:=Row W 3 (jD 3 Mf) v l
def pO(y:qA):(Mf y).length=3:=rfl
def Yy(y:qA):(Mf y).all Eng.one=true:=rfl
def Tl:((#[49]:Array ai)[0]?).bind Tryz.prog.underlying=some (.slice 53):=by kernel_rfl
def ana:iR Tryz.prog #[49,49] 3 24=true:=by kernel_rfl
def ahh(y:qA)(W:AW):aD Tryz.prog 49 1 [(0,spV y)] W=some (.slice (some ⟨W.next,0,none⟩) 1 1,W.add (.cells (Mf y))):=aJ (by kernel_rfl) rfl
def ahS(a b c:Int)(W:AW):bD Tryz.prog 53 [(0,.af a),(1,.af b),(2,.af c)] W=some (spV ⟨a,b,c⟩,W):=aJ (by kernel_rfl) rfl
def pS(v:cA)(e k:Int):Int:=if e=0 then(if k<0\/v.sh+v.az.length<=k then 4 else 0)else e
section
variable {α:Type} {W U:AW} {cv:ae} {bo:Option Nat} {m:List qA} {y:qA}
def XK{z:Nat}{f:α->List ae}{v:ae}{l:List α}(h:nA W z f v l bo){ts:Array ai}{e:ai}(ht:(ts[0]?).bind Tryz.prog.underlying=some (.slice e))(W':AW)(ty:ai)(cf:Array Bool):aB Tryz.prog .len ts ty cf [v] W'=some (.af l.length,W'):=by
 have hsl:∃a c,v=.slice a l.length c:=by rcases h with⟨rfl,rfl,-⟩|⟨-,B,-,-,rfl,-⟩<;>exact⟨_,_,rfl⟩
 obtain⟨a,c,rfl⟩:=hsl;unfold aB;simp only[ht];rfl
def YI(h:nA U 3 Mf cv (m++[y]) bo)(t:Int):∃B,bo=some B/\B<U.next/\(∀W' kk,gn 3 cv (.int kk (m.length:Int)) W'=some (.pointer (some ⟨B,m.length*3,none⟩),W'))/\
 bP 1 (.pointer (some ⟨B,m.length*3+2,none⟩)) (.af t) U=some (ag,U.put B (.cells ((m++[(⟨y.id,y.fr,t⟩:qA)]).flatMap Mf)))/\nA (U.put B (.cells ((m++[(⟨y.id,y.fr,t⟩:qA)]).flatMap Mf))) 3 Mf cv (m++[⟨y.id,y.fr,t⟩]) bo:=by
 rcases h with⟨h0,-,-⟩|⟨h0,B,h1,h2,h3,h4⟩
 ·simp at h0
 have hl:(m.flatMap Mf).length=m.length*3:=ch pO m;refine⟨B,h1,h2,λW' kk=>by rw[h3,sf (by simp),aI],?_,.inr ⟨by simp,B,h1,h2,by rw[h3];simp,AW.bz _ _ _⟩⟩;rw[pP,iU h4,bp];rw[ax (by simp[ge,hl])];congr 5;rw[ge,ge,ya _ _ (by omega),show m.length*3+2-(m.flatMap Mf).length=2 by omega];rfl
end
section
variable {W V U:AW} {v:cA} {sv ev cv:ae} {s:RS} {l:List de} {k:Int} {x:de} {bo:Option Nat}
def TV(m:List qA)(h2:x.k=2)(hl:x.lk=k):AJ k m x=m++[⟨x.id,x.tn,-1⟩]:=by unfold AJ;rw[ax ⟨h2,hl⟩]
def Tg(m:List qA)(h4:x.k=4)(hl:x.lk=k):AJ k m x=clo m x.tn:=by unfold AJ;rw[b8,ax ⟨h4,hl⟩]
def acg(m:List qA)(h2:¬(x.k=2/\x.lk=k))(h4:¬(x.k=4/\x.lk=k)):AJ k m x=m:=by unfold AJ;rw[ay h2,ay h4]
def Hv(l:List de)(k:Int):(IM k l).length<=l.length:=by
 have:∀(l:List de) (m:List qA),(l.foldl (AJ k) m).length<=m.length+l.length:=by
  intro l;induction l with
  |nil=>intro m;exact aP _
  |cons x l ih=>
   intro m;have h1:(AJ k m x).length<=m.length+1:=by
    unfold AJ;split
    ·simp
    ·split
     ·unfold clo;split
      ·rw[kp];omega
      ·omega
     ·omega
   have h2:=ih (AJ k m x);simp only[List.foldl_cons,dE];omega
 have:=this l [];simpa[IM]using this
structure H0 (V U:AW) (k:Int) (l:List de) (i:Nat) (cv:ae):Prop where
 le:Le V U
 c:∃bo,nA U 3 Mf cv (IM k (l.take i)) bo/\∀B,bo=some B->V.next<=B
def H0.mono{U':AW}{i:Nat}(h:H0 V U k l i cv)(a8:Le U U'):H0 V U' k l i cv:=by obtain⟨bo,h1,h2⟩:=h.c;exact⟨h.le.trans a8,bo,h1.dq a8.next λB hB=>a8.get B (h1.lt hB),h2⟩
def H0.skip{U':AW}{i:Nat}(h:H0 V U k l i cv)(hx:l[i]? =some x)(h2:¬(x.k=2/\x.lk=k))(h4:¬(x.k=4/\x.lk=k))(a8:Le U U'):H0 V U' k l (i+1) cv:=by have:=h.mono a8;refine⟨this.le,?_⟩;rw[ye hx,acg _ h2 h4];exact this.c
def H0.tak{i:Nat}(h:H0 V U k l i cv)(hi:i<=2000)(hx:l[i]? =some x)(h2:x.k=2)(hl:x.lk=k):∃lN U2,aN Tryz.prog (U.add (.cells (Mf ⟨x.id,x.tn,-1⟩))) #[49,49] cv (.slice (some ⟨U.next,0,none⟩) 1 1)=some (lN,U2)/\H0 V U2 k l (i+1) lN/\∀q,q<U.next->(∀n c,cv≠ .slice (some ⟨q,0,none⟩) n c)->U2.get q=U.get q:=by
 obtain⟨bo,h3,h4⟩:=h.c;have hn:=h.le.next;have eA:=Hv (l.take i) k;rw[dF]at eA;obtain⟨lN,U2,a1,a2,a3,a4⟩:=Oi (⟨x.id,x.tn,-1⟩:qA) ana pO Yy h3 (by omega) (by omega);refine⟨lN,U2,a1,⟨⟨by omega,λb hb=>(a4 b (by omega) (λe=>by have:=h4 _ e;omega)).trans (h.le.get b hb)⟩,some (U.next+1),?_,λB hB=>?_⟩,λq hq fk=>a4 q hq λe=>?_⟩
 ·rw[ye hx,TV _ h2 hl];exact a2
 ·injection hB with hB;omega
 ·rcases h3 with⟨-,-,h3⟩|⟨-,B,h3,-,h5,-⟩
  ·rw[h3]at e;cases e
  ·rw[h3]at e;injection e with e;subst e;exact fk _ _ h5
def H0.lt{i:Nat}(h:H0 V U k l i cv){q n c:Nat}(he:cv=.slice (some ⟨q,0,none⟩) n c):q<U.next:=by
 obtain⟨bo,h3,h4⟩:=h.c;rcases h3 with⟨-,h3,h5⟩|⟨-,B,h3,h6,h5,-⟩
 ·rw[h3]at he;cases he
 ·rw[h5]at he;injection he with he;injection he with he;injection he with he;omega
def H0.giv{i:Nat}(h:H0 V U k l i cv)(hx:l[i]? =some x)(h4:x.k=4)(hl:x.lk=k){m:List qA}{y:qA}(he:IM k (l.take i)=m++[y]):
 ∃B U2,(∀W' ty cf,aB Tryz.prog .len #[49] ty cf [cv] W'=some (.af ((m.length:Int)+1),W'))/\(∀W' kk,gn 3 cv (.int kk (m.length:Int)) W'=some (.pointer (some ⟨B,m.length*3,none⟩),W'))/\bP 1 (.pointer (some ⟨B,m.length*3+2,none⟩)) (.af x.tn) U=some (ag,U2)/\H0 V U2 k l (i+1) cv:=by
 obtain⟨bo,h3,h5⟩:=h.c;rw[he]at h3;obtain⟨B,b1,b2,b3,b4,b5⟩:=YI h3 x.tn;have hB:=h5 B b1;refine⟨B,_,λW' ty cf=>?_,b3,b4,h.le.put hB _,bo,?_,h5⟩
 ·rw[XK h3 Tl];simp
 ·rw[ye hx,Tg _ h4 hl,he,JD];exact b5
def Mg(x:de)(U:AW):∃U1,U1.next=U.next+1/\aY Tryz.prog 98 U=some (cr U.next,U.add (.cells (fe rd0)))/\bP 31 (cr U.next) (AT x) (U.add (.cells (fe rd0)))=some (ag,U1)/\Le U U1/\U1.get U.next=some (.cells (fe x)):=
 ⟨_,AW.aG _ _,Yg U,NO x U,(Le.refl _).add _,AW.aT _ _⟩
end
section
variable {α:Type} {z:Nat} {f:α->List ae} {W W':AW} {v:ae} {l:List α} {lo:Nat}
def uy{p:Nat}(h:EL lo W' z f v l)(hp:bC v=true):EL p W z f v l:=by
 rcases h with⟨rfl,rfl|⟨B,rfl⟩⟩|⟨h0,B,c,i1,i2,rfl,hc,i4⟩
 ·exact EL.nil _ _ _ _
 ·simp[bC,eI,cG]at hp
 ·simp[bC,eI,cG]at hp
def ab9{o t:Option (ae×AW)}{k:IntKind}{e:Int}(h:Ok t λr=>∃u,r.1=.tuple #[u,.int k e]/\Le W r.2/\EL W.next r.2 z f u l)(Li:∀{r},t=some r->o=some (gc W r)):∃u W',o=some (.tuple #[u,.int k e],W')/\Le W W'/\EL W.next W' z f u l:=by
 obtain⟨q,W',h1,u,rfl,h2,h3⟩:=qN (Q:=λq W'=>∃u,q=.tuple #[u,.int k e]/\Le W W'/\EL W.next W' z f u l) h Li λq W' ⟨u,e1,h2,h3⟩ a8 hp=>by
  subst e1;refine⟨u,rfl,.refl _,uy h3 ?_⟩;rcases h3 with⟨rfl,rfl|⟨B,rfl⟩⟩|⟨h0,B,c,i1,i2,rfl,hc,i4⟩
  ·rfl
  ·simp[bC,eI,cG]at hp
  ·simp[bC,eI,cG]at hp
 exact⟨u,W',h1,h2,h3⟩
def adJ{bo:Option Nat}(h:nA W z f v l bo)(hb:∀B,bo=some B->lo<=B):EL lo W z f v l:=by
 rcases h with⟨rfl,rfl,-⟩|⟨h0,B,e1,e2,e3,e4⟩
 ·exact EL.nil _ _ _ _
 ·exact .inr ⟨h0,B,_,hb B e1,e2,e3,.inl rfl,e4⟩
end
section
variable {W V U:AW} {v:cA} {sv ev cv:ae} {s:RS} {l:List de} {k:Int} {x:de} {bo:Option Nat}
def K2(hG:GW W)(h:KK W v sv ev l)(k:Int):∃(a e:Int) (u:ae) (W':AW),qW v l a e/\bm (.func (.func 13) #[] #[]) [pz v sv ev,.af k] W=some (.tuple #[u,.af (pS v e k)],W')/\Le W W'/\EL W.next W' 3 Mf u (if pS v e k=0 then IM k l else []):=by
 obtain⟨V,bx,a8,nV,g0⟩:=qq v sv ev W;have hV:=h.mono a8;obtain⟨a,e,hA,q1⟩:=tv (hG.mono a8) hV;suffices hs:∃(u:ae) (W':AW),bm (.func (.func 13) #[] #[]) [pz v sv ev,.af k] W=some (.tuple #[u,.af (pS v e k)],W')/\Le W W'/\EL W.next W' 3 Mf u (if pS v e k=0 then IM k l else [])by obtain⟨u,W',h1⟩:=hs;exact⟨a,e,u,W',hA,h1⟩
 refine ab9 ?_ Ed;unfold AL pS;have cB:=ee g0;have c0:aK (cr W.next) V=some (.af v.sh,V):=eQ g0 rfl;have c3:aK (.pointer (some ⟨W.next,3,none⟩)) V=some (sv,V):=eQ g0 rfl;have c4:aK (.pointer (some ⟨W.next,4,none⟩)) V=some (ev,V):=eQ g0 rfl;by_cases he:e=0;case neg=>have d:=bq he;simp only[SX,bx,cB,q1,d,ay he,am];exact⟨_,rfl,a8,EL.nil _ _ _ _⟩
 subst he;have d:decide ((0:Int)=0)=true:=rfl;obtain⟨-,SF,hl,s,eE⟩:=hA.E9;have IK:=gA SF;have hsm:=h.small;have ls:∀W',aB Tryz.prog .len #[22] 3 #[false] [sv] W'=some (.af (v.az.length:Int),W'):=λW'=>Row.len hV.az.1 Is W' 3 #[false]
 have ad:∀W',aw Tryz.prog .add 3 false false (.af v.sh) (.af (v.az.length:Int)) W'=some (.af (v.sh+v.az.length),W'):=λW'=>da (by omega) (by omega)
 have Ic:∀W',aB Tryz.prog .len #[25] 3 #[false] [ev] W'=some (.af (l.length:Int),W'):=λW'=>Row.len hV.GD qK W' 3 #[false]
 by_cases c1:k<0
 ·have d1:=aS c1;simp only[SX,bx,cB,q1,d1,bh,ax (.inl c1:k<0\/v.sh+v.az.length<=k),am];exact⟨_,rfl,a8,EL.nil _ _ _ _⟩
 have d1:=bq c1;by_cases c2:v.sh+v.az.length<=k
 ·have d2:=aS c2;simp only[SX,bx,cB,q1,d1,aI,c0,c3,ls,ad,d2,bh,ax (.inr c2:k<0\/v.sh+v.az.length<=k),am];exact⟨_,rfl,a8,EL.nil _ _ _ _⟩
 have d2:=bq c2;simp only[SX,bx,cB,q1,d1,aI,c0,c3,c4,ls,ad,d2,Ic,bh,ay (by omega:¬(k<0\/v.sh+v.az.length<=k))];refine bY l.length (by omega) (λi R U=>R 1=.af k/\R 34=ev/\R 35=.af (l.length:Int)/\R 36=.af (i:Int)/\∃cv,R 8=cv/\H0 V U k l i cv)
  (λr=>r.1=.exit 0/\∃cv,r.2.1 8=cv/\H0 V r.2.2 k l l.length cv) ⟨rfl,rfl,rfl,rfl,_,rfl,.refl _,none,.inl ⟨rfl,rfl,rfl⟩,λB hB=>by cases hB⟩ ?_ ?_ ?_
 ·rintro i R U hi ⟨r1,dv,dT,dU,cv,r8,hI⟩;unfold ox;have t1:decide ((i:Int)<(l.length:Int))=true:=jr;have t2:=λW'=>cQ W' i 1
  have e3:((i+1:Nat):Int)=(i:Int)+1:=by omega
  obtain⟨p,p1,p2⟩:=hV.GD.get hi;have hx:l[i]? =some l[i]:=cL hi;have Ly:∃s,fQ v l i s/\sd v s l[i]=0:=by obtain⟨s1,h1⟩:=eE.pre (i+1) (by omega);obtain⟨s0,y,h2,h3,h4,-⟩:=h1.prev;rw[hx]at h3;injection h3 with h3;subst h3;exact⟨s0,h2,h4⟩
  have Ii:=p2 U hI.le;generalize l[i]=x at Ii hx Ly;obtain⟨U1,b0,b1,b2,b3,hb⟩:=Mg x U;have lx:=pa hb;have ll:=qy hb;have li:=fw hb;have lt:=sx hb;have hI1:=hI.mono b3;by_cases h2:x.k=2
  ·have e2:=aS h2;by_cases h3:x.lk=k
   ·have e4:=aS h3;obtain⟨lN,U2,a1,a2,-⟩:=hI1.tak (by omega) hx h2 h3;simp only[SX,r1,dv,dT,dU,r8,t1,p1,Ii,b1,b2,aI,lx,ll,li,lt,e2,e4,ahS,ahh,a1,t2,am];exact .inl ⟨aA,r1,dv,dT,by rw[e3];rfl,_,rfl,a2⟩
   ·have e4:=bq h3;have e5:decide (x.k=4)=false:=dS;simp only[SX,r1,dv,dT,dU,r8,t1,p1,Ii,b1,b2,aI,lx,ll,li,lt,e2,e4,e5,t2,am];exact .inl ⟨aA,r1,dv,dT,by rw[e3];rfl,_,r8,hI.skip hx (λe=>h3 e.2) (λe=>h3 e.2) b3⟩
  have e2:=bq h2;by_cases h4:x.k=4
  ·have e5:=aS h4;by_cases h3:x.lk=k
   ·have e4:=aS h3;obtain⟨s0,g1,g2⟩:=Ly;obtain⟨m,y,g3⟩:=g1.Vq g2 h4;rw[h3]at g3;obtain⟨B,U2,a1,a2,a3,a4⟩:=hI1.giv hx h4 h3 g3;have hml:m.length<2001:=by have:=Hv (l.take i) k;rw[g3,dF]at this;simp at this;omega
    have sb:∀W',aw Tryz.prog .sub 3 false true (.af ((m.length:Int)+1)) (.af 1) W'=some (.af (m.length:Int),W'):=λW'=>by rw[mC (by omega) (by omega),show(m.length:Int)+1-1=(m.length:Int)by omega]
    simp only[SX,r1,dv,dT,dU,r8,t1,p1,Ii,b1,b2,aI,lx,ll,li,lt,e2,e4,e5,a1,sb,a2,a3,t2,am];exact .inl ⟨aA,r1,dv,dT,by rw[e3];rfl,_,r8,a4⟩
   ·have e4:=bq h3;simp only[SX,r1,dv,dT,dU,r8,t1,p1,Ii,b1,b2,aI,lx,ll,li,lt,e2,e4,e5,t2,am];exact .inl ⟨aA,r1,dv,dT,by rw[e3];rfl,_,r8,hI.skip hx (λe=>h3 e.2) (λe=>h3 e.2) b3⟩
  have e5:=bq h4;simp only[SX,dv,dT,dU,r8,t1,p1,Ii,b1,b2,aI,lx,li,lt,e2,e5,t2,am];exact .inl ⟨aA,r1,dv,dT,by rw[e3];rfl,_,r8,hI.skip hx (λe=>h2 e.1) (λe=>h4 e.1) b3⟩
 ·rintro R U ⟨r1,dv,dT,dU,cv,r8,hI⟩;unfold ox;have t1:decide ((l.length:Int)<(l.length:Int))=false:=dS;simp only[SX,dT,dU,t1,am];exact⟨by simp,aA,cv,r8,hI⟩
 ·rintro⟨q,R,U⟩ ⟨rfl,cv,r8,hI⟩;obtain⟨bo,h3,h4⟩:=hI.c;have r8':R 8=cv:=r8;simp only[SX,r8',am];refine⟨_,rfl,a8.trans hI.le,?_⟩;rw[dd]at h3;exact adJ h3 λB hB=>by have:=h4 B hB;omega
def Ln(hG:GW W)(h:KK W v sv ev l)(k:Int):∃(a e:Int) (u:ae) (W':AW),qW v l a e/\bm (.func (.func 13) #[] #[]) [pz v sv ev,.af k] W=some (.tuple #[u,.af (pS v e k)],W')/\Le W W'/\SpR W' u (if pS v e k=0 then IM k l else []):=
 let⟨a,e,u,W',h1,h2,h3,h4⟩:=K2 hG h k
 ⟨a,e,u,W',h1,h2,h3,h4.row pO (jT pO)⟩
end
section
variable {W V U:AW} {v:cA} {sv ev cv:ae} {s:RS} {l:List de} {k:Int} {x:de} {bo:Option Nat}
def adV(h:KK W v sv ev l):Eng.one sv=true/\Eng.one ev=true:=⟨row_one h.az.1,row_one h.GD⟩
def Ej{K:LT->Option (ae×AW)}{Q:ae×AW->Prop}{R0:Nat->ae}{b:Nat}(hr:Hg V ev l)(eE:fQ v l l.length s)(hl:l.length<=2000)(g:V.get b=some (.cells (qT v sv ev)))(hb:b<V.next)
 (r1:R0 1=.af k)(r2:R0 2=cr b)(r9:R0 9=.slice none 0 0)(bw:R0 10=.af 0)
 (hK:∀R U cv,R 9=cv->H0 V U k l l.length cv->Ok (K (.exit 0,R,U)) Q):Ok (ah (cW (mg bm) R0 V) K) Q:=by
 have Ic:∀W',aB Tryz.prog .len #[25] 3 #[false] [ev] W'=some (.af (l.length:Int),W'):=λW'=>Row.len hr qK W' 3 #[false]
 refine bY l.length (by omega) (λi R U=>R 1=.af k/\R 2=cr b/\R 10=.af (i:Int)/\∃cv,R 9=cv/\H0 V U k l i cv)
  (λr=>r.1=.exit 0/\∃cv,r.2.1 9=cv/\H0 V r.2.2 k l l.length cv) ⟨r1,r2,bw,_,r9,.refl _,none,.inl ⟨rfl,rfl,rfl⟩,λB hB=>by cases hB⟩ ?_ ?_ ?_
 ·rintro i R U hi ⟨r1,r2,bw,cv,r9,hI⟩;unfold mg;have t1:decide ((i:Int)<(l.length:Int))=true:=jr;have t2:=λW'=>cQ W' i 1
  have e3:((i+1:Nat):Int)=(i:Int)+1:=by omega
  have c4:aK (.pointer (some ⟨b,4,none⟩)) U=some (ev,U):=eQ ((hI.le.get _ hb).trans g) rfl;obtain⟨p,p1,p2⟩:=hr.get hi;have hx:l[i]? =some l[i]:=cL hi;have Ly:∃s,fQ v l i s/\sd v s l[i]=0:=by obtain⟨s1,h1⟩:=eE.pre (i+1) (by omega);obtain⟨s0,y,h2,h3,h4,-⟩:=h1.prev;rw[hx]at h3;injection h3 with h3;subst h3;exact⟨s0,h2,h4⟩
  have Ii:=p2 U hI.le;generalize l[i]=x at Ii hx Ly;obtain⟨U1,b0,b1,b2,b3,hb⟩:=Mg x U;have lx:=pa hb;have ll:=qy hb;have li:=fw hb;have lt:=sx hb;have hI1:=hI.mono b3;by_cases h2:x.k=2
  ·have e2:=aS h2;have e5:decide (x.k=4)=false:=dS;by_cases h3:x.lk=k
   ·have e4:=aS h3;obtain⟨lN,U2,a1,a2,a3⟩:=hI1.tak (by omega) hx h2 h3;have iW:=(a3 U.next (by omega) λn c e=>Nat.lt_irrefl _ (hI.lt e)).trans hb;have lx2:=pa iW;simp only[SX,r1,r2,bw,r9,aI,c4,Ic,t1,p1,Ii,b1,b2,lx,ll,li,lt,e2,e4,ahS,ahh,a1];unfold gN;simp only[SX,aI,lx2,e5,t2,am];exact .inl ⟨aA,r1,r2,by rw[e3];rfl,_,rfl,a2⟩
   ·have e4:=bq h3;simp only[SX,r1,r2,bw,r9,aI,c4,Ic,t1,p1,Ii,b1,b2,lx,ll,e2,e4];unfold gN;simp only[SX,aI,lx,e5,t2,am];exact .inl ⟨aA,r1,r2,by rw[e3];rfl,_,r9,hI.skip hx (λe=>h3 e.2) (λe=>h3 e.2) b3⟩
  have e2:=bq h2;simp only[SX,r1,r2,bw,r9,aI,c4,Ic,t1,p1,Ii,b1,b2,lx,e2];unfold gN;by_cases h4:x.k=4
  ·have e5:=aS h4;by_cases h3:x.lk=k
   ·have e4:=aS h3;obtain⟨s0,g1,g2⟩:=Ly;obtain⟨m,y,g3⟩:=g1.Vq g2 h4;rw[h3]at g3;obtain⟨B,U2,a1,a2,a3,a4⟩:=hI1.giv hx h4 h3 g3;have hml:m.length<2001:=by have:=Hv (l.take i) k;rw[g3,dF]at this;simp at this;omega
    have sb:∀W',aw Tryz.prog .sub 3 false true (.af ((m.length:Int)+1)) (.af 1) W'=some (.af (m.length:Int),W'):=λW'=>by rw[mC (by omega) (by omega),show(m.length:Int)+1-1=(m.length:Int)by omega]
    simp only[SX,aI,lx,ll,lt,e4,e5,a1,sb,a2,a3,t2,am];exact .inl ⟨aA,r1,r2,by rw[e3];rfl,_,r9,a4⟩
   ·have e4:=bq h3;simp only[SX,aI,lx,ll,e4,e5,t2,am];exact .inl ⟨aA,r1,r2,by rw[e3];rfl,_,r9,hI.skip hx (λe=>h3 e.2) (λe=>h3 e.2) b3⟩
  have e5:=bq h4;simp only[SX,aI,lx,e5,t2,am];exact .inl ⟨aA,r1,r2,by rw[e3];rfl,_,r9,hI.skip hx (λe=>h2 e.1) (λe=>h4 e.1) b3⟩
 ·rintro R U ⟨r1,r2,bw,cv,r9,hI⟩;unfold mg;have c4:aK (.pointer (some ⟨b,4,none⟩)) U=some (ev,U):=eQ ((hI.le.get _ hb).trans g) rfl;have t1:decide ((l.length:Int)<(l.length:Int))=false:=dS;simp only[SX,r2,bw,aI,c4,Ic,t1,am];exact⟨by simp,aA,cv,r9,hI⟩
 ·rintro⟨q,R,U⟩ ⟨rfl,cv,r9,hI⟩;exact hK R U cv r9 hI
def Mn(h:KK W v sv ev l)(k:Int):∃(a e:Int) (u:ae) (W':AW),qW v l a e/\bm (.func (.func 14) #[] #[]) [pz v sv ev,.af k] W=some (.tuple #[u,.af (pS v e k)],W')/\Le W W'/\SpR W' u (if pS v e k=0 then IM k l else []):=by
 obtain⟨V,bx,a8,nV,g0⟩:=qq v sv ev W;have hV:=h.mono a8;obtain⟨val,a,e,W1,q1,q2,hD⟩:=Of hV;have hA:=hD.1;suffices hs:∃(u:ae) (W':AW),bm (.func (.func 14) #[] #[]) [pz v sv ev,.af k] W=some (.tuple #[u,.af (pS v e k)],W')/\Le W W'/\SpR W' u (if pS v e k=0 then IM k l else [])by obtain⟨u,W',h1⟩:=hs;exact⟨a,e,u,W',hA,h1⟩
 refine pZ ?_ Ey;unfold Ck pS;have cB:=ee g0;have a1:=Im W1;obtain⟨o1,o2⟩:=adV h;rcases hD.2 with⟨he,rfl⟩|⟨rfl,s0,cv,lv,eE,rfl,k3,k4,hR⟩
 ·have d:=bq he;have pt:=iY (v:=eZ) (sv:=bc) (ev:=bc) (cv:=bc) (f:=zf) (lv:=bc) (tn:=0) (st:=0) (AW.aT W1 (.cells (eV eZ bc bc bc zf bc 0 0))) dL rfl rfl rfl rfl;simp only[SX,bx,cB,q1,a1,pt,d,wu1,ay he];unfold iv;simp only[SX,d,am];exact⟨_,rfl,(a8.trans q2).trans (((Le.refl _).add _).put (aP _) _),Row.nil⟩
 have d:decide ((0:Int)=0)=true:=rfl;obtain⟨-,SF,hl,s,KN⟩:=hA.E9;have IK:=gA SF;have hsm:=h.small;have pt:=iY (v:=v) (sv:=sv) (ev:=ev) (cv:=cv) (f:=s0.of) (lv:=lv) (tn:=s0.tn) (st:=s0.st) (AW.aT W1 (.cells (eV eZ bc bc bc zf bc 0 0))) dL o1 o2 k3 k4;rw[gt]at pt;obtain⟨V2,pG⟩:∃V2,V2=W1.add (.cells (eV v sv ev cv s0.of lv s0.tn s0.st)):=⟨_,rfl⟩;have l2:Le W1 V2:=by rw[pG];exact(Le.refl _).add _
 have g2:V2.get W1.next=some (.cells (eV v sv ev cv s0.of lv s0.tn s0.st)):=by rw[pG];exact AW.aT _ _
 rw[<-pG]at pt;have clv:=zG g2;have lln:∀W',aB Tryz.prog .len #[64] 3 #[false] [lv] W'=some (.af (v.sh+v.az.length),W'):=λW'=>by rw[Row.len (wM rC hR.l) FL W' 3 #[false],pN,qi,xL (by omega)]
 have hq:=q2.next;have gB:V2.get W.next=some (.cells (qT v sv ev)):=(l2.get _ (by omega)).trans ((q2.get _ (by omega)).trans g0);have Fx:Le W V2:=a8.trans (q2.trans l2);by_cases c1:k<0
 ·have d1:=aS c1;simp only[SX,bx,cB,q1,a1,pt,d1,bh,ax (.inl c1:k<0\/v.sh+v.az.length<=k)];unfold iv;simp only[SX,show decide ((4:Int)=0)=false from rfl,am];exact⟨_,rfl,Fx,Row.nil⟩
 have d1:=bq c1;by_cases c2:v.sh+v.az.length<=k
 ·have d2:=aS c2;simp only[SX,bx,cB,q1,a1,pt,d1,aI,clv,lln,d2,bh,ax (.inr c2:k<0\/v.sh+v.az.length<=k)];unfold iv;simp only[SX,show decide ((4:Int)=0)=false from rfl,am];exact⟨_,rfl,Fx,Row.nil⟩
 have d2:=bq c2;simp only[SX,bx,cB,q1,a1,pt,d1,aI,clv,lln,d2,bh,ay (by omega:¬(k<0\/v.sh+v.az.length<=k))];unfold iv;simp only[SX];refine Ej (V:=V2) (l:=l) (h.GD.mono Fx) KN hl gB (by have:=l2.next;omega) rfl rfl rfl rfl ?_;intro R U lN r9 hI;obtain⟨bo,h3,h4⟩:=hI.c;simp only[SX,r9,am];refine⟨_,rfl,Fx.trans hI.le,?_⟩;have:=h3.YA.el.row pO (jT pO);rw[dd]at this;exact this
def g53:Tryz.prog.eqGuardType Tryz.prog.depth 53=false:=by kernel_rfl
def q53(x y:qA):Ba Tryz.prog 8 53 (spV x) (spV y)=lB [(x.id,y.id),(x.fr,y.fr),(x.to,y.to)]:=by kernel_rfl
def afq(x:qA)(c d:Bool)(W:AW):aw Tryz.prog .neq 53 c d (spV x) (spV x) W=some (.bool false,W):=by refine hX g53 (r:=true) ((q53 ..).trans ?_);simp only[kh,fa,mf,beq_self_eq_true,iM]
def lP{α:Type}{z:Nat}{f:α->List ae}(hf:∀a,(f a).length=z){u:ae}{m:List α}(h:Row W z (jD z f) u m){i:Nat}(hi:i<m.length):∃b o,(∀W' k,gn z u (.int k (i:Int)) W'=some (.pointer (some ⟨b,o,none⟩),W'))/\(∀W',Le W W'->bA z (.pointer (some ⟨b,o,none⟩)) W'=some (.agg (f m[i]).toArray,W'))/\∀j x,(f m[i])[j]? =some x->∀W',Le W W'->aK (.pointer (some ⟨b,o+j,none⟩)) W'=some (x,W'):=by
 obtain⟨b,o,cs,h1,h2,h3,h4⟩:=h.elem hi;have e0:(cs.drop o).take z=f m[i]:=h4;refine⟨b,o,h1,λW' a8=>?_,λj x hx W' a8=>?_⟩
 ·have:=eh (n:=z) (o:=o) (W:=W') (by rw[a8.aL h2];exact h3) (by rw[e0,hf]);rw[e0]at this;exact this
 ·have hj:j<z:=by rw[<-hf m[i]];exact(du.1 hx).1
  exact df (by rw[a8.aL h2];exact h3) (by rw[oC h4 hj];exact hx)
def Uy{a b:ae}{m:List qA}(ha:SpR W a m)(hb:SpR W b m)(hm:m.length<=2000):bm (.func (.func 15) #[] #[]) [a,b] W=some (.bool true,W):=by
 refine bT rfl ?_ CO;unfold Aj;have la:∀W',aB Tryz.prog .len #[49] 3 #[false] [a] W'=some (.af (m.length:Int),W'):=λW'=>Row.len ha Tl W' 3 #[false]
 have lb:∀W',aB Tryz.prog .len #[49] 3 #[false] [b] W'=some (.af (m.length:Int),W'):=λW'=>Row.len hb Tl W' 3 #[false]
 have eqi:∀z:Int,decide (z=z)=true:=λz=>aS rfl
 simp only[SX,la,lb];refine bY m.length (by omega) (λi R W'=>W'=W/\R 0=a/\R 1=b/\R 5=.af (i:Int)) (λr=>r.2.2=W/\r.1=.exit 0) ⟨rfl,rfl,rfl,rfl⟩ ?_ ?_ ?_
 ·rintro i R W' hi ⟨rfl,r0,r1,r5⟩;unfold oE;have t1:decide ((i:Int)<(m.length:Int))=true:=jr;have t2:=λW'=>cQ W' i 1
  have e3:((i+1:Nat):Int)=(i:Int)+1:=by omega
  obtain⟨b1,o1,p1,p2,-⟩:=lP pO ha hi;obtain⟨b2,o2,p3,p4,-⟩:=lP pO hb hi;simp only[SX,r0,r1,r5,la,t1,p1,p2 _ (.refl _),p3,p4 _ (.refl _),afq,t2,am];exact .inl ⟨aA,aA,r0,r1,by rw[e3];rfl⟩
 ·rintro R W' ⟨rfl,r0,r1,r5⟩;unfold oE;have t1:decide ((m.length:Int)<(m.length:Int))=false:=dS;simp only[SX,r0,r5,la,t1,am];exact⟨by simp,aA,aA⟩
 ·rintro⟨x,R,W'⟩ ⟨rfl,rfl⟩;simp only[SX,am];exact⟨aA,.refl _⟩
end
section
variable {α:Type} {z:Nat} {f:α->List ae} {W W' U U':AW} {v:ae} {l:List α} {lo q:Nat}
def Jr{cs:List ae}{o:Nat}(h:∀i (hi:i<l.length),jD z f cs (o+i*z) l[i]):∀n,n<=l.length->(cs.drop o).take (n*z)=(l.take n).flatMap f
 |0,_=>by simp
 |n+1,hn=>by
  have ih:=Jr h n (by omega);have hx:((cs.drop o).drop (n*z)).take z=f l[n]:=by rw[nL];exact h n (by omega)
  rw[Nat.succ_mul,List.take_add,ih,hx,sq,cL (by omega),sP,ge];simp
def SG(h:Row W z (jD z f) v l):Rd W z f v l:=by
 obtain⟨a,c,rfl,h⟩:=h;refine⟨a,c,rfl,?_⟩;rcases h with h|⟨b,o,cs,h1,h2,h3,h4⟩
 ·exact .inl h
 ·exact .inr ⟨b,o,cs,h1,h2,h3,by have:=Jr h4 l.length (aP _);rwa [dd]at this⟩
def sE(h:EL lo W z f v l):Eng.one v=true:=by rcases h with⟨rfl,rfl|⟨B,rfl⟩⟩|⟨h0,B,c,i1,i2,rfl,hc,i4⟩<;>rfl
def Ky(h:EL lo W z f v l)(hq:q<lo):av q v:=by
 intro a k m e hk;rcases h with⟨rfl,rfl|⟨B,rfl⟩⟩|⟨h0,B,c,i1,i2,rfl,hc,i4⟩
 ·cases e
 ·injection e with e1 e2;exact absurd e2.symm hk
 ·injection e with e1 e2;injection e1 with e1;subst e1;show B≠q;omega
def Dh{at_:List ae->Nat->α->Prop}(h:Row W z at_ v l)(hq:W.next<=q):av q v:=by
 obtain⟨a,m,rfl,h⟩:=h;intro a' k m' e hk;injection e with e1 e2 e3;rcases h with h|⟨b,o,cs,rfl,h2,-⟩
 ·rw[h]at e2;exact absurd e2.symm hk
 ·injection e1 with e1;rw[<-e1];show b≠q;omega
def sw{ts:Array ai}{bytes:Nat}(hk:iR Tryz.prog ts z bytes=true)(hf:∀a,(f a).length=z)(h1:∀a,(f a).all Eng.one=true)(h:Rd W z f v l)(hl:l.length<=10000)(hb:bytes<=1000):
 ∃u W',aN Tryz.prog (W.add (.cells [])) ts (.slice (some ⟨W.next,0,none⟩) 0 0) v=some (u,W')/\Le W W'/\EL W.next W' z f u l:=by
 have hE:EL W.next (W.add (.cells [])) z f (.slice (some ⟨W.next,0,none⟩) 0 0) []:=EL.Uc _ _ _ _ _;have hm:(2*l.length+192)*bytes<=(2*10000+192)*1000:=Nat.mul_le_mul (by omega) hb;obtain⟨u,W',k1,k2,k3,k4⟩:=hE.app hk hf h1 (h.dq ((Le.refl W).add (.cells []))) (by simp;omega) (by rw[oG,aI];omega) (by rw[AW.aG];omega);rw[kg]at k2;exact⟨u,W',k1,⟨by rw[AW.aG]at k3;omega,λb hb=>(k4 b hb).trans (AW.br _ _ (by omega))⟩,k2⟩
def TF{o t:Option (ae×AW)}(h:Ok t λr=>Le W r.2/\EL W.next r.2 z f r.1 l)(Li:∀{r},t=some r->o=some (gc W r)):∃v W',o=some (v,W')/\Le W W'/\EL W.next W' z f v l:=
 let⟨v,W',h1,h2,h3⟩:=qN (Q:=λv W'=>Le W W'/\EL W.next W' z f v l) h Li λv W' ⟨a,b⟩ a8 hp=>⟨.refl _,uy b hp⟩
 ⟨v,W',h1,h2,h3⟩
def nG{at_:List ae->Nat->α->Prop}(h:Row U z at_ v l)(ha:av q v)(hn:U.next<=U'.next)(hg:∀d,d<U.next->d≠q->U'.get d=U.get d):Row U' z at_ v l:=by
 obtain⟨a,m,rfl,h⟩:=h;refine⟨a,m,rfl,?_⟩;rcases h with h|⟨b,o,cs,rfl,h2,h3,h4⟩
 ·exact .inl h
 by_cases e0:l=[]
 ·exact .inl e0
 have hb:b≠q:=ha _ _ _ rfl (λe=>e0 (jR.1 e));refine .inr ⟨b,o,cs,rfl,by omega,?_,h4⟩;unfold aL at h3|-;rw[hg b h2 hb];exact h3
end
def u64:Tryz.prog.underlying 64=some (.slice 3):=by kernel_rfl
def u22:Tryz.prog.underlying 22=some (.slice 66):=by kernel_rfl
def u25:Tryz.prog.underlying 25=some (.slice 98):=by kernel_rfl
section
variable {t e:ai}
def Wj(ht:Tryz.prog.underlying t=some (.slice e))(c d:Bool)(l k:Nat)(W:AW):aw Tryz.prog .eql t c d (.slice none l k) (.slice none 0 0) W=some (.bool true,W):=by unfold aw ot lm;simp only[ht];rfl
def Ll(ht:Tryz.prog.underlying t=some (.slice e))(c d:Bool)(a:Addr)(l k:Nat)(W:AW):aw Tryz.prog .eql t c d (.slice (some a) l k) (.slice none 0 0) W=some (.bool false,W):=by unfold aw ot lm;simp only[ht]
end
structure s7 where
 nm:List UInt8
 ad:Option Addr
 cp:Nat
 rows:List Int
 q:Int
abbrev s7.rv(x:s7):ae:=.slice x.ad x.rows.length x.cp
abbrev rG(x:s7):List ae:=[.string (aM x.nm),x.rv,.af x.q]
def s7.sec(x:s7):jy:=⟨x.nm,x.rows,x.q⟩
def mi(x:s7):(rG x).length=3:=rfl
def Ot(x:s7):(rG x).all Eng.one=true:=rfl
def Lh(W:AW)(x:s7):Prop:=kr W x.rv x.rows/\tr x.rv x.rv=true
def Lh.mono{W W':AW}{x:s7}(h:Lh W x)(a8:Le W W'):Lh W' x:=⟨h.1.mono a8,h.2⟩
def OJ{W:AW}{sv:ae}{l:List jy}(h:eY W sv l):∃M:List s7,M.map s7.sec=l/\Rd W 3 rG sv M/\∀x∈M,Lh W x:=by
 obtain⟨a,c,rfl,h⟩:=h;rcases h with rfl|⟨b,o,cs,h1,h2,h3,h4⟩
 ·exact⟨[],rfl,⟨a,c,rfl,.inl rfl⟩,λx hx=>by cases hx⟩
 have key:∀n,n<=l.length->∃M:List s7,M.map s7.sec=l.take n/\(cs.drop o).take (n*3)=M.flatMap rG/\∀x∈M,Lh W x:=by
  intro n;induction n with
  |zero=>intro _;exact⟨[],by simp,by simp,λx hx=>by cases hx⟩
  |succ n ih=>
   intro hn;obtain⟨M,m1,m2,m3⟩:=ih (by omega);obtain⟨s1,s2,rv,s3,s4,s5,s6⟩:=h4 n (by omega);obtain⟨ra,rc,rfl,-⟩:=id s4;refine⟨M++[⟨l[n].name,ra,rc,l[n].rows,l[n].q⟩],?_,?_,λx hx=>?_⟩
   ·rw[mU,m1,sq,cL (by omega),sP];rfl
   ·have hx:((cs.drop o).drop (n*3)).take 3=rG ⟨l[n].name,ra,rc,l[n].rows,l[n].q⟩:=by rw[nL];exact Oq s1 s3 s2
    rw[Nat.succ_mul,List.take_add,m2,hx,ge];simp
   ·rcases oU.1 hx with hx|hx
    ·exact m3 x hx
    ·rw[m9]at hx;subst hx;exact⟨s4,s5⟩
 obtain⟨M,m1,m2,m3⟩:=key l.length (aP _);rw[dd]at m1;have hl:M.length=l.length:=by rw[<-m1,gR]
 exact⟨M,m1,⟨a,c,by rw[hl],.inr ⟨b,o,cs,h1,h2,h3,by rw[hl];exact m2⟩⟩,m3⟩
def Gi{W:AW}{sv:ae}{M:List s7}(h:Rd W 3 rG sv M)(hg:∀x∈M,Lh W x):eY W sv (M.map s7.sec):=by
 obtain⟨a,c,e,h⟩:=wM mi h;refine⟨a,c,by rw[e,gR],?_⟩;rcases h with rfl|⟨b,o,cs,h1,h2,h3,h4⟩
 ·exact .inl rfl
 refine .inr ⟨b,o,cs,h1,h2,h3,λi hi=>?_⟩;rw[gR]at hi;have k:=h4 i hi;obtain⟨g1,g2⟩:=hg _ (fb hi);rw[List.getElem_map];exact⟨oC k (j:=0) (by omega),oC k (j:=2) (by omega),_,oC k (j:=1) (by omega),g1,g2,rfl⟩
def adT(W:AW):aD Tryz.prog 22 0 [] W=some (.slice (some ⟨W.next,0,none⟩) 0 0,W.add (.cells [])):=aJ (by kernel_rfl) rfl
def WE(W:AW):aD Tryz.prog 25 0 [] W=some (.slice (some ⟨W.next,0,none⟩) 0 0,W.add (.cells [])):=aJ (by kernel_rfl) rfl
def ahd:iR Tryz.prog #[22,22] 3 48=true:=by kernel_rfl
def aja:iR Tryz.prog #[25,25] 31 232=true:=by kernel_rfl
def NN{W:AW}{v:ae}{l:List Int}(h:kr W v l):Rd W 1 jE v l:=by
 refine SG ?_;refine Row.imp h (.refl _) λcs p a hx=>?_
 obtain⟨h1,h2⟩:=du.1 hx;unfold jD;rw[rT h1,h2];rfl
def OV{lo:Nat}{W:AW}{v:ae}{l:List Int}(h:EL lo W 1 jE v l):kr W v l:=h.row nO λa pre post=>by unfold xv;rw[gb (aP _),pT];rfl
def HS{W:AW}{v:ae}{l:List Int}(h:kr W v l)(hl:l.length<=10000):∃u W',bm (.func (.func 40) #[] #[]) [v] W=some (u,W')/\Le W W'/\EL W.next W' 1 jE u l:=by
 refine TF ?_ tq;unfold oD;have hr:=NN h;obtain⟨a,c,rfl,hv⟩:=id h;cases a with
 |none=>
  have h0:l=[]:=by
   rcases hv with hv|⟨b,o,cs,e,-⟩
   ·exact hv
   ·cases e
  subst h0;simp only[SX,Wj u64,am];exact⟨.refl _,EL.nil _ _ _ _⟩
 |some a=>obtain⟨u,W',k1,k2,k3⟩:=sw EK nO Aa hr hl (by omega);simp only[SX,Ll u64,LX,k1,am];exact⟨k2,k3⟩
def Hm{W:AW}{v:ae}{M:List s7}(h:Rd W 3 rG v M)(hl:M.length<=10000):∃u W',bm (.func (.func 39) #[] #[]) [v] W=some (u,W')/\Le W W'/\EL W.next W' 3 rG u M:=by
 refine TF ?_ ik;unfold eU;obtain⟨a,c,rfl,hv⟩:=id h;cases a with
 |none=>
  have h0:M=[]:=by
   rcases hv with hv|⟨b,o,cs,e,-⟩
   ·exact hv
   ·cases e
  subst h0;simp only[SX,Wj u22,am];exact⟨.refl _,EL.nil _ _ _ _⟩
 |some a=>obtain⟨u,W',k1,k2,k3⟩:=sw ahd mi Ot h hl (by omega);simp only[SX,Ll u22,adT,k1,am];exact⟨k2,k3⟩
def I4{W:AW}{v:ae}{l:List de}(h:Rd W 31 fe v l)(hl:l.length<=10000):∃u W',bm (.func (.func 27) #[] #[]) [v] W=some (u,W')/\Le W W'/\EL W.next W' 31 fe u l:=by
 refine TF ?_ i8;unfold fI;obtain⟨a,c,rfl,hv⟩:=id h;cases a with
 |none=>
  have h0:l=[]:=by
   rcases hv with hv|⟨b,o,cs,e,-⟩
   ·exact hv
   ·cases e
  subst h0;simp only[SX,Wj u25,am];exact⟨.refl _,EL.nil _ _ _ _⟩
 |some a=>obtain⟨u,W',k1,k2,k3⟩:=sw aja nM Ow h hl (by omega);simp only[SX,Ll u25,WE,k1,am];exact⟨k2,k3⟩
abbrev qB(v:cA)(sv:ae):List ae:=[.af v.sh,.af v.pq,.af v.pp,sv]
def agt(W:AW):aY Tryz.prog 24 W=some (cr W.next,W.add (.cells (qB eZ bc))):=aJ (by kernel_rfl) rfl
def aiS(x:ae)(W:AW):iV Tryz.prog 24 x W=bA 4 x W:=by kernel_rfl
def UA{W:AW}{b:Nat}{v v0:cA}{sv s0:ae}(h:W.get b=some (.cells (qB v0 s0)))(h1:Eng.one sv=true):bP 4 (cr b) (fc v sv) W=some (ag,W.put b (.cells (qB v sv))):=
 ov h rfl rfl (by simp[h1,kA])
def BY{W:AW}{b:Nat}{v:cA}{sv:ae}(h:W.get b=some (.cells (qB v sv))):bA 4 (cr b) W=some (fc v sv,W):=eh (bk h) rfl
def zZ{W:AW}{b:Nat}{v:cA}{sv:ae}(h:W.get b=some (.cells (qB v sv))):aK (.pointer (some ⟨b,3,none⟩)) W=some (sv,W):=eQ h rfl
def GL{W:AW}{b:Nat}{v:cA}{sv u:ae}(h:W.get b=some (.cells (qB v sv)))(h1:u.cells=#[u])(h2:Eng.one u=true):bP 1 (.pointer (some ⟨b,3,none⟩)) u W=some (ag,W.put b (.cells (qB v u))):=by rw[gx h1 h2,Bp h];rfl
def VnQ(W W':AW)(v:cA)(q:ae):Prop:=∃u M,q=fc v u/\Le W W'/\EL W.next W' 3 rG u M/\M.map s7.sec=v.az/\∀x∈M,Lh W' x/\∀b,b<W.next->av b x.rv
def F3{W W':AW}{v:cA}{q:ae}(h:VnQ W W' v q)(hp:bC q=true):VnQ W W v q:=by
 obtain⟨u,M,rfl,h1,h2,h3,h4⟩:=h;have hu:bC u=true:=by simp[bC,eI]at hp;rcases h2 with⟨rfl,rfl|⟨B,rfl⟩⟩|⟨h0,B,c,i1,i2,rfl,hc,i4⟩<;>simp_all[bC,eI,cG]
 have hM:M=[]:=by
  rcases h2 with⟨rfl,-⟩|⟨h0,B,c,i1,i2,rfl,hc,i4⟩
  ·rfl
  ·simp[bC,eI,cG]at hu
 subst hM;exact⟨u,[],rfl,.refl _,uy h2 hu,h3,λx hx=>by cases hx⟩
def JJ{M:List s7}{i:Nat}(hi:i<M.length){y:s7}(hy:y.sec=M[i].sec):(M.set i y).map s7.sec=M.map s7.sec:=by
 rw[List.map_set,hy];refine List.ext_getElem (by simp) λn h1 h2=>?_
 rw[List.getElem_set];split
 ·rename_i e;subst e;rw[List.getElem_map]
 ·rfl
def K5{M:List s7}{i:Nat}(hi:i<M.length)(y:s7):(M.set i y).flatMap rG=(M.take i).flatMap rG++(rG y++(M.drop (i+1)).flatMap rG):=by rw[He,ax hi,ge,iD]
def Fk{M:List s7}{i:Nat}(hi:i<M.length):M.flatMap rG=(M.take i).flatMap rG++(rG M[i]++(M.drop (i+1)).flatMap rG):=by have h:=K5 hi M[i];rwa [List.set_getElem_self]at h
def ac9{M:List s7}{i:Nat}(hi:i<=M.length):((M.take i).flatMap rG).length=i*3:=by rw[ch mi,dF,o8 hi]
def I3{W:AW}{v:cA}{sv:ae}(h:eY W sv v.az)(hs:v.az.length<1000)(hr:∀s∈v.az,s.rows.length<1000):∃q W',bm (.func (.func 26) #[] #[]) [fc v sv] W=some (q,W')/\VnQ W W' v q:=by
 refine qN (Q:=λq W'=>VnQ W W' v q) ?_ BA λq W' hq a8 hp=>F3 hq hp
 unfold yd;obtain⟨V,hV⟩:∃V,V=(W.add (.cells (qB v sv))).add (.cells (qB eZ bc)):=⟨_,rfl⟩;have a8:Le W V:=by rw[hV];exact((Le.refl _).add _).add _
 have nV:V.next=W.next+2:=by rw[hV,AW.aG,AW.aG]
 have bx:cD (fc v sv) W=some (cr W.next,W.add (.cells (qB v sv))):=gD _;have al:=agt (W.add (.cells (qB v sv)));rw[AW.aG,<-hV]at al;have g0:V.get W.next=some (.cells (qB v sv)):=by rw[hV,AW.br _ _ (by rw[AW.aG];omega)];exact AW.aT _ _
 have g1:V.get (W.next+1)=some (.cells (qB eZ bc)):=by have:=AW.aT (W.add (.cells (qB v sv))) (.cells (qB eZ bc));rw[AW.aG,<-hV]at this;exact this
 obtain⟨M0,m1,m2,m3⟩:=OJ h;have Ie:M0.length=v.az.length:=by rw[<-m1,gR]
 obtain⟨u,V1,c1,c2,c3⟩:=Hm (m2.dq a8) (by omega);have n1:=c2.next;have x0:=(c2.get W.next (by omega)).trans g0;have x1:=(c2.get (W.next+1) (by omega)).trans g1;obtain⟨ua,uc,eu⟩:=c3.slice;have pu:=GL (u:=u) x0 (by rw[eu];rfl) (sE c3);obtain⟨V2,pG⟩:∃V2,V2=V1.put W.next (.cells (qB v u)):=⟨_,rfl⟩;rw[<-pG]at pu;have n2:V2.next=V1.next:=by rw[pG];rfl
 have y0:V2.get W.next=some (.cells (qB v u)):=by rw[pG];exact AW.bz _ _ _
 have y1:V2.get (W.next+1)=some (.cells (qB eZ bc)):=by rw[pG];exact(AW.aE _ _ (by omega)).trans x1
 have l2:Le W V2:=by rw[pG];exact(a8.trans c2).put (aP _) _
 have c3':EL (W.next+2) V2 3 rG u M0:=(c3.dq (W':=V2) (by omega) λb hb _=>by rw[pG];exact AW.aE _ _ (by omega)).low (by omega);have ann:∀{M:List s7} {U:AW},EL (W.next+2) U 3 rG u M->∀B n c,u=.slice (some ⟨B,0,none⟩) n c->n≠0->W.next<=B:=λ{M U} hE B n c e hn=>by
  rcases hE with⟨-,rfl|⟨B',rfl⟩⟩|⟨h0,B',c',i1,i2,rfl,hc,i4⟩
  ·cases e
  ·injection e with e1 e2;exact absurd e2.symm hn
  ·injection e with e1 e2;injection e1 with e1;injection e1 with e1;omega
 have lnu:∀W',aB Tryz.prog .len #[22] 3 #[false] [u] W'=some (.af (v.az.length:Int),W'):=λW'=>by have:=Row.len (Gi (c3'.rd mi) (λx hx=>(m3 x hx).mono l2)) xn W' 3 #[false];rw[gR,Ie]at this;exact this
 have vsu:fK u u=true:=by
  rcases c3 with⟨-,rfl|⟨B',rfl⟩⟩|⟨h0,B',c',i1,i2,rfl,hc,i4⟩
  ·exact wG _ _
  ·exact mH _ _ _ _
  ·exact mH _ _ _ _
 simp only[SX,bx,al,aI,zZ g0,c1,pu,zZ y0,lnu]
 refine bY v.az.length (by omega) (λi R U=>R 1=cr W.next/\R 2=cr (W.next+1)/\R 10=.af (v.az.length:Int)/\R 11=.af (i:Int)/\Le W U/\W.next+2<=U.next/\U.get W.next=some (.cells (qB v u))/\U.get (W.next+1)=some (.cells (qB eZ bc))/\
  ∃M,EL (W.next+2) U 3 rG u M/\M.map s7.sec=v.az/\(∀j x,M[j]? =some x->j<i->∀b,b<W.next->av b x.rv)/\∀x∈M,Lh U x/\av (W.next+1) x.rv/\∀B n c,u=.slice (some ⟨B,0,none⟩) n c->n≠0->av B x.rv)
  (λr=>r.1=.exit 0/\r.2.1 1=cr W.next/\r.2.1 2=cr (W.next+1)/\Le W r.2.2/\W.next+2<=r.2.2.next/\r.2.2.get W.next=some (.cells (qB v u))/\r.2.2.get (W.next+1)=some (.cells (qB eZ bc))/\∃M,EL (W.next+2) r.2.2 3 rG u M/\M.map s7.sec=v.az/\(∀x∈M,∀b,b<W.next->av b x.rv)/\∀x∈M,Lh r.2.2 x/\av (W.next+1) x.rv)
  ⟨rfl,rfl,rfl,rfl,l2,by omega,y0,y1,M0,c3',m1,(λj x _ hj=>absurd hj (Nat.not_lt_zero _)),λx hx=>⟨(m3 x hx).mono l2,Dh (m3 x hx).1 (by omega),λB n c e hn=>Dh (m3 x hx).1 (ann c3' B n c e hn)⟩⟩ ?_ ?_ ?_
 ·rintro i R U hi ⟨r1,r2,bw,bB,hU,nU,z0,z1,M,hE,hM,mT,hx⟩;unfold mW;have t1:decide ((i:Int)<(v.az.length:Int))=true:=jr;have t2:=λW'=>cQ W' i 1
  have e3:((i+1:Nat):Int)=(i:Int)+1:=by omega
  have hlM:M.length=v.az.length:=by rw[<-hM,gR]
  have Xi:i<M.length:=by omega
  have hE0:=hE;rcases hE with⟨e,-⟩|⟨h0,B,cc,i1,i2,eB,hc,i4⟩
  ·rw[e]at Xi;cases Xi
  have ix:∀W' k,gn 3 u (.int k (i:Int)) W'=some (.pointer (some ⟨B,i*3,none⟩),W'):=λW' k=>by rw[eB,sf Xi,aI]
  have hxi:=hx _ (fb Xi);have tg:=ac9 (M:=M) (i:=i) (by omega);have lrv:aK (.pointer (some ⟨B,i*3+1,none⟩)) U=some (M[i].rv,U):=eQ i4 (by
   rw[Fk Xi,gb (by omega),tg,show i*3+1-i*3=1 by omega];rfl);have hrl:M[i].rows.length<1000:=by
   have acF:M[i].sec∈v.az:=by rw[<-hM];exact List.mem_map_of_mem (fb Xi)
   exact hr _ acF
  obtain⟨w,U1,k1,k2,k3⟩:=HS hxi.1.1 (by omega);obtain⟨wa,wc,ew⟩:=k3.slice;have nk:=k2.next;have z0':=(k2.get W.next (by omega)).trans z0;have z1':=(k2.get (W.next+1) (by omega)).trans z1;have j4:=(k2.get B i2).trans i4;obtain⟨y,hy⟩:∃y:s7,y=⟨M[i].nm,wa,wc,M[i].rows,M[i].q⟩:=⟨_,rfl⟩;have ys:y.sec=M[i].sec:=by rw[hy];rfl
  have yr:y.rv=w:=by rw[hy,ew]
  have st:bP 1 (.pointer (some ⟨B,i*3+1,none⟩)) w U1=some (ag,U1.put B (.cells ((M.set i y).flatMap rG))):=by rw[gx (by rw[ew];rfl) (sE k3),Bp j4,bp];rw[ax (by rw[ch mi];omega)];congr 5;rw[Fk Xi,K5 Xi,ya _ _ (by omega),tg,show i*3+1-i*3=1 by omega,hy,ew];rfl
  obtain⟨U2,j7⟩:∃U2,U2=U1.put B (.cells ((M.set i y).flatMap rG)):=⟨_,rfl⟩;rw[<-j7]at st;have n2':U2.next=U1.next:=by rw[j7];rfl
  have o2:∀d,d≠B->U2.get d=U1.get d:=λd hd=>by rw[j7];exact AW.aE _ _ (bL hd)
  simp only[SX,r1,bw,bB,t1,aI,zZ z0,ix,lrv,k1,zZ z0',kE,vsu,iM,st,t2,am];refine .inl ⟨aA,r1,r2,bw,by rw[e3];rfl,⟨by have:=hU.next;omega,λb hb=>(o2 b (by omega)).trans ((k2.get b (by omega)).trans (hU.get b hb))⟩,by omega,(o2 _ (by omega)).trans z0',(o2 _ (by omega)).trans z1',M.set i y,?_,?_,λj x hj hji b hb=>?_,λx DG=>?_⟩
  ·refine .inr ⟨by rw[Ne,List.set_eq_nil_iff];exact h0,B,cc,i1,by omega,by rw[kp];exact eB,by rw[kp];exact hc,by rw[j7];exact AW.bz _ _ _⟩
  ·rw[JJ Xi ys];exact hM
  ·rw[sa]at hj;by_cases e:i=j
   ·subst e;rw[ax rfl,ax Xi]at hj;injection hj with hj;rw[<-hj,yr];exact Ky k3 (by have:=hU.next;omega)
   ·rw[ay e]at hj;exact mT j x hj (by omega) b hb
  ·have new:Lh U2 y/\av (W.next+1) y.rv/\∀B n c,u=.slice (some ⟨B,0,none⟩) n c->n≠0->av B y.rv:=by
    have hav:∀B n c,u=.slice (some ⟨B,0,none⟩) n c->n≠0->av B y.rv:=λB' n c e hn=>by rw[yr];rw[eB]at e;injection e with e1;injection e1 with e1;injection e1 with e1;exact Ky k3 (by omega)
    have kX:kr U1 y.rv y.rows:=by rw[yr,show y.rows=M[i].rows by rw[hy]];exact OV k3
    refine⟨⟨nG kX (hav B _ _ eB (by omega)) (by omega) (λd _ hd=>o2 d hd),?_⟩,by rw[yr];exact Ky k3 (by omega),hav⟩;rw[yr];rcases k3 with⟨-,rfl|⟨B',rfl⟩⟩|⟨-,B',c',-,-,rfl,-⟩
    ·exact yD _ _
    ·exact lH _ _ _ _
    ·exact lH _ _ _ _
   rcases List.mem_or_eq_of_mem_set DG with DG|rfl
   ·obtain⟨a1,a0,a2⟩:=hx x DG;exact⟨⟨nG (a1.mono k2).1 (a2 B _ _ eB (by omega)) (by omega) (λd _ hd=>o2 d hd),a1.2⟩,a0,a2⟩
   ·exact new
 ·rintro R U ⟨r1,r2,bw,bB,hU,nU,z0,z1,M,hE,hM,mT,hx⟩;unfold mW;have t1:decide ((v.az.length:Int)<(v.az.length:Int))=false:=dS;simp only[SX,bw,bB,t1,am];exact⟨by simp,aA,r1,r2,hU,nU,z0,z1,M,hE,hM,(λx h=>by
   obtain⟨j,hj,e⟩:=vk h;have hlM:M.length=v.az.length:=by rw[<-hM,gR]
   exact mT j x (by rw[cL hj,e]) (by omega)),λx h=>⟨(hx x h).1,(hx x h).2.1⟩⟩
 ·rintro⟨q,R,U⟩ ⟨rfl,r1,r2,hU,nU,z0,z1,M,hE,hM,mT,hx⟩;simp only at r1 r2 hU nU z0 z1 hE hM hx;have po:=UA (v:=v) (sv:=u) z1 (by rw[eu];rfl);have gg:=BY (W:=U.put (W.next+1) (.cells (qB v u))) (AW.bz _ _ _);simp only[SX,r1,r2,BY z0,po,B5,aiS,gg,bp,am]
  exact⟨u,M,rfl,hU.put (by omega) _,(hE.dq (W':=U.put (W.next+1) (.cells (qB v u))) (aP _) λb hb _=>AW.aE _ _ (by omega)).low (by omega),hM,
   λx h=>⟨⟨nG (hx x h).1.1 (hx x h).2 (aP _) (λd _ hd=>AW.aE _ _ (bL hd)),(hx x h).1.2⟩,mT x h⟩⟩
def alq(x:s7)(W:AW):aD Tryz.prog 22 1 [(0,.agg (rG x).toArray)] W=some (.slice (some ⟨W.next,0,none⟩) 1 1,W.add (.cells (rG x))):=aJ (by kernel_rfl) rfl
def N1{α:Type}{W:AW}{z:Nat}{f:α->List ae}{v:ae}{l:List α}{bo:Option Nat}(h:nA W z f v l bo):v.cells=#[v]/\Eng.one v=true:=by rcases h with⟨-,rfl,-⟩|⟨-,B,-,-,rfl,-⟩<;>exact⟨rfl,rfl⟩
def JH{W:AW}{v:cA}{sv:ae}(h:eY W sv v.az)(hs:v.az.length<1000)(hr:∀s∈v.az,s.rows.length<1000):∃q W',bm (.func (.func 28) #[] #[]) [fc v sv] W=some (q,W')/\VnQ W W' v q:=by
 refine qN (Q:=λq W'=>VnQ W W' v q) ?_ Cj λq W' hq a8 hp=>F3 hq hp
 unfold AG;obtain⟨V,hV⟩:∃V,V=(W.add (.cells (qB v sv))).add (.cells (qB eZ bc)):=⟨_,rfl⟩;have a8:Le W V:=by rw[hV];exact((Le.refl _).add _).add _
 have nV:V.next=W.next+2:=by rw[hV,AW.aG,AW.aG]
 have bx:cD (fc v sv) W=some (cr W.next,W.add (.cells (qB v sv))):=gD _;have al:=agt (W.add (.cells (qB v sv)));rw[AW.aG,<-hV]at al;have g0:V.get W.next=some (.cells (qB v sv)):=by rw[hV,AW.br _ _ (by rw[AW.aG];omega)];exact AW.aT _ _
 have g1:V.get (W.next+1)=some (.cells (qB eZ bc)):=by have:=AW.aT (W.add (.cells (qB v sv))) (.cells (qB eZ bc));rw[AW.aG,<-hV]at this;exact this
 obtain⟨M0,m1,m2,m3⟩:=OJ h;have Ie:M0.length=v.az.length:=by rw[<-m1,gR]
 have pu:=GL (u:=bc) g0 rfl rfl;obtain⟨V2,pG⟩:∃V2,V2=V.put W.next (.cells (qB v bc)):=⟨_,rfl⟩;rw[<-pG]at pu;have n2:V2.next=V.next:=by rw[pG];rfl
 have y0:V2.get W.next=some (.cells (qB v bc)):=by rw[pG];exact AW.bz _ _ _
 have y1:V2.get (W.next+1)=some (.cells (qB eZ bc)):=by rw[pG];exact(AW.aE _ _ (by omega)).trans g1
 have l2:Le W V2:=by rw[pG];exact a8.put (aP _) _
 have lnu:∀W',aB Tryz.prog .len #[22] 3 #[false] [sv] W'=some (.af (v.az.length:Int),W'):=λW'=>Row.len h xn W' 3 #[false]
 simp only[SX,bx,al,aI,zZ g0,pu]
 refine bY v.az.length (by omega) (λi R U=>R 1=cr W.next/\R 2=cr (W.next+1)/\R 3=sv/\R 4=.af (i:Int)/\Le W U/\W.next+2<=U.next/\U.get (W.next+1)=some (.cells (qB eZ bc))/\
  ∃u M bo,U.get W.next=some (.cells (qB v u))/\nA U 3 rG u M bo/\(∀B,bo=some B->W.next+2<=B)/\M.map s7.sec=v.az.take i/\∀x∈M,Lh U x/\(∀d,d<W.next+2->av d x.rv)/\∀B,bo=some B->av B x.rv)
  (λr=>r.1=.exit 0/\r.2.1 1=cr W.next/\r.2.1 2=cr (W.next+1)/\Le W r.2.2/\W.next+2<=r.2.2.next/\r.2.2.get (W.next+1)=some (.cells (qB eZ bc))/\
    ∃u M bo,r.2.2.get W.next=some (.cells (qB v u))/\nA r.2.2 3 rG u M bo/\(∀B,bo=some B->W.next+2<=B)/\M.map s7.sec=v.az/\∀x∈M,Lh r.2.2 x/\∀d,d<W.next+2->av d x.rv)
  ⟨rfl,rfl,rfl,rfl,l2,by omega,y1,bc,[],none,y0,.inl ⟨rfl,rfl,rfl⟩,(λB e=>by cases e),(by simp),λx hx=>by cases hx⟩ ?_ ?_ ?_
 ·rintro i R U hi ⟨r1,r2,r3,r4,hU,nU,z1,u,M,bo,z0,hL,vJ,hM,hx⟩;unfold oQ;have t1:decide ((i:Int)<(v.az.length:Int))=true:=jr;have t2:=λW'=>cQ W' i 1
  have e3:((i+1:Nat):Int)=(i:Int)+1:=by omega
  have VW:i<M0.length:=by omega
  obtain⟨b,o,p1,p2,-⟩:=lP mi (wM mi m2) VW;have hg0:=m3 _ (fb VW);have hsi:v.az[i]? =some M0[i].sec:=by rw[<-m1,jh,cL VW];rfl
  have hrl:M0[i].rows.length<1000:=by
   have acF:M0[i].sec∈v.az:=by rw[<-m1];exact List.mem_map_of_mem (fb VW)
   exact hr _ acF
  have Ii:=p2 U hU;generalize M0[i]=x at Ii hg0 hsi hrl;have a62:=Qc U;have st0:bP 3 (cr U.next) (.agg (rG x).toArray) (U.add (.cells [.string (aM []),.slice none 0 0,.af 0]))=some (ag,U.add (.cells (rG x))):=by have:=ov (n:=3) (vs:=(rG x).toArray) (AW.aT U (.cells [.string (aM []),.slice none 0 0,.af 0])) rfl rfl rfl;rwa [gt]at this
  obtain⟨U1,jO⟩:∃U1,U1=U.add (.cells (rG x)):=⟨_,rfl⟩;rw[<-jO]at st0;have l1:Le U U1:=by rw[jO];exact(Le.refl _).add _
  have n1:U1.next=U.next+1:=by rw[jO];rfl
  have q1:U1.get U.next=some (.cells (rG x)):=by rw[jO];exact AW.aT _ _
  have w1:aK (.pointer (some ⟨U.next,1,none⟩)) (U1.add (.cells []))=some (x.rv,U1.add (.cells [])):=eQ ((AW.br _ _ (by omega)).trans q1) rfl;obtain⟨w,U3,k1,k2,k3⟩:=sw EK nO Aa (NN ((hg0.mono hU).mono l1).1) (by omega) (by omega);obtain⟨wa,wc,ew⟩:=k3.slice;have n3:=k2.next;obtain⟨y,hy⟩:∃y:s7,y=⟨x.nm,wa,wc,x.rows,x.q⟩:=⟨_,rfl⟩;have ys:y.sec=x.sec:=by rw[hy];rfl
  have yr:y.rv=w:=by rw[hy,ew]
  have ajp:y.rows=x.rows:=by rw[hy]
  have q3:=(k2.get U.next (by omega)).trans q1;have st1:bP 1 (.pointer (some ⟨U.next,1,none⟩)) w U3=some (ag,U3.put U.next (.cells (rG y))):=by rw[gx (by rw[ew];rfl) (sE k3),Bp q3,hy,ew];rfl
  obtain⟨U4,ME⟩:∃U4,U4=U3.put U.next (.cells (rG y)):=⟨_,rfl⟩;rw[<-ME]at st1;have n4:U4.next=U3.next:=by rw[ME];rfl
  have q4:U4.get U.next=some (.cells (rG y)):=by rw[ME];exact AW.bz _ _ _
  have o4:∀d,d≠U.next->U4.get d=U3.get d:=λd hd=>by rw[ME];exact AW.aE _ _ (bL hd)
  have l4:Le U U4:=by rw[ME];exact(l1.trans k2).put (aP _) _
  have z04:=(l4.get W.next (by omega)).trans z0;have lsu:=zZ z04;have ak2:bA 3 (cr U.next) U4=some (.agg (rG y).toArray,U4):=eh (bk q4) rfl;have an4:M.length=i:=by rw[<-gR (f:=s7.sec),hM,dF];omega
  obtain⟨u',U6,a1,a2,a3,a4⟩:=Oi y ahd mi Ot (hL.dq l4.next λB hB=>l4.get B (hL.lt hB)) (by omega) (by omega);have nb:∀{d},d<W.next+2->bo≠some d:=λhd e=>by have:=vJ _ e;omega
  have z06:=(a4 W.next (by omega) (nb (by omega))).trans z04;obtain⟨c1,c2⟩:=N1 a2;have Yu:=GL (u:=u') z06 c1 c2;obtain⟨U7,hU7⟩:∃U7,U7=U6.put W.next (.cells (qB v u')):=⟨_,rfl⟩;rw[<-hU7]at Yu;have n7:U7.next=U6.next:=by rw[hU7];rfl
  have o7:∀d,d≠W.next->U7.get d=U6.get d:=λd hd=>by rw[hU7];exact AW.aE _ _ (bL hd)
  simp only[SX,r1,r3,r4,lnu,t1,p1,Ii,a62,st0,LX,aI,w1,k1,st1,lsu,ak2,alq,a1,Yu,t2,am];have afw:kr U4 y.rv y.rows:=by rw[ajp];refine nG (q:=U.next) (by rw[yr];exact OV k3) (by rw[yr];exact Ky k3 (by omega)) (by omega) λd _ hd=>o4 d hd
  have Xt:∀{x:s7},Lh U4 x->av W.next x.rv->(∀B,bo=some B->av B x.rv)->Lh U7 x:=λ{x} hgx h0 h1=>by
   have e6:Row U6 1 (xv .i64) x.rv x.rows:=by
    cases bo with
    |none=>exact nG (q:=U6.next) hgx.1 (Dh hgx.1 (by omega)) (by rw[a3];omega) λd hd _=>a4 d hd (by simp)
    |some B=>exact nG hgx.1 (h1 B rfl) (by omega) λd hd fk=>a4 d hd (λe=>fk (by injection e with e;exact e.symm))
   exact⟨nG e6 h0 (by omega) λd _ hd=>o7 d hd,hgx.2⟩
  refine .inl ⟨aA,r1,r2,r3,by rw[e3];rfl,⟨by have:=hU.next;omega,λd hd=>(o7 d (by omega)).trans ((a4 d (by have:=l4.next;omega) (nb (by omega))).trans ((l4.get d (by omega)).trans (hU.get d hd)))⟩,by omega,(o7 _ (by omega)).trans ((a4 _ (by omega) (nb (by omega))).trans ((l4.get _ (by omega)).trans z1)),
   u',M++[y],some (U4.next+1),by rw[hU7];exact AW.bz _ _ _,a2.dq (by omega) (λB hB=>o7 B (by injection hB with hB;omega)),(λB hB=>by injection hB with hB;omega),?_,λx' DG=>?_⟩
  ·rw[mU,hM,sq,hsi];simp only[jd,mO,ys,sP]
  ·rcases oU.1 DG with DG|DG
   ·obtain⟨b1,b2,b4⟩:=hx x' DG;exact⟨Xt (b1.mono l4) (b2 _ (by omega)) b4,b2,λB hB=>by injection hB with hB;exact Dh b1.1 (by omega)⟩
   ·rw[m9]at DG;subst DG;have av0:∀{d},d<U1.next->av d x'.rv:=λhd=>by rw[yr];exact Ky k3 hd
    refine⟨Xt ⟨afw,?_⟩ (av0 (by omega)) (λB hB=>av0 (by have:=hL.lt hB;omega)),(λd hd=>av0 (by omega)),λB hB=>by injection hB with hB;exact Dh afw (by omega)⟩;rw[yr];rcases k3 with⟨-,rfl|⟨B',rfl⟩⟩|⟨-,B',c',-,-,rfl,-⟩
    ·exact yD _ _
    ·exact lH _ _ _ _
    ·exact lH _ _ _ _
 ·rintro R U ⟨r1,r2,r3,r4,hU,nU,z1,u,M,bo,z0,hL,vJ,hM,hx⟩;unfold oQ;have t1:decide ((v.az.length:Int)<(v.az.length:Int))=false:=dS;simp only[SX,r3,r4,lnu,t1,am];exact⟨by simp,aA,r1,r2,hU,nU,z1,u,M,bo,z0,hL,vJ,by rw[hM,dd],λx h=>⟨(hx x h).1,(hx x h).2.1⟩⟩
 ·rintro⟨q,R,U⟩ ⟨rfl,r1,r2,hU,nU,z1,u,M,bo,z0,hL,vJ,hM,hx⟩;simp only at r1 r2 hU nU z0 z1 hL hM hx;have po:=UA (v:=v) (sv:=u) z1 (N1 hL).2;have gg:=BY (W:=U.put (W.next+1) (.cells (qB v u))) (AW.bz _ _ _);simp only[SX,r1,r2,BY z0,po,B5,aiS,gg,bp,am];have hE:EL (W.next+2) U 3 rG u M:=by
   rcases hL with⟨rfl,rfl,-⟩|⟨h0,B,e1,e2,e3,e4⟩
   ·exact EL.nil _ _ _ _
   ·exact .inr ⟨h0,B,_,vJ B e1,e2,e3,.inl rfl,e4⟩
  exact⟨u,M,rfl,hU.put (by omega) _,(hE.dq (W':=U.put (W.next+1) (.cells (qB v u))) (aP _) λb hb _=>AW.aE _ _ (by omega)).low (by omega),hM,
   λx h=>⟨⟨nG (hx x h).1.1 ((hx x h).2 _ (by omega)) (aP _) (λd _ hd=>AW.aE _ _ (bL hd)),(hx x h).1.2⟩,λb hb=>(hx x h).2 b (by omega)⟩⟩
def eY.aiO{W:AW}{v:ae}{l:List jy}(h:eY W v l){i:Nat}(hi:i<l.length):∃b o rv,(∀W' k,gn 3 v (.int k (i:Int)) W'=some (.pointer (some ⟨b,o,none⟩),W'))/\kr W rv l[i].rows/\
 (∀W',Le W W'->bA 3 (.pointer (some ⟨b,o,none⟩)) W'=some (Di l[i] rv,W'))/\tr rv rv=true/\Eng.one rv=true:=by
 obtain⟨b,o,cs,h1,h2,h3,h4,h5,rv,h6,h7,h8⟩:=h.elem hi;refine⟨b,o,rv,h1,h7,λW' a8=>?_,h8⟩;rw[zJ,a8.aL h2,h3];simp only[bp,Oq h4 h6 h5,dE,oG,bh]
def eY.vs{W:AW}{v:ae}{l:List jy}(h:eY W v l){i:Nat}(hi:i<l.length):fK v v=true:=by
 obtain⟨a,c,rfl,h⟩:=h;rcases h with h|⟨b,o,cs,rfl,-⟩
 ·rw[h]at hi;simp at hi
 ·exact mH _ _ _ _
def aj6(v:cA)(sv:ae)(W:AW):cD (fc v sv) W=some (.pointer (some ⟨W.next,0,none⟩),W.add (.cells [.af v.sh,.af v.pq,.af v.pp,sv])):=gD _
def LF{W:AW}{v:cA}{sv su:ae}(h:eY W sv v.az)(k:eY W su v.az)(hl:v.az.length<1000)(hr:∀s∈v.az,s.rows.length<1000):bm (.func (.func 29) #[] #[]) [fc v sv,fc v su] W=some (.bool true,W):=by
 refine bT rfl ?_ EN;unfold Dd;obtain⟨W2,Fx⟩:∃W2,W2=(W.add (.cells [.af v.sh,.af v.pq,.af v.pp,sv])).add (.cells [.af v.sh,.af v.pq,.af v.pp,su]):=⟨_,rfl⟩;have a8:Le W W2:=by rw[Fx];exact((Le.refl _).add _).add _
 have g1:W2.get W.next=some (.cells [.af v.sh,.af v.pq,.af v.pp,sv]):=by rw[Fx,AW.br _ _ (by rw[AW.aG];omega),AW.aT]
 have g2:W2.get (W.next+1)=some (.cells [.af v.sh,.af v.pq,.af v.pp,su]):=by rw[Fx,<-AW.aG W (.cells [.af v.sh,.af v.pq,.af v.pp,sv]),AW.aT]
 have n2:W2.next=W.next+2:=by rw[Fx,AW.aG,AW.aG]
 simp only[SX,AW.aG,aI];rw[<-Fx];clear Fx;have a0:aK (.pointer (some ⟨W.next,0,none⟩)) W2=some (.af v.sh,W2):=eQ g1 rfl;have a1:aK (.pointer (some ⟨W.next,1,none⟩)) W2=some (.af v.pq,W2):=eQ g1 rfl;have a2:aK (.pointer (some ⟨W.next,2,none⟩)) W2=some (.af v.pp,W2):=eQ g1 rfl;have a3:∀{V:AW},Le W2 V->aK (.pointer (some ⟨W.next,3,none⟩)) V=some (sv,V):=λ{V} hv=>eQ ((hv.get _ (by omega)).trans g1) rfl
 have b0:aK (.pointer (some ⟨W.next+1,0,none⟩)) W2=some (.af v.sh,W2):=eQ g2 rfl;have b1:aK (.pointer (some ⟨W.next+1,1,none⟩)) W2=some (.af v.pq,W2):=eQ g2 rfl;have b2:aK (.pointer (some ⟨W.next+1,2,none⟩)) W2=some (.af v.pp,W2):=eQ g2 rfl;have b3:∀{V:AW},Le W2 V->aK (.pointer (some ⟨W.next+1,3,none⟩)) V=some (su,V):=λ{V} hv=>eQ ((hv.get _ (by omega)).trans g2) rfl
 have q0:decide (v.sh=v.sh)=true:=aS rfl;have q1:decide (v.pq=v.pq)=true:=aS rfl;have q2:decide (v.pp=v.pp)=true:=aS rfl;have q3:decide ((v.az.length:Int)=(v.az.length:Int))=true:=aS rfl;have h2:=eY.mono h a8;have k2:=eY.mono k a8;simp only[SX,a0,a1,a2,a3 (Le.refl _),b0,b1,b2,b3 (Le.refl _),Row.len h2 xn,Row.len k2 xn];refine bY v.az.length (by omega) (λi R V=>Le W2 V/\R 2=.pointer (some ⟨W.next,0,none⟩)/\R 3=.pointer (some ⟨W.next+1,0,none⟩)/\R 5=.af (i:Int)) (λr=>r.1=.exit 0/\Le W2 r.2.2) ⟨Le.refl _,rfl,rfl,rfl⟩ ?_ ?_ ?_
 ·rintro i R V hi ⟨g,r2,r3,r5⟩;unfold qk;have t1:((i:Int)<(v.az.length:Int)):=by omega
  have t2:=λW'=>cQ W' i 1
  have e3:((i+1:Nat):Int)=(i:Int)+1:=by omega
  have hV:=eY.mono h2 g;have kV:=eY.mono k2 g;have hvs:=eY.vs kV hi;obtain⟨b,o,rv,i1,i2,i3,Yq,II⟩:=eY.aiO hV hi;obtain⟨d,p,ru,j1,j2,j3,kvr,anl⟩:=eY.aiO kV hi;have hrl:=hr _ (fb hi);generalize v.az[i]=s at i2 i3 j2 j3 hrl;have FM:fK (Di s ru) (Di s ru)=true:=nW (by simp[Sv,kvr,DO,NZ]);have sa1:bP 3 (.pointer (some ⟨V.next,0,none⟩)) (Di s rv) ((V.add (.cells [.string (aM []),.slice none 0 0,.af 0])).add (.cells [.string (aM []),.slice none 0 0,.af 0]))=some (ag,((V.add (.cells [.string (aM []),.slice none 0 0,.af 0])).add (.cells [.string (aM []),.slice none 0 0,.af 0])).put V.next (.cells [.string (aM s.name),rv,.af s.q])):=
   ov (by rw[AW.br _ _ (by rw[AW.aG];omega),AW.aT]) rfl rfl (by simp[II,jH,kA])
  obtain⟨V1,wL⟩:∃V1,V1=((V.add (.cells [.string (aM []),.slice none 0 0,.af 0])).add (.cells [.string (aM []),.slice none 0 0,.af 0])).put V.next (.cells [.string (aM s.name),rv,.af s.q]):=⟨_,rfl⟩;rw[<-wL]at sa1;have l1:Le V V1:=by rw[wL];exact(((Le.refl _).add _).add _).put (aP _) _
  have n1:V1.next=V.next+2:=by rw[wL,AW.cT,AW.aG,AW.aG]
  have x1:V1.get V.next=some (.cells [.string (aM s.name),rv,.af s.q]):=by rw[wL,AW.bz]
  have x2:V1.get (V.next+1)=some (.cells [.string (aM []),.slice none 0 0,.af 0]):=by rw[wL,AW.aE _ _ (by omega),<-AW.aG V (.cells [.string (aM []),.slice none 0 0,.af 0]),AW.aT]
  have sa2:bP 3 (.pointer (some ⟨V.next+1,0,none⟩)) (Di s ru) V1=some (ag,V1.put (V.next+1) (.cells [.string (aM s.name),ru,.af s.q])):=ov x2 rfl rfl (by simp[anl,jH,kA]);obtain⟨V2,pG⟩:∃V2,V2=V1.put (V.next+1) (.cells [.string (aM s.name),ru,.af s.q]):=⟨_,rfl⟩;rw[<-pG]at sa2;have l2:Le V V2:=by rw[pG];exact l1.put (by omega) _
  have z1:V2.get V.next=some (.cells [.string (aM s.name),rv,.af s.q]):=by rw[pG,AW.aE _ _ (by omega)];exact x1
  have z2:V2.get (V.next+1)=some (.cells [.string (aM s.name),ru,.af s.q]):=by rw[pG,AW.bz]
  clear wL pG;have w0:aK (.pointer (some ⟨V.next,0,none⟩)) V2=some (.string (aM s.name),V2):=eQ z1 rfl;have w1:aK (.pointer (some ⟨V.next,1,none⟩)) V2=some (rv,V2):=eQ z1 rfl;have w2:aK (.pointer (some ⟨V.next,2,none⟩)) V2=some (.af s.q,V2):=eQ z1 rfl;have y0:aK (.pointer (some ⟨V.next+1,0,none⟩)) V2=some (.string (aM s.name),V2):=eQ z2 rfl;have y1:aK (.pointer (some ⟨V.next+1,1,none⟩)) V2=some (ru,V2):=eQ z2 rfl;have y2:aK (.pointer (some ⟨V.next+1,2,none⟩)) V2=some (.af s.q,V2):=eQ z2 rfl;have Xb:=X2 (i2.mono l2) (j2.mono l2) (by omega);rw[aS rfl]at Xb;have p0:decide (s.q=s.q)=true:=aS rfl;have alI:∀(n:ByteArray) (c d:Bool) (W:AW),aw Tryz.prog .neq 9 c d (.string n) (.string n) W=some (.bool false,W):=λn c d W=>by rw[zz,beq_self_eq_true];rfl
  simp only[SX,r2,r3,r5,aI,a3 g,b3 g,Row.len hV xn,t1,i1,i3 _ (Le.refl _),j1,j3 _ (Le.refl _),Qc,AW.aG,sa1,j3 _ l1,kE,FM,b3 (g.trans l1),hvs,iM,sa2,w0,y0,alI,w2,y2,w1,y1,Xb,t2,am];exact .inl ⟨aA,g.trans l2,r2,r3,by rw[e3];rfl⟩
 ·rintro R V ⟨g,r2,r3,r5⟩;unfold qk;have t1:¬((v.az.length:Int)<(v.az.length:Int)):=by omega
  simp only[SX,r2,r5,aI,a3 g,Row.len (eY.mono h2 g) xn,t1,am];exact⟨by simp,aA,g⟩
 ·rintro⟨q,R,V⟩ ⟨rfl,g⟩;simp only[SX,am];exact⟨aA,a8.trans g⟩
structure Yc (W:AW) (v:cA) (sv ev:ae) (l:List de):Prop where
 a:KK W v sv ev l
 cap:∃a c,ev=.slice a l.length c/\l.length<=c/\c<gU/\(a=none\/∃b o,a=some ⟨b,o,none⟩)
def Yc.mono{W W':AW}{v:cA}{sv ev:ae}{l:List de}(h:Yc W v sv ev l)(a8:Le W W'):Yc W' v sv ev l:=⟨h.a.mono a8,h.cap⟩
def Yc.vs{W:AW}{v:cA}{sv ev:ae}{l:List de}(h:Yc W v sv ev l):fK ev ev=true:=by
 obtain⟨a,c,rfl,-,-,rfl|⟨b,o,rfl⟩⟩:=h.cap
 ·exact wG _ _
 ·exact mH _ _ _ _
def aiU:wz Tryz.prog 25=some 31:=by kernel_rfl
def D3{P:Program}{W:AW}{t:ai}{z:Nat}(hz:wz P t=some z){l c h:Nat}{k:IntKind}(h1:h<=c):
 fh P t (.slice none l c) none (some (.int k (h:Int))) none W=some (.slice none h c,W):=by
 obtain⟨e,he,hz⟩:=wg hz;unfold fh mS;simp only[he,hz,gu,lD,Nat.zero_le,bh,Nat.sub_zero,true_and,h1]
def OX{W:AW}{v:cA}{sv ev:ae}{l:List de}(h:Yc W v sv ev l){n:Nat}(hn:n<=l.length):∃u,(∀W':AW,fh Tryz.prog 25 ev none (some (.af (n:Int))) none W'=some (u,W'))/\Rd W 31 fe u (l.take n):=by
 have eA:(l.take n).length=n:=by rw[dF];omega
 obtain⟨a,c,rfl,h1,h2,h3⟩:=h.cap;obtain⟨a',c',e,hr⟩:=SG h.a.GD;injection e with e1 e2 e3;subst e1;subst e3;rcases h3 with rfl|⟨b,o,rfl⟩
 ·refine⟨_,λW'=>D3 aiU (by omega),none,c,by rw[eA],?_⟩;rcases hr with rfl|⟨b',o',cs,e4,-⟩
  ·exact .inl (by simp)
  ·cases e4
 ·refine⟨_,λW'=>FI aiU (by omega) h2,_,_,by rw[eA],?_⟩;rcases hr with rfl|⟨b',o',cs,e4,i1,i2,i3⟩
  ·exact .inl (by simp)
  ·injection e4 with e4;injection e4 with e5 e6;subst e5;subst e6;refine .inr ⟨b,o,cs,rfl,i1,i2,?_⟩;rw[eA,<-PV nM,<-i3,uY,o8 (rJ 31 hn)]
def WO(W:AW):aY Tryz.prog 27 W=some (cr W.next,W.add (.cells (qT eZ bc bc))):=aJ (by kernel_rfl) rfl
def zq(W:AW):bD Tryz.prog 27 [] W=some (pz eZ bc bc,W):=aJ (by kernel_rfl) rfl
def S1(v:cA)(a a2:Option Addr)(n c n2 c2:Nat)(W:AW):bD Tryz.prog 27 [(0,fc v (.slice a n c)),(1,.slice a2 n2 c2)] W=some (pz v (.slice a n c) (.slice a2 n2 c2),W):=aJ (by kernel_rfl) rfl
def IQ(x:ae)(W:AW):iV Tryz.prog 27 x W=bA 5 x W:=by kernel_rfl
def Wp{W:AW}{b:Nat}{v v0:cA}{sv ev s0 e0:ae}(h:W.get b=some (.cells (qT v0 s0 e0)))(h1:Eng.one sv=true)(h2:Eng.one ev=true):bP 5 (cr b) (pz v sv ev) W=some (ag,W.put b (.cells (qT v sv ev))):=
 ov h rfl rfl (by simp[h1,h2,kA])
def sL(e n:Int)(m:Nat):Int:=if e=0 then(if n<0\/(m:Int)<n then 7 else 0)else e
def qx(v:cA)(c:Int):cA:=if c=0 then v else eZ
def Kz(l:List de)(c n:Int):List de:=if c=0 then l.take n.toNat else []
def EY(W W':AW)(v:cA)(l:List de)(c n:Int)(q:ae):Prop:=∃u w M,q=.tuple #[pz (qx v c) u w,.af c]/\Le W W'/\EL W.next W' 3 rG u M/\M.map s7.sec=(qx v c).az/\(∀x∈M,Lh W' x/\∀b,b<W.next->av b x.rv)/\EL W.next W' 31 fe w (Kz l c n)
def CJ{W W':AW}{v:cA}{l:List de}{c n:Int}{q:ae}(h:EY W W' v l c n q)(hp:bC q=true):EY W W v l c n q:=by
 obtain⟨u,w,M,rfl,h1,h2,h3,h4,h5⟩:=h;have key:∀{α:Type} {z:Nat} {f:α->List ae} {v:ae} {l:List α},EL W.next W' z f v l->(bC v=true\/∃a n c,v=.slice (some a) n c):=λ{α z f v l} h=>by
  rcases h with⟨rfl,rfl|⟨B,rfl⟩⟩|⟨h0,B,c,i1,i2,rfl,hc,i4⟩
  ·exact .inl rfl
  ·exact .inr ⟨_,_,_,rfl⟩
  ·exact .inr ⟨_,_,_,rfl⟩
 have hu:bC u=true:=by
  rcases key h2 with h|⟨a,n,c,rfl⟩
  ·exact h
  ·simp[bC,eI,cG]at hp
 have hw:bC w=true:=by
  rcases key h5 with h|⟨a,n,c,rfl⟩
  ·exact h
  ·simp[bC,eI,cG]at hp
 have hM:M=[]:=by
  rcases h2 with⟨rfl,-⟩|⟨h0,B,c,i1,i2,rfl,hc,i4⟩
  ·rfl
  ·simp[bC,eI,cG]at hu
 subst hM;exact⟨u,w,[],rfl,.refl _,uy h2 hu,h3,(λx hx=>by cases hx),uy h5 hw⟩
section
variable {W:AW} {v:cA} {sv ev:ae} {l:List de}
def Gw{U:AW}{b:Nat}{v0:cA}{s0 e0:ae}{c n:Int}{u w:ae}{M:List s7}(a8:Le W U)(hb:W.next<=b)(g:U.get b=some (.cells (qT v0 s0 e0)))(hE:EL (b+1) U 3 rG u M)(hM:M.map s7.sec=(qx v c).az)(hx:∀x∈M,Lh U x/\∀d,d<b+1->av d x.rv)(hW:EL (b+1) U 31 fe w (Kz l c n)):
 ∃U',bP 5 (cr b) (pz (qx v c) u w) U=some (ag,U')/\U'.get b=some (.cells (qT (qx v c) u w))/\EY W U' v l c n (.tuple #[pz (qx v c) u w,.af c]):=by
 refine⟨_,Wp g (sE hE) (sE hW),AW.bz _ _ _,u,w,M,rfl,a8.put hb _,(hE.dq (W':=U.put b (.cells (qT (qx v c) u w))) (aP _) λd hd _=>AW.aE _ _ (by omega)).low (by omega),hM,
  λx h=>⟨⟨nG (hx x h).1.1 ((hx x h).2 b (by omega)) (aP _) (λd _ hd=>AW.aE _ _ (bL hd)),(hx x h).1.2⟩,λd hd=>(hx x h).2 d (by omega)⟩,(hW.dq (W':=U.put b (.cells (qT (qx v c) u w))) (aP _) λd hd _=>AW.aE _ _ (by omega)).low (by omega)⟩
def BZ{U:AW}{b:Nat}{c n:Int}(hc:c≠0)(a8:Le W U)(hb:W.next<=b)(g:U.get b=some (.cells (qT eZ bc bc))):
 ∃U',bP 5 (cr b) (pz eZ bc bc) U=some (ag,U')/\U'.get b=some (.cells (qT eZ bc bc))/\EY W U' v l c n (.tuple #[pz eZ bc bc,.af c]):=by
 have hv:qx v c=eZ:=by unfold qx;rw[ay hc]
 have hl:Kz l c n=[]:=by unfold Kz;rw[ay hc]
 obtain⟨U',h1,h2,h3⟩:=Gw (W:=W) (v:=v) (l:=l) (c:=c) (n:=n) (u:=bc) (w:=bc) (M:=[]) a8 hb g (EL.nil _ _ _ _) (by rw[hv];rfl) (λx hx=>by cases hx) (by rw[hl];exact EL.nil _ _ _ _);rw[hv]at h1 h2 h3;exact⟨U',h1,h2,h3⟩
def T9(v:cA)(sv ev:ae)(W:AW):∃V0 V,cD (pz v sv ev) W=some (cr W.next,V0)/\aY Tryz.prog 27 V0=some (cr (W.next+1),V)/\Le W V/\V.next=W.next+2/\V.get W.next=some (.cells (qT v sv ev))/\V.get (W.next+1)=some (.cells (qT eZ bc bc)):=
 ⟨_,_,K3 v sv ev W,by rw[WO,AW.aG],((Le.refl _).add _).add _,by rw[AW.aG,AW.aG],by rw[AW.br _ _ (by rw[AW.aG];omega),AW.aT],by rw[show W.next+1=(W.add (.cells (qT v sv ev))).next by rw[AW.aG],AW.aT]⟩
end
def OZ(v:cA):qx v 0=v:=ax rfl
def ZQ(l:List de)(k:Nat):Kz l 0 (k:Int)=l.take k:=by unfold Kz;rw[ax rfl,oY]
section
variable {W:AW} {v:cA} {sv ev:ae} {l:List de}
def Qr(hG:GW W)(h:Yc W v sv ev l)(n:Int):∃(a e:Int) (q:ae) (W':AW),qW v l a e/\bm (.func (.func 12) #[] #[]) [pz v sv ev,.af n] W=some (q,W')/\EY W W' v l (sL e n l.length) n q:=by
 obtain⟨V0,V,bx,al,a8,nV,g0,g1⟩:=T9 v sv ev W;have hV:=h.mono a8;obtain⟨a,e,hA,q1⟩:=tv (hG.mono a8) hV.a;suffices hs:∃(q:ae) (W':AW),bm (.func (.func 12) #[] #[]) [pz v sv ev,.af n] W=some (q,W')/\EY W W' v l (sL e n l.length) n q by obtain⟨q,W',h1⟩:=hs;exact⟨a,e,q,W',hA,h1⟩
 refine qN (Q:=λq W'=>EY W W' v l (sL e n l.length) n q) ?_ EC λq W' hq _ hp=>CJ hq hp
 unfold CK sL;have cB:=ee g0;have c4:aK (.pointer (some ⟨W.next,4,none⟩)) V=some (ev,V):=eQ g0 rfl;have Ic:∀W',aB Tryz.prog .len #[25] 3 #[false] [ev] W'=some (.af (l.length:Int),W'):=λW'=>Row.len h.a.GD qK W' 3 #[false]
 by_cases he:e=0;case neg=>have d:=bq he;obtain⟨U',p1,p2,p3⟩:=BZ (v:=v) (l:=l) (n:=n) he a8 (by omega) g1;simp only[SX,bx,al,cB,q1,d,zq,p1,eT,IQ,ee p2,bp,ay he,am];exact p3
 subst he;have d:decide ((0:Int)=0)=true:=rfl;rw[ax rfl];by_cases c1:n<0\/(l.length:Int)<n
 ·obtain⟨U',p1,p2,p3⟩:=BZ (v:=v) (l:=l) (c:=7) (n:=n) (by decide) a8 (by omega) g1;rw[ax c1];by_cases c2:n<0
  ·have d2:=aS c2;simp only[SX,bx,al,cB,q1,d2,zq,p1,eT,IQ,ee p2,bp,am];exact p3
  ·have d2:=bq c2;have d3:decide ((l.length:Int)<n)=true:=aS (c1.resolve_left c2);simp only[SX,bx,al,cB,q1,d2,aI,c4,Ic,d3,zq,p1,eT,IQ,ee p2,bp,am];exact p3
 rw[ay c1];obtain⟨k,rfl⟩:∃k:Nat,n=(k:Int):=⟨n.toNat,by omega⟩;have d2:decide ((k:Int)<0)=false:=dS;have d3:decide ((l.length:Int)<(k:Int))=false:=dS;have hl:=hA.E9.2.2.1;have c0:bA 4 (cr W.next) V=some (fc v sv,V):=eh (bk g0) rfl;obtain⟨s,b1,b2⟩:=OX hV (n:=k) (by omega);obtain⟨q,V1,k1,u,M,rfl,k2,k3,k4,k5⟩:=I3 hV.a.az.1 h.a.small h.a.rows;obtain⟨w,V2,j1,j2,j3⟩:=I4 (b2.dq k2) (by rw[dF];omega);have n1:=k2.next;have n2:=j2.next;have x4:aK (.pointer (some ⟨W.next,4,none⟩)) V1=some (ev,V1):=eQ ((k2.get _ (by omega)).trans g0) rfl;have x1:=(j2.get (W.next+1) (by omega)).trans ((k2.get (W.next+1) (by omega)).trans g1);obtain⟨U',p1,p2,p3⟩:=Gw (v:=v) (l:=l) (c:=0) (n:=(k:Int)) (u:=u) (w:=w) (M:=M) (a8.trans (k2.trans j2)) (by omega) x1 ((k3.mono j2).low (by omega)) (by rw[OZ];exact k4) (λx hx=>⟨(k5 x hx).1.mono j2,λd hd=>(k5 x hx).2 d (by omega)⟩) (by rw[ZQ];exact j3.low (by omega));rw[OZ]at p1 p2 p3;obtain⟨ua,uc,rfl⟩:=k3.slice;obtain⟨wa,wc,rfl⟩:=j3.slice;simp only[SX,bx,al,cB,q1,d2,aI,c4,Ic,d3,c0,b1,k1,x4,kE,h.vs,iM,j1,S1,p1,eT,IQ,ee p2,bp,am];exact p3
def L8{α:Type}{z:Nat}{f:α->List ae}{W:AW}{v:ae}{l:List α}{B:Nat}{ts:Array ai}{bytes:Nat}(hk:iR Tryz.prog ts z bytes=true)(hf:∀a,(f a).length=z)(h1:∀a,(f a).all Eng.one=true)(h:Rd W z f v l)(hl:l.length<=10000)(hb:bytes<=1000):
 ∃u W',aN Tryz.prog W ts (.slice (some ⟨B,0,none⟩) 0 0) v=some (u,W')/\Le W W'/\EL W.next W' z f u l:=by
 have hE:EL W.next W z f (.slice (some ⟨B,0,none⟩) 0 0) []:=EL.Uc _ _ _ _ _;have hm:(2*l.length+192)*bytes<=(2*10000+192)*1000:=Nat.mul_le_mul (by omega) hb;obtain⟨u,W',k1,k2,k3,k4⟩:=hE.app hk hf h1 h (by simp;omega) (by rw[oG,aI];omega) (aP _);rw[kg]at k2;exact⟨u,W',k1,⟨k3,k4⟩,k2⟩
def RK(h:Yc W v sv ev l)(n:Int):∃(a e:Int) (q:ae) (W':AW),qW v l a e/\bm (.func (.func 18) #[] #[]) [pz v sv ev,.af n] W=some (q,W')/\EY W W' v l (sL e n l.length) n q:=by
 obtain⟨V0,V,bx,al,a8,nV,g0,g1⟩:=T9 v sv ev W;have hV:=h.mono a8;obtain⟨a,e,hA,q1⟩:=FQ hV.a;suffices hs:∃(q:ae) (W':AW),bm (.func (.func 18) #[] #[]) [pz v sv ev,.af n] W=some (q,W')/\EY W W' v l (sL e n l.length) n q by obtain⟨q,W',h1⟩:=hs;exact⟨a,e,q,W',hA,h1⟩
 refine qN (Q:=λq W'=>EY W W' v l (sL e n l.length) n q) ?_ HI λq W' hq _ hp=>CJ hq hp
 unfold FB sL;have cB:=ee g0;have c4:aK (.pointer (some ⟨W.next,4,none⟩)) V=some (ev,V):=eQ g0 rfl;have Ic:∀W',aB Tryz.prog .len #[25] 3 #[false] [ev] W'=some (.af (l.length:Int),W'):=λW'=>Row.len h.a.GD qK W' 3 #[false]
 by_cases he:e=0;case neg=>have d:=bq he;obtain⟨U',p1,p2,p3⟩:=BZ (v:=v) (l:=l) (n:=n) he a8 (by omega) g1;simp only[SX,bx,al,cB,q1,d,wu1];unfold i7;simp only[SX,d,zq,p1,eT,IQ,ee p2,bp,ay he,am];exact p3
 subst he;have d:decide ((0:Int)=0)=true:=rfl;have d7:decide ((7:Int)=0)=false:=rfl;rw[ax rfl];by_cases c1:n<0\/(l.length:Int)<n
 ·obtain⟨U',p1,p2,p3⟩:=BZ (v:=v) (l:=l) (c:=7) (n:=n) (by decide) a8 (by omega) g1;rw[ax c1];by_cases c2:n<0
  ·have d2:=aS c2;simp only[SX,bx,al,cB,q1,d2];unfold i7;simp only[SX,d7,zq,p1,eT,IQ,ee p2,bp,am];exact p3
  ·have d2:=bq c2;have d3:decide ((l.length:Int)<n)=true:=aS (c1.resolve_left c2);simp only[SX,bx,al,cB,q1,d2,aI,c4,Ic,d3];unfold i7;simp only[SX,d7,zq,p1,eT,IQ,ee p2,bp,am];exact p3
 rw[ay c1];obtain⟨k,rfl⟩:∃k:Nat,n=(k:Int):=⟨n.toNat,by omega⟩;have d2:decide ((k:Int)<0)=false:=dS;have d3:decide ((l.length:Int)<(k:Int))=false:=dS;have hl:=hA.E9.2.2.1;have c0:bA 4 (cr W.next) V=some (fc v sv,V):=eh (bk g0) rfl;obtain⟨s,b1,b2⟩:=OX hV (n:=k) (by omega);have l1:Le V (V.add (.cells [])):=(Le.refl _).add _;obtain⟨V1,wL⟩:∃V1,V1=V.add (.cells []):=⟨_,rfl⟩;have bl:=WE V;rw[<-wL]at bl l1;have nn1:V1.next=V.next+1:=by rw[wL];rfl
 have c4':aK (.pointer (some ⟨W.next,4,none⟩)) V1=some (ev,V1):=eQ ((l1.get _ (by omega)).trans g0) rfl;obtain⟨q,V2,k1,u,M,rfl,k2,k3,k4,k5⟩:=JH (hV.a.az.1.mono l1) h.a.small h.a.rows;obtain⟨w,V3,j1,j2,j3⟩:=L8 (B:=V.next) aja nM Ow (b2.dq (l1.trans k2)) (by rw[dF];omega) (by omega);have n1:=k2.next;have n2:=j2.next;have x4:aK (.pointer (some ⟨W.next,4,none⟩)) V2=some (ev,V2):=eQ ((k2.get _ (by omega)).trans ((l1.get _ (by omega)).trans g0)) rfl;have x1:=(j2.get (W.next+1) (by omega)).trans ((k2.get (W.next+1) (by omega)).trans ((l1.get _ (by omega)).trans g1));obtain⟨U',p1,p2,p3⟩:=Gw (v:=v) (l:=l) (c:=0) (n:=(k:Int)) (u:=u) (w:=w) (M:=M) (a8.trans (l1.trans (k2.trans j2))) (by omega) x1 ((k3.mono j2).low (by omega)) (by rw[OZ];exact k4) (λx hx=>⟨(k5 x hx).1.mono j2,λd hd=>(k5 x hx).2 d (by omega)⟩) (by rw[ZQ];exact j3.low (by omega));rw[OZ]at p1 p2 p3;obtain⟨ua,uc,rfl⟩:=k3.slice;obtain⟨wa,wc,rfl⟩:=j3.slice;simp only[SX,bx,al,cB,q1,d2,aI,c4,Ic,d3];unfold i7;simp only[SX,aI,c0,bl,c4',b1,k1,x4,kE,h.vs,iM,j1,S1,p1,eT,IQ,ee p2,bp,am];exact p3
open Classical in
def Mp(x:de)(c d:Bool)(W:AW):aw Tryz.prog .neq 98 c d (AT x) (AT x) W=some (.bool false,W):=by rw[Z1,aS rfl];rfl
def LS{su ew:ae}(ha:eY W sv v.az)(hb:eY W su v.az)(hs:v.az.length<1000)(hr:∀s∈v.az,s.rows.length<1000)(ea:Hg W ev l)(eb:Hg W ew l)(hl:l.length<=10000):bm (.func (.func 19) #[] #[]) [pz v sv ev,pz v su ew] W=some (.bool true,W):=by
 refine bT rfl ?_ ES;unfold Cm;obtain⟨V,hV⟩:∃V,V=(W.add (.cells (qT v sv ev))).add (.cells (qT v su ew)):=⟨_,rfl⟩;have a8:Le W V:=by rw[hV];exact((Le.refl _).add _).add _
 have b1:=K3 v sv ev W;have b2:=K3 v su ew (W.add (.cells (qT v sv ev)));rw[AW.aG,<-hV]at b2;have g0:V.get W.next=some (.cells (qT v sv ev)):=by rw[hV,AW.br _ _ (by rw[AW.aG];omega)];exact AW.aT _ _
 have g1:V.get (W.next+1)=some (.cells (qT v su ew)):=by have:=AW.aT (W.add (.cells (qT v sv ev))) (.cells (qT v su ew));rw[AW.aG,<-hV]at this;exact this
 have v0:bA 4 (cr W.next) V=some (fc v sv,V):=eh (bk g0) rfl;have v1:bA 4 (cr (W.next+1)) V=some (fc v su,V):=eh (bk g1) rfl;have c0:aK (.pointer (some ⟨W.next,4,none⟩)) V=some (ev,V):=eQ g0 rfl;have c1:aK (.pointer (some ⟨W.next+1,4,none⟩)) V=some (ew,V):=eQ g1 rfl;have hv:=LF (ha.mono a8) (hb.mono a8) hs hr;have l1:∀W',aB Tryz.prog .len #[25] 3 #[false] [ev] W'=some (.af (l.length:Int),W'):=λW'=>Row.len ea qK W' 3 #[false]
 have l2:∀W',aB Tryz.prog .len #[25] 3 #[false] [ew] W'=some (.af (l.length:Int),W'):=λW'=>Row.len eb qK W' 3 #[false]
 have eqi:∀z:Int,decide (z=z)=true:=λz=>aS rfl
 have hea:=ea.mono a8;have heb:=eb.mono a8;simp only[SX,b1,b2,aI,v0,v1,hv,c0,c1,l1,l2];refine bY l.length (by omega) (λi R U=>U=V/\R 2=cr W.next/\R 3=cr (W.next+1)/\R 5=.af (i:Int)) (λr=>r.2.2=V/\r.1=.exit 0) ⟨rfl,rfl,rfl,rfl⟩ ?_ ?_ ?_
 ·rintro i R U hi ⟨hU,r2,r3,r5⟩;have hU:V=U:=hU.symm;subst hU;unfold qz;have t1:decide ((i:Int)<(l.length:Int))=true:=jr;have t2:=λW'=>cQ W' i 1
  have e3:((i+1:Nat):Int)=(i:Int)+1:=by omega
  obtain⟨p,p1,p2⟩:=Hg.get hea hi;obtain⟨p',p3,p4⟩:=Hg.get heb hi;simp only[SX,r2,r3,r5,aI,c0,c1,l1,t1,p1,p2 _ (.refl _),p3,p4 _ (.refl _),Mp,t2,am];exact .inl ⟨aA,aA,r2,r3,by rw[e3];rfl⟩
 ·rintro R U ⟨hU,r2,r3,r5⟩;have hU:V=U:=hU.symm;subst hU;unfold qz;have t1:decide ((l.length:Int)<(l.length:Int))=false:=dS;simp only[SX,r2,r5,aI,c0,l1,t1,am];exact⟨by simp,aA,aA⟩
 ·rintro⟨x,R,U⟩ ⟨hU,rfl⟩;simp only at hU;subst hU;simp only[SX,am];exact⟨aA,a8⟩
end
def yM(l:List Int):Int:=jm (l.map λn=>if 0<n/\n<=100 then n else 0)
def FD{l:List Int}{k:Nat}(hk:k<l.length):yM (l.take (k+1))=yM (l.take k)+(if 0<l[k]/\l[k]<=100 then l[k]else 0):=by unfold yM;rw[sq,cL hk,sP,mU,jd,mO,DT]
def Eg(l:List Int)(k:Nat):0<=yM (l.take k)/\yM (l.take k)<=100*k:=by
 induction k with
 |zero=>simp[yM,jm]
 |succ k ih=>
  by_cases hk:k<l.length
  ·rw[FD hk];split<;>omega
  ·rw[mX (show l.length<=k by omega)]at ih;rw[mX (show l.length<=k+1 by omega)];omega
def yJ(l:List jy):Int:=jm (l.map λs=>yM s.rows)
def JY{l:List jy}{k:Nat}(hk:k<l.length):yJ (l.take (k+1))=yJ (l.take k)+yM l[k].rows:=by unfold yJ;rw[sq,cL hk,sP,mU,jd,mO,DT]
def RX(l:List jy)(h:∀s∈l,s.rows.length<=20)(k:Nat):0<=yJ (l.take k)/\yJ (l.take k)<=2000*k:=by
 induction k with
 |zero=>simp[yJ,jm]
 |succ k ih=>
  by_cases hk:k<l.length
  ·rw[JY hk];have h1:=Eg l[k].rows l[k].rows.length;rw[dd]at h1;have:=h _ (fb hk);omega
  ·rw[mX (show l.length<=k by omega)]at ih;rw[mX (show l.length<=k+1 by omega)];omega
def S4:((#[22]:Array ai)[0]?).bind Tryz.prog.underlying=some (.slice 66):=by kernel_rfl
def ahm(v:cA):Prop:=v.az.length<=10/\(∀s∈v.az,s.rows.length<=20)/\yJ v.az<=200
def QT{v:cA}{sv:ae}{W:AW}(hs:eY W sv v.az):∃b,bm (.func (.func 20) #[] #[]) [fc v sv] W=some (.bool b,W)/\(b=false->ahm v):=by
 have oK:Ok (zK bm (fc v sv) W) λr=>∃b,r.1=.bool b/\Le W r.2/\(b=false->ahm v):=by
  unfold zK;obtain⟨W1,hB,a8,hn,c4,c0,c3⟩:=gF v sv W;have Bl:=hs.mono a8;have P1:=a8.next;have lh:∀(k:Nat) (W':AW),k<1000000->aw Tryz.prog .add 3 false true (.af (k:Int)) (.af 1) W'=some (.af ((k+1:Nat):Int),W'):=λk W' hk=>da (by omega) (by omega)
  simp only[SX,hB,c3 _ (.refl _),Bl.len S4];by_cases t0:10<(v.az.length:Int)
  ·simp only[SX,aS t0,am];exact⟨_,rfl,a8,λhb=>by cases hb⟩
  simp only[SX,bq t0];have hl:v.az.length<=10:=by omega
  refine bY v.az.length (by omega) (λi R W'=>Le W1 W'/\R 1=.pointer (some ⟨W.next,0,none⟩)/\R 3=.af (yJ (v.az.take i))/\R 4=.af (i:Int)/\∀j (h:j<v.az.length),j<i->v.az[j].rows.length<=20)
   (λr=>Le W1 r.2.2/\((r.1=.exit 0/\r.2.1 3=.af (yJ v.az)/\∀s∈v.az,s.rows.length<=20)\/(r.1=.ret/\r.2.1 2=.bool true))) ⟨.refl _,rfl,rfl,rfl,λj h hj=>by omega⟩ ?_ ?_ ?_
  ·rintro i R W' hi ⟨JG,f1,f3,f4,hj⟩;unfold rY;have e1:((i:Int)<(v.az.length:Int)):=by omega
   obtain⟨b,o,rv,p1,p2,p3,p4,p5,-⟩:=Bl.get hi;have hlw:=JG.next;have Q9:aL (W'.add (.cells [.string (aM v.az[i].name),rv,.af v.az[i].q])) W'.next=some [.string (aM v.az[i].name),rv,.af v.az[i].q]:=bE;simp only[SX,f1,f4,aI,c3 _ JG,Bl.len S4,e1,p1,p3 _ JG,Qc,UL cg (jH _) (Row.one p2) (kA _ _),dZ];have l2:Le W1 (W'.add (.cells [.string (aM v.az[i].name),rv,.af v.az[i].q])):=JG.add _;have n2:(W'.add (.cells [.string (aM v.az[i].name),rv,.af v.az[i].q])).next=W'.next+1:=AW.aG _ _;generalize Fx:W'.add (.cells [.string (aM v.az[i].name),rv,.af v.az[i].q])=W2 at *;have d0:∀W3,Le W2 W3->aK (.pointer (some ⟨W'.next,0,none⟩)) W3=some (.string (aM v.az[i].name),W3):=λW3 h3=>df (by rw[h3.aL (by omega)];exact Q9) rfl
   have d1:∀W3,Le W2 W3->aK (.pointer (some ⟨W'.next,1,none⟩)) W3=some (rv,W3):=λW3 h3=>df (by rw[h3.aL (by omega)];exact Q9) rfl
   simp only[SX,d1 _ (.refl _),p2.len rt];by_cases t1:20<(v.az[i].rows.length:Int)
   ·simp only[SX,aS t1,am];exact .inr ⟨by simp,l2,.inr ⟨aA,rfl⟩⟩
   simp only[SX,bq t1,d0 _ (.refl _),eO qh];by_cases t2:100<(v.az[i].name.length:Int)
   ·simp only[SX,aS t2,am];exact .inr ⟨by simp,l2,.inr ⟨aA,rfl⟩⟩
   simp only[SX,bq t2];have ank:∀s∈v.az.take i,s.rows.length<=20:=λs hs=>by obtain⟨j,hj2,rfl⟩:=vk hs;rw[dF]at hj2;rw[List.getElem_take];exact hj j (by omega) (by omega)
   have Ev:=RX (v.az.take i) ank i;rw[uY,Nat.min_self]at Ev;refine bY v.az[i].rows.length (by omega) (λk R X=>X=W2/\R 1=.pointer (some ⟨W.next,0,none⟩)/\R 3=.af (yJ (v.az.take i)+yM (v.az[i].rows.take k))/\R 4=.af (i:Int)/\R 5=.pointer (some ⟨W'.next,0,none⟩)/\R 6=.af (k:Int))
    (λr=>r.2.2=W2/\r.1=.exit 2/\r.2.1 1=.pointer (some ⟨W.next,0,none⟩)/\r.2.1 3=.af (yJ (v.az.take i)+yM v.az[i].rows)/\r.2.1 4=.af (i:Int)) ⟨rfl,f1,by rw[show yM (v.az[i].rows.take 0)=0 from rfl,mj];exact f3,f4,rfl,rfl⟩ ?_ ?_ ?_
   ·rintro k R W3 hk ⟨rfl,g1,g3,g4,g5,g6⟩;unfold m0;have e2:((k:Int)<(v.az[i].rows.length:Int)):=by omega
    obtain⟨p,q1,q2⟩:=p2.get hk;have hkb:=Eg v.az[i].rows k;have ht:=FD hk;simp only[SX,g3,g5,g6,aI,d1 _ (.refl _),p2.len rt,e2,q1,q2 _ l2];by_cases t3:0<v.az[i].rows[k];case neg=>rw[b8,mj]at ht;simp only[SX,bq t3,lh k _ (by omega),am];exact .inl ⟨aA,aA,g1,by rw[ht];exact g3,g4,g5,rfl⟩
    simp only[SX,aS t3,d1 _ (.refl _),q1,q2 _ l2];by_cases t4:v.az[i].rows[k]<=100;case neg=>rw[b8,mj]at ht;simp only[SX,bq t4,lh k _ (by omega),am];exact .inl ⟨aA,aA,g1,by rw[ht];exact g3,g4,g5,rfl⟩
    rw[ax ⟨t3,t4⟩]at ht;have ea:∀W',aw Tryz.prog .add 3 false false (.af (yJ (v.az.take i)+yM (v.az[i].rows.take k))) (.af v.az[i].rows[k]) W'=some (.af (yJ (v.az.take i)+yM (v.az[i].rows.take k)+v.az[i].rows[k]),W'):=λW'=>da (by omega) (by omega)
    simp only[SX,aS t4,ea,lh k _ (by omega),am];exact .inl ⟨aA,aA,g1,by rw[ht,<-wY];rfl,g4,g5,rfl⟩
   ·rintro R W3 ⟨rfl,g1,g3,g4,g5,g6⟩;unfold m0;have e2:¬((v.az[i].rows.length:Int)<(v.az[i].rows.length:Int)):=by omega
    rw[dd]at g3;simp only[SX,g5,g6,aI,d1 _ (.refl _),p2.len rt,e2,am];exact⟨by simp,aA,aA,g1,g3,g4⟩
   ·rintro⟨x,R,W3⟩ ⟨hW,hx,g1,g3,g4⟩;simp only at hW hx g1 g3 g4;subst hW hx;simp only[SX,g4,lh i _ (by omega),am];refine .inl ⟨aA,l2,g1,by rw[JY hi];exact g3,rfl,λj h hji=>?_⟩;by_cases alp:j<i
    ·exact hj j h alp
    ·obtain rfl:j=i:=by omega
     omega
  ·rintro R W' ⟨JG,f1,f3,f4,hj⟩;unfold rY;have e1:¬((v.az.length:Int)<(v.az.length:Int)):=by omega
   rw[dd]at f3;simp only[SX,f1,f4,aI,c3 _ JG,Bl.len S4,e1,am];exact⟨by simp,JG,.inl ⟨aA,f3,λs hs=>by obtain⟨j,hj2,rfl⟩:=vk hs;exact hj j hj2 hj2⟩⟩
  ·rintro⟨x,R,W'⟩ ⟨JG,hq⟩;simp only at JG hq;rcases hq with⟨rfl,f3,hj⟩|⟨rfl,f2⟩
   ·simp only[SX,f3,am];exact⟨_,rfl,a8.trans JG,λhb=>⟨hl,hj,by have:=of_decide_eq_false hb;omega⟩⟩
   ·simp only[SX,f2,am];exact⟨_,rfl,a8.trans JG,λhb=>by cases hb⟩
 obtain⟨⟨r,W'⟩,h1,b,h2,h3,h4⟩:=oK;simp only at h2 h3;subst h2;exact⟨b,by rw[HY h1,wS h3],h4⟩
def Yz(a b:Int)(W:AW):aB Tryz.prog .min #[3,3] 3 #[false,true] [.af a,.af b] W=some (.af (min a b),W):=by
 have e:aB Tryz.prog .min #[3,3] 3 #[false,true] [.af a,.af b] W=(j8 Tryz.prog ([Value.int .i64 a,.af b].all bC) (builtin .min #[3,3] 3 #[false,true] #[.af a,.af b])).map λv=>(v,W):=by unfold aB;rfl
 rw[e];have e2:builtin .min #[3,3] 3 #[false,true] #[.af a,.af b]=(do pure (.value (<-Builtin.min_ #[3,3] 3 #[.af a,.af b]))):=rfl;rw[e2];refine DM ?_ rfl _ rfl;unfold Builtin.min_;simp only[List.foldlM_cons,List.foldlM_nil,fq,Builtin.min2,fW,bp];congr 2;by_cases h:b<a
 ·rw[ax h];omega
 ·rw[ay h];omega
def YH(a b:Int)(W:AW):aB Tryz.prog .max #[3,3] 3 #[true,false] [.af a,.af b] W=some (.af (max a b),W):=by
 have e:aB Tryz.prog .max #[3,3] 3 #[true,false] [.af a,.af b] W=(j8 Tryz.prog ([Value.int .i64 a,.af b].all bC) (builtin .max #[3,3] 3 #[true,false] #[.af a,.af b])).map λv=>(v,W):=by unfold aB;rfl
 rw[e];have e2:builtin .max #[3,3] 3 #[true,false] #[.af a,.af b]=(do pure (.value (<-Builtin.max_ #[3,3] 3 #[.af a,.af b]))):=rfl;rw[e2];refine DM ?_ rfl _ rfl;unfold Builtin.max_;simp only[List.foldlM_cons,List.foldlM_nil,fq,Builtin.max2,fW,bp];congr 2;by_cases h:a<b
 ·rw[ax h];omega
 ·rw[ay h];omega
def D2{K:LT->Option (ae×AW)}{Q:ae×AW->Prop}{V:AW}{b:Nat}{v:cA}{sv:ae}{R0:Nat->ae}(hs:eY V sv v.az)(n1:v.az.length<=10)(n2:∀s∈v.az,s.rows.length<=20)(c3:aK (.pointer (some ⟨b,3,none⟩)) V=some (sv,V))(r1:R0 1=cr b)(r3:R0 3=.af 0)(r4:R0 4=.af 0)
 (hK:∀R z,R 3=.af z->Ok (K (.exit 0,R,V)) Q):Ok (ah (cW (nu bm) R0 V) K) Q:=by
 refine bY v.az.length (by omega) (λi R W'=>W'=V/\R 1=cr b/\(∃z:Int,R 3=.af z/\0<=z/\z<=2000*i)/\R 4=.af (i:Int))
  (λr=>r.2.2=V/\r.1=.exit 0/\∃z,r.2.1 3=.af z) ⟨rfl,r1,⟨0,r3,by omega,by omega⟩,r4⟩ ?_ ?_ ?_
 ·rintro i R W' hi ⟨rfl,f1,⟨z,f3,z1,z2⟩,f4⟩;unfold nu;have e1:decide ((i:Int)<(v.az.length:Int))=true:=jr;obtain⟨bb,o,rv,p1,p2,p3,p4,p5,-⟩:=hs.get hi;have p5':=p5 W' (.refl _);have h20:=n2 _ (fb hi);have t2:=λW'=>cQ W' i 1
  have e3:((i+1:Nat):Int)=(i:Int)+1:=by omega
  simp only[SX,f1,f4,aI,c3,hs.len S4,e1];refine bY v.az[i].rows.length (by omega) (λk R X=>X=W'/\R 1=cr b/\(∃z:Int,R 3=.af z/\0<=z/\z<=2000*i+100*k)/\R 4=.af (i:Int)/\R 5=.af (k:Int))
   (λr=>r.2.2=W'/\r.1=.exit 2/\r.2.1 1=cr b/\(∃z:Int,r.2.1 3=.af z/\0<=z/\z<=2000*((i:Int)+1))/\r.2.1 4=.af (i:Int)) ⟨rfl,f1,⟨z,f3,z1,by omega⟩,f4,rfl⟩ ?_ ?_ ?_
  ·rintro k R W3 hk ⟨rfl,g1,⟨y,g3,y1,y2⟩,g4,g5⟩;unfold nf;have e2:decide ((k:Int)<(v.az[i].rows.length:Int))=true:=jr;obtain⟨p,q1,q2⟩:=p2.get hk;have m1:=Yz v.az[i].rows[k] 100;have m2:=YH 0 (min v.az[i].rows[k] 100);obtain⟨mm,hmm⟩:∃mm,mm=max 0 (min v.az[i].rows[k] 100):=⟨_,rfl⟩;have hm1:0<=mm/\mm<=100:=by omega
   rw[<-hmm]at m2;have ea:=λW'=>ud W' y mm
   have ec:=λW'=>cQ W' k 1
   simp only[SX,g1,g3,g4,g5,aI,c3,p1,p5',p2.len rt,e2,q1,q2 _ (.refl _),m1,m2,ea,ec,am];exact .inl ⟨aA,aA,g1,⟨_,rfl,by omega,by omega⟩,g4,by rw[show((k+1:Nat):Int)=(k:Int)+1 by omega];rfl⟩
  ·rintro R W3 ⟨rfl,g1,⟨y,g3,y1,y2⟩,g4,g5⟩;unfold nf;have e2:decide ((v.az[i].rows.length:Int)<(v.az[i].rows.length:Int))=false:=dS;simp only[SX,g1,g4,g5,aI,c3,p1,p5',p2.len rt,e2,am];exact⟨by simp,aA,aA,g1,⟨_,g3,by omega,by omega⟩,g4⟩
  ·rintro⟨x,R,W3⟩ ⟨rfl,rfl,g1,⟨y,g3,y1,y2⟩,g4⟩;have g1:R 1=cr b:=g1;have g3:R 3=.af y:=g3;have g4:R 4=.af (i:Int):=g4;simp only[SX,g4,t2,am];exact .inl ⟨aA,aA,g1,⟨y,g3,by omega,by omega⟩,by rw[e3];rfl⟩
 ·rintro R W' ⟨rfl,f1,⟨z,f3,z1,z2⟩,f4⟩;unfold nu;have e1:decide ((v.az.length:Int)<(v.az.length:Int))=false:=dS;simp only[SX,f1,f4,aI,c3,hs.len S4,e1,am];exact⟨by simp,aA,aA,z,f3⟩
 ·rintro⟨x,R,W'⟩ ⟨rfl,rfl,z,f3⟩;exact hK R z f3
def Sh{W:AW}{v:cA}{sv ev:ae}{l:List de}(hs:fJ W sv v.az)(he:Hg W ev l):∃c:Bool,bm (.func (.func 6) #[] #[]) [pz v sv ev] W=some (.bool c,W)/\(c=false->KK W v sv ev l):=by
 have oK:Ok (zm bm (pz v sv ev) W) λr=>∃c:Bool,r.1=.bool c/\Le W r.2/\(c=false->KK W v sv ev l):=by
  unfold zm;obtain⟨V,bx,a8,nV,g0⟩:=qq v sv ev W;have h1:=hs.mono a8;have l4:bA 4 (cr W.next) V=some (fc v sv,V):=eh (bk g0) rfl;have c3:aK (.pointer (some ⟨W.next,3,none⟩)) V=some (sv,V):=eQ g0 rfl;have c4:aK (.pointer (some ⟨W.next,4,none⟩)) V=some (ev,V):=eQ g0 rfl;have ln:∀W',aB Tryz.prog .len #[25] 3 #[false] [ev] W'=some (.af (l.length:Int),W'):=λW'=>Row.len he qK W' 3 #[false]
  obtain⟨b,f1,f2⟩:=QT h1.1;cases b with
  |true=>simp only[SX,bx,aI,l4,f1,wu2,am];exact⟨_,rfl,a8,λe=>by cases e⟩
  |false=>
  obtain⟨n1,n2,-⟩:=f2 rfl;have hR:KK W v sv ev l:=⟨hs,by omega,λs hm=>by have:=n2 s hm;omega,he⟩;cases d1:decide ((200:Int)<(l.length:Int))with
  |true=>
   cases d2:decide ((l.length:Int)<=2000)with
   |true=>simp only[SX,bx,aI,l4,f1,c4,ln,d1,d2,am];exact⟨_,rfl,a8,λ_=>hR⟩
   |false=>
    cases d3:decide ((2010:Int)<(l.length:Int))with
    |true=>simp only[SX,bx,aI,l4,f1,c4,ln,d1,d2,d3,am];exact⟨_,rfl,a8,λ_=>hR⟩
    |false=>
     simp only[SX,bx,aI,l4,f1,c4,ln,d1,d2,d3];refine D2 h1.1 n1 n2 c3 rfl rfl rfl λR z hz=>?_
     simp only[SX,hz,am];exact⟨_,rfl,a8,λ_=>hR⟩
  |false=>
   cases d3:decide ((2010:Int)<(l.length:Int))with
   |true=>simp only[SX,bx,aI,l4,f1,c4,ln,d1,d3,am];exact⟨_,rfl,a8,λ_=>hR⟩
   |false=>
    simp only[SX,bx,aI,l4,f1,c4,ln,d1,d3];refine D2 h1.1 n1 n2 c3 rfl rfl rfl λR z hz=>?_
    simp only[SX,hz,am];exact⟨_,rfl,a8,λ_=>hR⟩
 obtain⟨⟨q,W'⟩,h1,c,h2,h3,h4⟩:=oK;simp only at h2;subst h2;exact⟨c,bT rfl ⟨_,h1,rfl,h3⟩ Gv,h4⟩
abbrev GtR(W:AW)(v:ae)(l:List EE):Prop:=Row W 5 (jD 5 Ik) v l
def pr(y:EE):(Ik y).length=5:=rfl
def NS(y:EE):(Ik y).all Eng.one=true:=rfl
def aam:((#[56]:Array ai)[0]?).bind Tryz.prog.underlying=some (.slice 60):=by kernel_rfl
def ag2:iR Tryz.prog #[56,56] 5 40=true:=by kernel_rfl
def agW(y:EE)(W:AW):aD Tryz.prog 56 1 [(0,Lv y)] W=some (.slice (some ⟨W.next,0,none⟩) 1 1,W.add (.cells (Ik y))):=aJ (by kernel_rfl) rfl
def Lf(l:List de):List EE:=(l.filter λx=>decide (x.k=6)).map λx=>x.en
def IC{l:List de}{i:Nat}{x:de}(h:l[i]? =some x):Lf (l.take (i+1))=if x.k=6 then Lf (l.take i)++[x.en]else Lf (l.take i):=by
 unfold Lf;rw[sq,h,sP,B6,mU];by_cases c:x.k=6
 ·rw[ax c];simp[c]
 ·rw[ay c];simp[c]
def M3(l:List de):(Lf l).length<=l.length:=by unfold Lf;rw[gR];exact List.length_filter_le _ _
structure OT {α:Type} (V U:AW) (z:Nat) (f:α->List ae) (m:List α) (cv:ae):Prop where
 le:Le V U
 c:∃bo,nA U z f cv m bo/\∀B,bo=some B->V.next<=B
section
variable {α:Type} {V U U':AW} {z:Nat} {f:α->List ae} {m:List α} {cv:ae}
def OT.mono(h:OT V U z f m cv)(a8:Le U U'):OT V U' z f m cv:=by obtain⟨bo,h1,h2⟩:=h.c;exact⟨h.le.trans a8,bo,h1.dq a8.next λB hB=>a8.get B (h1.lt hB),h2⟩
def OT.push{ts:Array ai}{bytes:Nat}(h:OT V U z f m cv)(a:α)(hk:iR Tryz.prog ts z bytes=true)(hf:∀a,(f a).length=z)(h1:∀a,(f a).all Eng.one=true)(hm:m.length<=10000)(hb:bytes<=1000):
 ∃lN U2,aN Tryz.prog (U.add (.cells (f a))) ts cv (.slice (some ⟨U.next,0,none⟩) 1 1)=some (lN,U2)/\OT V U2 z f (m++[a]) lN:=by
 obtain⟨bo,h3,h4⟩:=h.c;have hn:=h.le.next;have hmm:(2*(m.length+1)+192)*bytes<=(2*(10000+1)+192)*1000:=Nat.mul_le_mul (by omega) hb;obtain⟨lN,U2,a1,a2,a3,a4⟩:=Oi a hk hf h1 h3 (by omega) (by omega);exact⟨lN,U2,a1,⟨by omega,λb hb=>(a4 b (by omega) (λe=>by have:=h4 _ e;omega)).trans (h.le.get b hb)⟩,_,a2,λB hB=>by injection hB with hB;omega⟩
def OT.nil(V:AW)(z:Nat)(f:α->List ae):OT V V z f [] (.slice none 0 0):=⟨.refl _,none,.inl ⟨rfl,rfl,rfl⟩,λB hB=>by cases hB⟩
end
section
variable {W V:AW} {v:cA} {sv ev:ae} {l:List de}
def Rv(hG:GW W)(h:KK W v sv ev l):∃(a e:Int) (u:ae) (W':AW),qW v l a e/\bm (.func (.func 16) #[] #[]) [pz v sv ev] W=some (.tuple #[u,.af e],W')/\Le W W'/\GtR W' u (if e=0 then Lf l else []):=by
 obtain⟨V,bx,a8,nV,g0⟩:=qq v sv ev W;have hV:=h.mono a8;obtain⟨a,e,hA,q1⟩:=tv (hG.mono a8) hV;suffices hs:∃(u:ae) (W':AW),bm (.func (.func 16) #[] #[]) [pz v sv ev] W=some (.tuple #[u,.af e],W')/\Le W W'/\GtR W' u (if e=0 then Lf l else [])by obtain⟨u,W',h1⟩:=hs;exact⟨a,e,u,W',hA,h1⟩
 refine pZ ?_ xh;unfold uD;have cB:=ee g0;have c4:aK (.pointer (some ⟨W.next,4,none⟩)) V=some (ev,V):=eQ g0 rfl;by_cases he:e=0;case neg=>have d:=bq he;simp only[SX,bx,cB,q1,d,ay he,am];exact⟨_,rfl,a8,Row.nil⟩
 subst he;have d:decide ((0:Int)=0)=true:=rfl;have hl:=hA.E9.2.2.1;have Ic:∀W',aB Tryz.prog .len #[25] 3 #[false] [ev] W'=some (.af (l.length:Int),W'):=λW'=>Row.len hV.GD qK W' 3 #[false]
 simp only[SX,bx,cB,q1,aI,c4,Ic,bh];refine bY l.length (by omega) (λi R U=>R 18=ev/\R 19=.af (l.length:Int)/\R 20=.af (i:Int)/\∃cv,R 6=cv/\OT V U 5 Ik (Lf (l.take i)) cv)
  (λr=>r.1=.exit 0/\∃cv,r.2.1 6=cv/\OT V r.2.2 5 Ik (Lf l) cv) ⟨rfl,rfl,rfl,_,rfl,OT.nil _ _ _⟩ ?_ ?_ ?_
 ·rintro i R U hi ⟨cd,bO,bW,cv,r6,hI⟩;unfold kv;have t1:decide ((i:Int)<(l.length:Int))=true:=jr;have t2:=λW'=>cQ W' i 1
  have e3:((i+1:Nat):Int)=(i:Int)+1:=by omega
  obtain⟨p,p1,p2⟩:=hV.GD.get hi;have hx:l[i]? =some l[i]:=cL hi;have Ii:=p2 U hI.le;generalize l[i]=x at Ii hx;obtain⟨U1,b0,b1,b2,b3,hb⟩:=Mg x U;have lx:=pa hb;have le:=DV hb;have hs:=IC hx;by_cases h6:x.k=6
  ·have e6:=aS h6;rw[ax h6]at hs;obtain⟨lN,U2,a1,a2⟩:=(hI.mono b3).push x.en ag2 pr NS (by have:=M3 (l.take i);rw[dF]at this;omega) (by omega);simp only[SX,cd,bO,bW,r6,t1,p1,Ii,b1,b2,aI,lx,e6,le,agW,a1,t2,am];exact .inl ⟨aA,cd,bO,by rw[e3];rfl,_,rfl,by rw[hs];exact a2⟩
  ·have e6:=bq h6;rw[ay h6]at hs;simp only[SX,cd,bO,bW,r6,t1,p1,Ii,b1,b2,aI,lx,e6,t2,am];exact .inl ⟨aA,cd,bO,by rw[e3];rfl,_,r6,by rw[hs];exact hI.mono b3⟩
 ·rintro R U ⟨cd,bO,bW,cv,r6,hI⟩;unfold kv;have t1:decide ((l.length:Int)<(l.length:Int))=false:=dS;rw[dd]at hI;simp only[SX,bO,bW,t1,am];exact⟨by simp,aA,cv,r6,hI⟩
 ·rintro⟨q,R,U⟩ ⟨rfl,cv,r6,hI⟩;obtain⟨bo,h3,h4⟩:=hI.c;have r6':R 6=cv:=r6;simp only[SX,r6',am];exact⟨_,rfl,a8.trans hI.le,h3.YA.el.row pr (jT pr)⟩
def Qy(h:KK W v sv ev l):∃(a e:Int) (u:ae) (W':AW),qW v l a e/\bm (.func (.func 17) #[] #[]) [pz v sv ev] W=some (.tuple #[u,.af e],W')/\Le W W'/\GtR W' u (if e=0 then Lf l else []):=by
 obtain⟨V,bx,a8,nV,g0⟩:=qq v sv ev W;have hV:=h.mono a8;obtain⟨a,e,hA,q1⟩:=FQ hV;suffices hs:∃(u:ae) (W':AW),bm (.func (.func 17) #[] #[]) [pz v sv ev] W=some (.tuple #[u,.af e],W')/\Le W W'/\GtR W' u (if e=0 then Lf l else [])by obtain⟨u,W',h1⟩:=hs;exact⟨a,e,u,W',hA,h1⟩
 refine pZ ?_ zE;unfold vO;have cB:=ee g0;by_cases he:e=0;case neg=>have d:=bq he;simp only[SX,bx,cB,q1,d,ay he,am];exact⟨_,rfl,a8,Row.nil⟩
 subst he;have d:decide ((0:Int)=0)=true:=rfl;have hl:=hA.E9.2.2.1;have Ic:∀W',aB Tryz.prog .len #[25] 3 #[false] [ev] W'=some (.af (l.length:Int),W'):=λW'=>Row.len hV.GD qK W' 3 #[false]
 simp only[SX,bx,cB,q1,bh];refine bY l.length (by omega) (λi R U=>R 1=cr W.next/\R 7=.af (i:Int)/\∃cv,R 6=cv/\OT V U 5 Ik (Lf (l.take i)) cv)
  (λr=>r.1=.exit 0/\∃cv,r.2.1 6=cv/\OT V r.2.2 5 Ik (Lf l) cv) ⟨rfl,rfl,_,rfl,OT.nil _ _ _⟩ ?_ ?_ ?_
 ·rintro i R U hi ⟨r1,r7,cv,r6,hI⟩;unfold lQ;have t1:decide ((i:Int)<(l.length:Int))=true:=jr;have t2:=λW'=>cQ W' i 1
  have e3:((i+1:Nat):Int)=(i:Int)+1:=by omega
  have c4:aK (.pointer (some ⟨W.next,4,none⟩)) U=some (ev,U):=eQ ((hI.le.get _ (by omega)).trans g0) rfl;obtain⟨b,o,p1,-,p2⟩:=lP nM hV.GD hi;obtain⟨b',o',p3,p4⟩:∃b o,(∀W' k,gn 31 ev (.int k (i:Int)) W'=some (.pointer (some ⟨b,o,none⟩),W'))/\∀W',Le V W'->bA 5 (.pointer (some ⟨b,o+26,none⟩)) W'=some (Lv l[i].en,W'):=by
   obtain⟨b,o,cs,h1,h2,h3,h4⟩:=hV.GD.elem hi;have e0:(cs.drop o).take 31=fe l[i]:=h4;refine⟨b,o,h1,λW' a8=>?_⟩;have e2:(cs.drop (o+26)).take 5=Ik l[i].en:=by
    have:((cs.drop o).take 31).drop 26=(cs.drop (o+26)).take 5:=by rw[xd,nL]
    rw[<-this,e0];rfl
   have:=eh (n:=5) (o:=o+26) (W:=W') (by rw[a8.aL h2];exact h3) (by rw[e2];rfl);rw[e2]at this;exact this
  obtain⟨rfl,rfl⟩:b=b'/\o=o':=by have h1:=p1 U .i64;rw[p3]at h1;injection h1 with h1;injection h1 with h1;injection h1 with h1;injection h1 with h1;injection h1 with h1 h2;exact⟨h1.symm,h2.symm⟩
  have hx:l[i]? =some l[i]:=cL hi;have lk:=p2 0 _ rfl U hI.le;rw[cC]at lk;have len:=p4 U hI.le;generalize l[i]=x at lk len hx;have hs:=IC hx;by_cases h6:x.k=6
  ·have e6:=aS h6;rw[ax h6]at hs;obtain⟨lN,U2,a1,a2⟩:=hI.push x.en ag2 pr NS (by have:=M3 (l.take i);rw[dF]at this;omega) (by omega);simp only[SX,r1,r7,r6,aI,cC,c4,Ic,t1,p1,lk,e6,len,agW,a1,t2,am];exact .inl ⟨aA,r1,by rw[e3];rfl,_,rfl,by rw[hs];exact a2⟩
  ·have e6:=bq h6;rw[ay h6]at hs;simp only[SX,r1,r7,r6,aI,cC,c4,Ic,t1,p1,lk,e6,t2,am];exact .inl ⟨aA,r1,by rw[e3];rfl,_,r6,by rw[hs];exact hI⟩
 ·rintro R U ⟨r1,r7,cv,r6,hI⟩;unfold lQ;have t1:decide ((l.length:Int)<(l.length:Int))=false:=dS;have c4:aK (.pointer (some ⟨W.next,4,none⟩)) U=some (ev,U):=eQ ((hI.le.get _ (by omega)).trans g0) rfl;rw[dd]at hI;simp only[SX,r1,r7,aI,c4,Ic,t1,am];exact⟨by simp,aA,cv,r6,hI⟩
 ·rintro⟨q,R,U⟩ ⟨rfl,cv,r6,hI⟩;obtain⟨bo,h3,h4⟩:=hI.c;have r6':R 6=cv:=r6;simp only[SX,r6',am];exact⟨_,rfl,a8.trans hI.le,h3.YA.el.row pr (jT pr)⟩
open Classical in
def Md(x:EE)(c d:Bool)(W:AW):aw Tryz.prog .neq 60 c d (Lv x) (Lv x) W=some (.bool false,W):=by rw[aak,aS rfl];rfl
def Kt{W:AW}{v:cA}{sv ev:ae}{l:List de}(hG:GW W)(hs:fJ W sv v.az)(he:Hg W ev l)(o5:∃a c,ev=.slice a l.length c/\l.length<=c/\c<gU/\(a=none\/∃b o,a=some ⟨b,o,none⟩))(k n:Int):bm (.func (.func 5) #[] #[]) [pz v sv ev,.af k,.af n] W=some (.bool true,W):=by
 refine bT rfl ?_ tS;unfold pI;obtain⟨V,bx,a8,nV,g0⟩:=qq v sv ev W;have cB:=ee g0;obtain⟨c,hf,hc⟩:=Sh (hs.mono a8) (he.mono a8);cases c with
 |true=>have sh:=Jq (hG.mono a8);simp only[SX,bx,cB,hf,sh,am];exact⟨aA,a8⟩
 |false=>
 have hV:=hc rfl;have hK:Yc V v sv ev l:=⟨hV,o5⟩;have cBU:∀{U},Le V U->bA 5 (cr W.next) U=some (pz v sv ev,U):=λhu=>ee ((hu.get _ (by omega)).trans g0)
 obtain⟨a,e,u1,W1,A1,q1,l1,s1⟩:=Ln (hG.mono a8) hV k;obtain⟨a2,e2,u2,W2,A2,q2,l2,s2⟩:=Mn (hV.mono l1) k;obtain⟨rfl,rfl⟩:=A1.Xp A2;have L2:=l1.trans l2;have pf:(if pS v e k=0 then IM k l else []).length<=2000:=by
  split
  ·rename_i h0;have:=Hv l k;have he0:e=0:=by
    unfold pS at h0;split at h0
    ·assumption
    ·exact h0
   subst he0;have:=A1.E9.2.2.1;omega
  ·simp
 have sp:=Uy (s1.mono l2) s2 pf;obtain⟨a3,e3,u3,W3,A3,q3,l3,s3⟩:=Rv (hG.mono (a8.trans L2)) (hV.mono L2);obtain⟨rfl,rfl⟩:=A1.Xp A3;have L3:=L2.trans l3;obtain⟨a4,e4,u4,W4,A4,q4,l4,s4⟩:=Qy (hV.mono L3);obtain⟨rfl,rfl⟩:=A1.Xp A4;have L4:=L3.trans l4;have eqi:∀z:Int,decide (z=z)=true:=λz=>aS rfl
 have s3':=s3.mono l4;have hen:(if e=0 then Lf l else []).length<=2000:=by
  split
  ·rename_i h0;subst h0;have:=A1.E9.2.2.1;have:=M3 l;omega
  ·simp
 generalize(if e=0 then Lf l else [])=m at s3' s4 hen s3;have ln3:∀W',aB Tryz.prog .len #[56] 3 #[false] [u3] W'=some (.af (m.length:Int),W'):=λW'=>Row.len s3' aam W' 3 #[false]
 have ln4:∀W',aB Tryz.prog .len #[56] 3 #[false] [u4] W'=some (.af (m.length:Int),W'):=λW'=>Row.len s4 aam W' 3 #[false]
 simp only[SX,bx,cB,hf,q1,cBU l1,q2,sp,cBU L2,q3,cBU L3,q4,ln3,ln4];refine bY m.length (by omega) (λi R U=>U=W4/\R 2=.af n/\R 3=cr W.next/\R 11=u3/\R 12=u4/\R 13=.af (i:Int)) (λr=>r.2.2=W4/\r.1=.exit 0/\r.2.1 2=.af n/\r.2.1 3=cr W.next) ⟨rfl,rfl,rfl,rfl,rfl,rfl⟩ ?_ ?_ ?_
 ·rintro i R U hi ⟨hU,r2,r3,bB,bQ,bS⟩;have hU:W4=U:=hU.symm;subst hU;unfold iN;have t1:decide ((i:Int)<(m.length:Int))=true:=jr;have t2:=λW'=>cQ W' i 1
  have e3:((i+1:Nat):Int)=(i:Int)+1:=by omega
  obtain⟨b1,o1,p1,p2,-⟩:=lP pr s3' hi;obtain⟨b2,o2,p3,p4,-⟩:=lP pr s4 hi;simp only[SX,bB,bQ,bS,ln3,t1,p1,p2 _ (.refl _),p3,p4 _ (.refl _),Md,t2,am];exact .inl ⟨aA,aA,r2,r3,bB,bQ,by rw[e3];rfl⟩
 ·rintro R U ⟨hU,r2,r3,bB,bQ,bS⟩;have hU:W4=U:=hU.symm;subst hU;unfold iN;have t1:decide ((m.length:Int)<(m.length:Int))=false:=dS;simp only[SX,bB,bS,ln3,t1,am];exact⟨by simp,aA,aA,r2,r3⟩
 ·rintro⟨x,R,U⟩ ⟨hU,rfl,r2,r3⟩;simp only at hU r2 r3;subst hU;obtain⟨a5,e5,q,W5,A5,q5,u5,w5,M5,rfl,l5,c1,c2,c3,c4⟩:=Qr (hG.mono (a8.trans L4)) (hK.mono L4) n;obtain⟨rfl,rfl⟩:=A1.Xp A5;obtain⟨U5,Lk⟩:∃U5,U5=W5.add (.cells (qT (qx v (sL e n l.length)) u5 w5)):=⟨_,rfl⟩;have m5:Le W5 U5:=by rw[Lk];exact(Le.refl _).add _
  have al5:=WO W5;have pt5:=Wp (v:=qx v (sL e n l.length)) (AW.aT W5 (.cells (qT eZ bc bc))) (sE c1) (sE c4);rw[gt,<-Lk]at pt5;have g5:U5.get W5.next=some (.cells (qT (qx v (sL e n l.length)) u5 w5)):=by rw[Lk];exact AW.aT _ _
  have n5:U5.next=W5.next+1:=by rw[Lk];rfl
  have L5:=L4.trans (l5.trans m5);obtain⟨a6,e6,q,W6,A6,q6,u6,w6,M6,rfl,l6,d1,d2,d3,d4⟩:=RK (hK.mono L5) n;obtain⟨rfl,rfl⟩:=A1.Xp A6;obtain⟨U6,X4⟩:∃U6,U6=W6.add (.cells (qT (qx v (sL e n l.length)) u6 w6)):=⟨_,rfl⟩;have m6:Le W6 U6:=by rw[X4];exact(Le.refl _).add _
  have al6:=WO W6;have pt6:=Wp (v:=qx v (sL e n l.length)) (AW.aT W6 (.cells (qT eZ bc bc))) (sE d1) (sE d4);rw[gt,<-X4]at pt6;have g6:U6.get W6.next=some (.cells (qT (qx v (sL e n l.length)) u6 w6)):=by rw[X4];exact AW.aT _ _
  have g56:=(m6.get _ (by have:=l6.next;omega)).trans ((l6.get W5.next (by omega)).trans g5);have L6:=L5.trans (l6.trans m6);have k5:Le W5 U6:=m5.trans (l6.trans m6);have hsm:(qx v (sL e n l.length)).az.length<1000/\∀s∈(qx v (sL e n l.length)).az,s.rows.length<1000:=by
   unfold qx;split
   ·exact⟨hV.small,hV.rows⟩
   ·exact⟨by decide,λs hs=>by cases hs⟩
  have qF:(Kz l (sL e n l.length) n).length<=10000:=by
   unfold Kz;split
   ·rename_i h0;have he0:e=0:=by
     unfold sL at h0;split at h0
     ·assumption
     ·exact h0
    subst he0;have:=A1.E9.2.2.1;rw[dF];omega
   ·simp
  have y5:=Gi ((c1.mono k5).rd mi) λx hx=>(c3 x hx).1.mono k5
  have y6:=Gi ((d1.mono m6).rd mi) λx hx=>(d3 x hx).1.mono m6
  rw[c2]at y5;rw[d2]at y6;have sm:=LS (v:=qx v (sL e n l.length)) y5 y6 hsm.1 hsm.2 ((c4.mono k5).row nM (jT nM)) ((d4.mono m6).row nM (jT nM)) qF;have sh:=Jq (hG.mono (a8.trans L6));simp only[SX,r2,r3,cBU L4,q5,al5,pt5,cBU L5,q6,al6,pt6,ee g56,ee g6,sm,sh,am];exact⟨aA,a8.trans L6⟩
end
section
variable {W V:AW} {v:cA} {sv ev cv:ae} {l:List de} {s:RS} {A:Nat} {m:List qA} {op:Bool} {k:Int} {g0:Nat->Int} {u:ae}
end
section
variable {W V:AW} {v:cA} {sv ev cv:ae} {l:List de} {m:List pc}
end
end Go.Proofs.YtekljimefjclgaaGreatDoor
namespace Go.Proofs.YtekljimefjclgaaGreatDoor
open Go Go.Eng Go.RowKit
def X7(l c:Nat):tr (.slice none l c) (.slice none l c)=true:=by simp[tr]
def OO{W:AW}{n:Nat}{t e:ai}{v:ae}(h:DR Tryz.prog W (n+1) t [v])(ht:Tryz.prog.underlying t=some (.slice e)):∃a l c,v=.slice a l c/\(a=none\/∃b,a=some ⟨b,0,none⟩):=by obtain⟨a,len,cap,e1,-,-,h3,-⟩:=h.abu ht;injection e1 with e1;exact⟨a,len,cap,e1,h3⟩
def afJ{v:ae}(h:∃a l c,v=.slice a l c/\(a=none\/∃b,a=some ⟨b,0,none⟩)):tr v v=true/\Eng.one v=true:=by
 obtain⟨a,l,c,rfl,rfl|⟨b,rfl⟩⟩:=h
 ·exact⟨X7 _ _,rfl⟩
 ·exact⟨lH _ _ _ _,rfl⟩
def abn{W:AW}{n:Nat}{c:List ae}(h:DR Tryz.prog W (n+3) 66 c):∃s:jy,∀pre post,Tf W (pre++(c++post)) pre.length s:=by
 obtain⟨c1,c2,rfl,h1,h2⟩:=(h.struct Tryz.underlying66).cons;obtain⟨c3,c4,rfl,h3,h4⟩:=h2.cons;obtain⟨c5,c6,rfl,h5,h6⟩:=h4.cons;obtain rfl:=h6.nil;obtain⟨s,rfl,_⟩:=h1.str Tryz.underlying9;obtain⟨rv,zs,rfl,hz,_⟩:=h3.ints Tryz.underlying64 Tryz.underlying3 (by kernel_rfl);obtain⟨q,rfl⟩:=h5.int Tryz.underlying3;refine⟨⟨s.data.toList,zs,q⟩,λpre post=>⟨?_,?_,rv,?_,hz,afJ (OO h3 Tryz.underlying64)⟩⟩
 ·rw[gb (by omega),Jw];simp
 ·rw[gb (by omega),xJ];rfl
 ·rw[gb (by omega),xJ];rfl
def abq{W:AW}{n:Nat}{c:List ae}(h:DR Tryz.prog W (n+5) 24 c):∃(v:cA) (sv:ae),c=[.af v.sh,.af v.pq,.af v.pp,sv]/\fJ W sv v.az:=by obtain⟨c1,c2,rfl,h1,h2⟩:=(h.struct Tryz.underlying24).cons;obtain⟨c3,c4,rfl,h3,h4⟩:=h2.cons;obtain⟨c5,c6,rfl,h5,h6⟩:=h4.cons;obtain⟨c7,c8,rfl,h7,h8⟩:=h6.cons;obtain rfl:=h8.nil;obtain⟨a,rfl⟩:=h1.int Tryz.underlying3;obtain⟨b,rfl⟩:=h3.int Tryz.underlying2;obtain⟨d,rfl⟩:=h5.int Tryz.underlying2;obtain⟨sv,l,rfl,r1,a',c',r2,r3,r4,r5⟩:=h7.row Tryz.underlying22 (at_:=Tf W) (λc _ hc=>abn hc);exact⟨⟨a,b,d,l⟩,sv,rfl,r1,a',c',r2,.inl ⟨r3,r4⟩,r5⟩
def Z7{W:AW}{n:Nat}{c:List ae}(h:DR Tryz.prog W (n+2) 39 c):∃a b d e:Int,c=[.int .u32 a,.int .u32 b,.int .u64 d,.int .u64 e]:=by obtain⟨c1,c2,rfl,h1,h2⟩:=(h.struct Tryz.underlying39).cons;obtain⟨c3,c4,rfl,h3,h4⟩:=h2.cons;obtain⟨c5,c6,rfl,h5,h6⟩:=h4.cons;obtain⟨c7,c8,rfl,h7,h8⟩:=h6.cons;obtain rfl:=h8.nil;obtain⟨a,rfl⟩:=h1.int Tryz.underlying36;obtain⟨b,rfl⟩:=h3.int Tryz.underlying36;obtain⟨d,rfl⟩:=h5.int Tryz.underlying37;obtain⟨e,rfl⟩:=h7.int Tryz.underlying37;exact⟨a,b,d,e,rfl⟩
def adn{W:AW}{n:Nat}{t:ai}{cs:List ae}(h:DR Tryz.prog W (n+1) t cs)(ht:Tryz.prog.underlying t=some (.int .i64)):∃m,cs=[.af m]/\m<9223372036854775808:=by unfold DR at h;rw[ht]at h;obtain⟨m,h1,-,h3⟩:=h;have:IntKind.i64.max=9223372036854775807:=rfl;exact⟨m,h1,by omega⟩
def ahW{W:AW}{n:Nat}{c:List ae}(h:DR Tryz.prog W (n+3) 41 c):∃o:qS,c=(z8 o).cells.toList/\o.nw<9223372036854775808:=by obtain⟨c1,r1,rfl,h1,h⟩:=(h.struct Tryz.underlying41).cons;obtain⟨c2,r2,rfl,h2,h⟩:=h.cons;obtain⟨c3,r3,rfl,h3,h⟩:=h.cons;obtain⟨c4,r4,rfl,h4,h⟩:=h.cons;obtain⟨c5,r5,rfl,h5,h⟩:=h.cons;obtain⟨c6,r6,rfl,h6,h⟩:=h.cons;obtain⟨c7,r7,rfl,h7,h⟩:=h.cons;obtain⟨c8,r8,rfl,h8,h⟩:=h.cons;obtain⟨c9,r9,rfl,h9,h⟩:=h.cons;obtain rfl:=h.nil;obtain⟨x1,rfl⟩:=h1.int Tryz.underlying3;obtain⟨x2,rfl⟩:=h2.int Tryz.underlying36;obtain⟨x3,rfl⟩:=h3.int Tryz.underlying2;obtain⟨x4,rfl⟩:=h4.int Tryz.underlying3;obtain⟨x5,rfl⟩:=h5.int Tryz.underlying3;obtain⟨x6,rfl⟩:=h6.int Tryz.underlying3;obtain⟨x7,rfl⟩:=h7.int Tryz.underlying36;obtain⟨a,b,d,e,rfl⟩:=Z7 h8;obtain⟨x9,rfl,hb9⟩:=adn h9 Tryz.underlying2;exact⟨⟨x1,x2,x3,x4,x5,x6,x7,a,b,d,e,x9⟩,rfl,hb9⟩
def aie{W:AW}{n:Nat}{c:List ae}(h:DR Tryz.prog W (n+3) 43 c):∃o:In,c=(IR o).cells.toList:=by obtain⟨c1,r1,rfl,h1,h⟩:=(h.struct Tryz.underlying43).cons;obtain⟨c2,r2,rfl,h2,h⟩:=h.cons;obtain⟨c3,r3,rfl,h3,h⟩:=h.cons;obtain⟨c4,r4,rfl,h4,h⟩:=h.cons;obtain⟨c5,r5,rfl,h5,h⟩:=h.cons;obtain⟨c6,r6,rfl,h6,h⟩:=h.cons;obtain rfl:=h.nil;obtain⟨x1,rfl⟩:=h1.int Tryz.underlying30;obtain⟨x2,rfl⟩:=h2.int Tryz.underlying3;obtain⟨x3,rfl⟩:=h3.int Tryz.underlying3;obtain⟨x4,rfl⟩:=h4.int Tryz.underlying2;obtain⟨a,b,d,e,rfl⟩:=Z7 h5;obtain⟨x6,rfl⟩:=h6.int Tryz.underlying3;exact⟨⟨x1,x2,x3,x4,a,b,d,e,x6⟩,rfl⟩
def aju{W:AW}{n:Nat}{c:List ae}(h:DR Tryz.prog W (n+2) 60 c):∃e:EE,c=Ik e:=by obtain⟨c1,r1,rfl,h1,h⟩:=(h.struct Tryz.underlying60).cons;obtain⟨c2,r2,rfl,h2,h⟩:=h.cons;obtain⟨c3,r3,rfl,h3,h⟩:=h.cons;obtain⟨c4,r4,rfl,h4,h⟩:=h.cons;obtain⟨c5,r5,rfl,h5,h⟩:=h.cons;obtain rfl:=h.nil;obtain⟨x1,rfl⟩:=h1.int Tryz.underlying36;obtain⟨x2,rfl⟩:=h2.int Tryz.underlying37;obtain⟨x3,rfl⟩:=h3.int Tryz.underlying37;obtain⟨x4,rfl⟩:=h4.int Tryz.underlying3;obtain⟨x5,rfl⟩:=h5.int Tryz.underlying2;exact⟨⟨x1,x2,x3,x4,x5⟩,rfl⟩
def ahL{W:AW}{n:Nat}{c:List ae}(h:DR Tryz.prog W (n+4) 98 c):∃e:de,c=fe e:=by obtain⟨c1,r1,rfl,h1,h⟩:=(h.struct Tryz.underlying98).cons;obtain⟨c2,r2,rfl,h2,h⟩:=h.cons;obtain⟨c3,r3,rfl,h3,h⟩:=h.cons;obtain⟨c4,r4,rfl,h4,h⟩:=h.cons;obtain⟨c5,r5,rfl,h5,h⟩:=h.cons;obtain⟨c6,r6,rfl,h6,h⟩:=h.cons;obtain⟨c7,r7,rfl,h7,h⟩:=h.cons;obtain⟨c8,r8,rfl,h8,h⟩:=h.cons;obtain rfl:=h.nil;obtain⟨x1,rfl⟩:=h1.int Tryz.underlying3;obtain⟨x2,rfl⟩:=h2.int Tryz.underlying3;obtain⟨x3,rfl⟩:=h3.int Tryz.underlying3;obtain⟨x4,rfl⟩:=h4.int Tryz.underlying3;obtain⟨x5,rfl⟩:=h5.int Tryz.underlying3;obtain⟨o,rfl,-⟩:=ahW h6;obtain⟨r,rfl⟩:=aie h7;obtain⟨g,rfl⟩:=aju (n:=n+1) h8;exact⟨⟨x1,x2,x3,x4,x5,o,r,g⟩,rfl⟩
section
variable {H:Type} {enc:ai×ae->H} {w:au} {σ:dj} {W:AW} {v0:ae} {d:DataW H} {p:List MemPlace} {r:Reach} {b0:Nat}
def abi{t:ai}{fs:Array Field}(ht:Tryz.prog.underlying t=some (.struct fs))(hv:Value.okWide Tryz.prog w r b0 t v0):∃cs,v0=.agg cs:=by unfold Value.okWide at hv;rw[ht]at hv;obtain⟨cs,h,_⟩:=hv;exact⟨cs,h⟩
def afx:Vj Tryz.prog 7 27=true:=by kernel_rfl
end
def aif{w:au}(hl:vI kT w.heap):lK (σG kT) (WG kT 1) w:=⟨ZT rfl hl,Xl,0,_,rfl⟩
def amz:GW (WG kT 1):=YK rfl (λx hx=>by
 have h2:x=(0,rz):=by simpa[kT]using hx
 rw[h2];rfl)
def aff{W:AW}(h:Le (WG kT 1) W):GW W:=amz.mono h
def ajl:Kids Tryz.prog (· <Tryz.prog.types.size):=kids_rows (by kernel_rfl) (by kernel_rfl)
def afT:∀t e,t<Tryz.prog.types.size->Tryz.prog.underlying t=some (.slice e)->0<Tryz.prog.cellsOf e:=slices_full_of Tryz.prog (by kernel_rfl)
def Nb(jq:cw Tryz.prog ak.ng bm){w:au}{σ:dj}{W:AW}(ho:lK σ W w)(hs:Sub (σG kT) σ){i:Nat}{args dw:List ae}(hr:LR σ args dw)(h:bm (.func (.func i) #[] #[]) args W=some (.bool true,W)):
 Calls Tryz.prog i dw.toArray w λe w'=>e=.returned (.bool true)/\ej w w':=by
 have hG:vH σ [0]:=λg hg=>by obtain⟨e,he⟩:=(Ur (gs:=kT) (ng:=[0]) rfl) g hg;exact⟨e,hs _ _ he⟩
 exact Vz jq ho.rel hG ho.ro hr rfl h
end Go.Proofs.YtekljimefjclgaaGreatDoor
namespace Go.Proofs.YtekljimefjclgaaGreatDoor
open Go Go.Eng Go.RowKit Go.WideShapes
abbrev ahZ(ev:ae)(l:List de):Prop:=∃a c,ev=.slice a l.length c/\l.length<=c/\c<gU/\(a=none\/∃b o,a=some ⟨b,o,none⟩)
def X5{W:AW}{n:Nat}{c:List ae}(h:DR Tryz.prog W (n+6) 27 c):∃(v:cA) (sv ev:ae) (l:List de),c=[.af v.sh,.af v.pq,.af v.pp,sv,ev]/\fJ W sv v.az/\Hg W ev l/\ahZ ev l:=by
 obtain⟨c1,c2,rfl,h1,h2⟩:=(h.struct Tryz.underlying27).cons;obtain⟨c3,c4,rfl,h3,h4⟩:=h2.cons;obtain rfl:=h4.nil;obtain⟨v,sv,rfl,hs⟩:=abq h1;have ha:=λ{ev:ae} (e:c3=[ev])=>OO (n:=n+4) (by rw[<-e];exact h3) Tryz.underlying25
 obtain⟨ev,l,rfl,hr,a',c',e1,e2,e3,-⟩:=h3.row Tryz.underlying25 (at_:=jD 31 fe) (λc _ hc=>by obtain⟨e,rfl⟩:=ahL hc;exact⟨e,λpre post=>jT nM e pre post⟩);obtain⟨a,n1,c1,e4,e5⟩:=ha rfl;subst e1;injection e4 with e6 e7 e8;subst e6;exact⟨v,sv,_,l,rfl,hs,hr,_,c',rfl,e2,e3,e5.imp id λ⟨b,hb⟩=>⟨b,0,hb⟩⟩
section
variable {H:Type} {enc:ai×ae->H} {w:au} {σ:dj} {W:AW} {v0:ae} {d:DataW H} {p:List MemPlace} {r:Reach} {b0:Nat}
def Up(ho:lK σ W w)(hv:Value.okWide Tryz.prog w r b0 27 v0)(h:DataW.Trod enc Tryz.prog w 0 (λ_=>true) true 27 v0 d p):
 ∃(σ2:dj) (W2:AW) (v:cA) (sv ev:ae) (l:List de),lK σ2 W2 w/\Sub σ σ2/\Le W W2/\VR σ2 (pz v sv ev) v0/\fJ W2 sv v.az/\Hg W2 ev l/\ahZ ev l:=by
 obtain⟨cs,rfl⟩:=abi Tryz.underlying27 hv;obtain⟨m,hm⟩:=h;obtain⟨σ2,W2,E3,o2,s2,l2,r2,a2⟩:=Mm afx hm σ W ho;obtain⟨v,sv,ev,l,rfl,hs,hr⟩:=X5 a2;exact⟨σ2,W2,v,sv,ev,l,o2,s2,l2,.Ny (a:=#[.af v.sh,.af v.pq,.af v.pp,sv,ev]) r2,hs,hr⟩
end
end Go.Proofs.YtekljimefjclgaaGreatDoor
