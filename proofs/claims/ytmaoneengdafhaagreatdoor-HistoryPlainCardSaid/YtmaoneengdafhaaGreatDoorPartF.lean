/- A part: contracts and laws. -/
import Derived.Test.YtmaoneengdafhaaGreatDoorPartE
set_option linter.unusedVariables false
set_option linter.unusedSimpArgs false
set_option linter.unusedSectionVars false
set_option linter.defProp false
noncomputable section
open Go renaming Value->ad,undef->aj
set_option maxRecDepth 100000
namespace Go.Proofs.YtmaoneengdafhaaGreatDoor
open Go Go.Eng
def yx(x:cI)(k:Nat):Int:=if yr x.v k<((gJ x k).length:Int)then 3 else if(gJ x k).Nodup then 0 else 8
def qE(x:cI):Nat->Int
 |0=>0
 |k+1=>if qE x k=0 then yx x k else qE x k
def IB{x:cI}{k n:Nat}(h:qE x k≠0)(hn:k<=n):qE x n=qE x k:=by
 induction n with
 |zero=>obtain rfl:k=0:=by omega
        rfl
 |succ n ih=>
  by_cases e:k=n+1
  ·subst e;rfl
  ·have:=ih (by omega);show(if qE x n=0 then yx x n else qE x n)=_;rw[ap (by rw[this];exact h),this]
def TR(x:fx):Bool:= !decide (DE x=0)
def PK(x:cI):Int:=if(b9 x.v).2=0 then(if x.now<0 then 7 else if(x.st.length:Int)≠(b9 x.v).1 then 6 else if x.qs.length≠x.v.ax.length then 6 else if x.st.any TR=true then 6 else qE x x.qs.length)else(b9 x.v).2
def ahx(y:fx)(W:AW):ba (.func (.func 96) #[] #[]) [iZ y] W=some (.bool (TR y),W):=by refine aP rfl ?_ FU;unfold BW TR;simp(maxDischargeDepth:=9) only[SX,MX,HX,Nat.reduceAdd,nK]
def adm{f v:ad}{p:fx->Bool}{l:List fx}{W:AW}(h:PL W v l)(hl:l.length<=10000)(hp:∀y,ba f [iZ y] W=some (.bool (p y),W)):ba (.func (.func 121) #[] #[]) [v,f] W=some (.ae (nl p l),W):=by
 refine aP rfl ?_ kQ;unfold gg;simp only[SX,jk h uS];refine bh l.length (by omega) (λk R W'=>W'=W/\R 0=v/\R 1=f/\R 7=.ae (l.length:Int)/\R 8=.ae (k:Int)/\(l.take k).any p=false)
  (λr=>r.2.2=W/\((r.1=.exit 0/\nl p l= -1)\/(r.1=.ret/\r.2.1 4=.ae (nl p l)))) ⟨rfl,rfl,rfl,rfl,rfl,rfl⟩ ?_ ?_ ?_
 ·rintro k R W' hk ⟨rfl,h0,h1,h7,h8,ha⟩;unfold dB;obtain⟨b,o,g1,-,g2⟩:=PL.get h hk;have e1:((k:Int)<(l.length:Int)):=by omega
  have e2:(k:Int)+1=((k+1:Nat):Int):=by omega
  have ea:=bm W' k 1;simp only[SX,h0,h1,h7,h8,e1,g1,g2 _ rfl,hp];cases hx:p l[k]
  ·simp only[SX,ea,ah];exact .inl ⟨ak,ak,h0,h1,h7,by rw[<-e2];rfl,rm hk hx ha⟩
  ·simp only[SX,ah];exact .inr ⟨by simp,ak,.inr ⟨ak,by rw[ws hk hx ha];rfl⟩⟩
 ·rintro R W' ⟨rfl,h0,h1,h7,h8,ha⟩;unfold dB;have e1:¬((l.length:Int)<(l.length:Int)):=by omega
  rw[cM]at ha;simp only[SX,h7,h8,e1,ah];exact⟨by simp,ak,.inl ⟨ak,wC ha⟩⟩
 ·rintro⟨y,R,W'⟩ ⟨hW,hq⟩;simp only at hW hq;subst hW;rcases hq with⟨rfl,hq⟩|⟨rfl,h4⟩
  ·simp(maxDischargeDepth:=9) only[SX,MX,HX,hq]
  ·simp(maxDischargeDepth:=9) only[SX,MX,HX,h4]
def RL{W:AW}{v:ad}{l:List fx}(h:PL W v l)(hl:l.length<=10000):ba (.func (.func 95) #[] #[]) [v,.func (.func 96) #[] #[]] W=some (.bool (l.any TR),W):=by refine aP rfl ?_ jQ;unfold fD;simp(maxDischargeDepth:=9) only[SX,MX,HX,adm h hl (λy=>ahx y W),zm]
def aru:Tryz.prog.underlying 166=some (.map 43 4):=by kernel_rfl
def u35:Tryz.prog.underlying 43=some (.int .u32):=by kernel_rfl
def amR(W:AW):vi Tryz.prog 166 none W=some (.map (some W.next),W.add (.map [] 0)):=aS (by kernel_rfl) rfl
def amn{R:ai.Fr}{U:AW}{r:Nat}{n:Nat}{qv v1 v46 v47 v48:ad}{l:List Int}{K:LT->Option LT}{G:LT->Prop}(hq:PH U qv l)(hn:l.length=n)(hn2:n<=10000)(hr:r=U.next)
 (r1:R 1=v1)(r46:R 46=v46)(r47:R 47=v47)(r48:R 48=v48)(r7:R 7=.map (some r))(r64:R 64=qv)(r65:R 65=.ae (n:Int))(r66:R 66=.ae 0)
 (hK:∀R' V x,Le U V->((x=.exit 3/\l.Nodup/\R' 1=v1/\R' 46=v46/\R' 47=v47/\R' 48=v48)\/(x=.ret/\¬l.Nodup/\R' 2=.ae 8))->Ok (K (x,R',V)) G):Ok (fb (fZ (kM ba) R (U.add (.map [] 0))) K) G:=by
 subst hr;refine bh n (by omega) (λk R V=>Le U V/\R 1=v1/\R 46=v46/\R 47=v47/\R 48=v48/\R 7=.map (some U.next)/\R 64=qv/\R 65=.ae (n:Int)/\R 66=.ae (k:Int)/\(l.take k).Nodup/\∃c,adk V U.next (λz=>if z∈l.take k then some (.bool true)else none) c)
  (λr=>Le U r.2.2/\((r.1=.exit 3/\l.Nodup/\r.2.1 1=v1/\r.2.1 46=v46/\r.2.1 47=v47/\r.2.1 48=v48)\/(r.1=.ret/\¬l.Nodup/\r.2.1 2=.ae 8)))
  ⟨(Le.refl _).add _,r1,r46,r47,r48,r7,r64,r65,r66,by simp,0,by simpa using acY⟩ ?_ ?_ ?_
 ·rintro k R V hk ⟨aM,r1,r46,r47,r48,r7,r64,r65,r66,GN,c,hm⟩;unfold kM;have hkl:k<l.length:=by omega
  have t1:decide ((k:Int)<(n:Int))=true:=cK;have t2:=λW'=>bm W' k 1
  have e3:((k+1:Nat):Int)=(k:Int)+1:=by omega
  obtain⟨b,o,g1,g2,g3⟩:=PH.get hq hkl;have lk:=g3 V (aM.get _ g2);have hg:=aec hm aru u35 z4 l[k];have Jm:l.take (k+1)=l.take k++[l[k]]:=jv hkl;by_cases c0:l[k]∈l.take k
  ·rw[an c0]at hg;simp only[SX,r7,r64,r65,r66,t1,g1,lk,hg,pk,ah];refine .inr ⟨by simp,aM,.inr ⟨ak,λhn=>?_,rfl⟩⟩;have h1:(l.take (k+1)).Nodup:=hn.sublist (List.take_sublist _ _);rw[Jm,Bo]at h1;exact h1.2.2 _ c0 _ (by simp) rfl
  ·rw[ap c0]at hg;obtain⟨es,cc,k1,k2⟩:=aaD hm aru u35 l[k] (.bool true);simp only[SX,r7,r64,r65,r66,t1,g1,lk,hg,Option.getD_none,k1,t2,ah];refine .inl ⟨ak,aM.put (aQ _) _,r1,r46,r47,r48,r7,r64,r65,by rw[e3];rfl,?_,(if(if l[k]∈l.take k then some (Value.bool true)else none).isSome then c else c+1),?_⟩
   ·rw[Jm,Bo];refine⟨GN,by simp,λa ha b hb=>?_⟩;rw[ko]at hb;subst hb;exactλe=>c0 (e▸ha)
   ·have e:(λz=>if z∈l.take (k+1)then some (Value.bool true)else none)=λz=>if z=l[k]then some (Value.bool true)else(if z∈l.take k then some (.bool true)else none):=by
     funext z;rw[Jm];by_cases h1:z=l[k]
     ·rw[an h1,an (by rw[h1];exact List.mem_append_right _ (List.mem_singleton_self _))]
     ·rw[ap h1];simp only[lH,ko,h1,or_false]
    rw[e];exact k2
 ·rintro R V ⟨aM,r1,r46,r47,r48,r7,r64,r65,r66,GN,c,hm⟩;unfold kM;have t1:decide ((n:Int)<(n:Int))=false:=cg;rw[<-hn,cM]at GN;simp only[SX,r65,r66,t1,ah];exact⟨by simp,aM,.inl ⟨ak,GN,r1,r46,r47,r48⟩⟩
 ·rintro⟨e,R,V⟩ ⟨h1,h2⟩;exact hK R V e h1 h2
def VA{W:AW}{x:cI}{sv sq qq:ad}(hs:eW W sv x.v.ax)(hv:x.v.ax.length<1000)(nh:PL W sq x.st)(hq:PF W qq x.qs)(hn:x.st.length<=10000)(hqn:x.qs.length<=10000)(hl:∀l∈x.qs,l.length<=10000):
 ba (.func (.func 56) #[] #[]) [ka x sv sq qq] W=some (.ae (PK x),W):=by
 refine aP rfl ?_ Lf;unfold Gw PK;obtain⟨V,hV⟩:∃V,V=W.add (.cells (eT x sv sq qq)):=⟨_,rfl⟩;have aM:Le W V:=by rw[hV];exact(Le.refl W).add _
 have g1:V.get W.next=some (.cells (eT x sv sq qq)):=by rw[hV];exact AW.aI _ _
 have nV:V.next=W.next+1:=by rw[hV];rfl
 have l4:dJ 4 (.pointer (some ⟨W.next,0,none⟩)) V=some (eQ x.v sv,V):=bB (ao g1) rfl;have l3:∀U,Le V U->bz (.pointer (some ⟨W.next,3,none⟩)) U=some (sv,U):=λU hU=>aO (ao ((hU.get _ (by omega)).trans g1)) rfl
 have ln:bz (.pointer (some ⟨W.next,4,none⟩)) V=some (.ae x.now,V):=aO (ao g1) rfl;have l5:bz (.pointer (some ⟨W.next,5,none⟩)) V=some (sq,V):=aO (ao g1) rfl;have l6:bz (.pointer (some ⟨W.next,6,none⟩)) V=some (qq,V):=aO (ao g1) rfl;have t7:=JS (W:=V) (hs.mono aM) hv;simp only[SX];rw[<-hV];clear hV;simp only[SX,aJ,l4,t7];by_cases c1:(b9 x.v).2=0;case neg=>have d:=aL c1;simp only[SX,d,ap c1,ah];exact⟨ak,aM⟩
 have d1:=aK c1;rw[an c1];by_cases c2:x.now<0
 ·have d:=aK c2;simp only[SX,d1,ln,d,an c2,ah];exact⟨ak,aM⟩
 have d2:=aL c2;rw[ap c2];have lq:=Row.len hq zg;have Lq:=jk nh uS;by_cases c3:(x.st.length:Int)≠(b9 x.v).1
 ·have d:=aL c3;simp only[SX,d1,ln,d2,l5,Lq,d,an c3,ah];exact⟨ak,aM⟩
 have d3:decide ((x.st.length:Int)=(b9 x.v).1)=true:=aK (IH.1 c3);rw[ap c3];by_cases c4:x.qs.length≠x.v.ax.length
 ·have d:decide ((x.qs.length:Int)=(x.v.ax.length:Int))=false:=cg;simp only[SX,d1,aJ,ln,d2,l5,Lq,d3,l6,lq,l3 _ (Le.refl _),Row.len hs.1 zq,d,an c4,ah];exact⟨ak,aM⟩
 have d4:decide ((x.qs.length:Int)=(x.v.ax.length:Int))=true:=cK;rw[ap c4];by_cases c5:x.st.any TR=true
 ·simp only[SX,d1,aJ,ln,d2,l5,Lq,d3,l6,lq,l3 _ (Le.refl _),Row.len hs.1 zq,d4,RL (nh.keep aM) hn,c5,bi,ah];exact⟨ak,aM⟩
 have c5':x.st.any TR=false:=ut.2 c5;rw[ap c5];simp only[SX,d1,aJ,ln,d2,l5,Lq,d3,l6,lq,l3 _ (Le.refl _),Row.len hs.1 zq,d4,RL (nh.keep aM) hn,c5'];refine bh x.qs.length (by omega) (λk R U=>Le V U/\R 1=aZ W.next/\R 46=qq/\R 47=.ae (x.qs.length:Int)/\R 48=.ae (k:Int)/\qE x k=0)
  (λr=>Le V r.2.2/\((r.1=.exit 1/\qE x x.qs.length=0)\/(r.1=.ret/\r.2.1 2=.ae (qE x x.qs.length)))) ⟨Le.refl _,rfl,rfl,rfl,rfl,rfl⟩ ?_ ?_ ?_
 ·rintro k R U hk ⟨hU,r1,r46,r47,r48,hz⟩;unfold ti;have t1:decide ((k:Int)<(x.qs.length:Int))=true:=cK;have t2:=λW'=>bm W' k 1
  have e3:((k+1:Nat):Int)=(k:Int)+1:=by omega
  obtain⟨b,i,u,p1,p2,p3,p4⟩:=hq.get hk;have lu:=p4 U ((aM.trans hU).get _ p2);have T3:k<x.v.ax.length:=by omega
  obtain⟨b',i',rv,s1,-,-,-,-,s5⟩:=gZ.get hs.1 T3;have e0:x.qs[k]=gJ x k:=by simp[gJ,bN hk]
  have eq0:x.v.ax[k].q=yr x.v k:=by unfold yr;rw[bN T3];rfl
  have Z0:=s5 U (aM.trans hU);rw[eq0]at Z0;rw[e0]at p3;have ul:=jk p3 ph;have uD:qE x (k+1)=yx x k:=by show(if qE x k=0 then yx x k else qE x k)=_;rw[an hz]
  by_cases c6:yr x.v k<((gJ x k).length:Int)
  ·have d:=aK c6;simp only[SX,r1,r46,r47,r48,t1,p1,lu,ul,aJ,l3 _ hU,s1,Z0,d,ah];have hb:yx x k=3:=an c6;refine .inr ⟨by simp,hU,.inr ⟨ak,?_⟩⟩;rw[IB (k:=k+1) (by rw[uD,hb];decide) (by omega),uD,hb];rfl
  ·have d:=aL c6;simp only[SX,r1,r46,r47,r48,t1,p1,lu,ul,aJ,l3 _ hU,s1,Z0,d,amR];refine amn (U:=U) (r:=U.next) (n:=(gJ x k).length) (qv:=u) (v1:=aZ W.next) (v46:=qq) (v47:=.ae (x.qs.length:Int)) (v48:=.ae (k:Int)) (p3.keep (aM.trans hU)) rfl (by rw[<-e0];exact hl _ (cD _)) rfl r1 r46 r47 r48 rfl rfl rfl rfl ?_;intro R' V' e hV' hr;rcases hr with⟨rfl,GN,q1,q46,q47,q48⟩|⟨rfl,GN,q2⟩
   ·have hb:yx x k=0:=by unfold yx;rw[ap c6,an GN]
    simp only[SX,q48,t2,ah];exact .inl ⟨ak,hU.trans hV',q1,q46,q47,by rw[e3];rfl,by rw[uD,hb]⟩
   ·have hb:yx x k=8:=by unfold yx;rw[ap c6,ap GN]
    simp only[SX,ah];refine .inr ⟨by simp,hU.trans hV',.inr ⟨ak,?_⟩⟩;rw[IB (k:=k+1) (by rw[uD,hb];decide) (by omega),uD,hb];exact q2
 ·rintro R U ⟨hU,r1,r46,r47,r48,hz⟩;unfold ti;have t1:decide ((x.qs.length:Int)<(x.qs.length:Int))=false:=cg;simp only[SX,r47,r48,t1,ah];exact⟨by simp,hU,.inl ⟨ak,hz⟩⟩
 ·rintro⟨e,R,U⟩ ⟨hU,hr⟩;rcases hr with⟨rfl,hz⟩|⟨rfl,hz⟩
  ·simp only[SX,hz,ah];exact⟨ak,aM.trans hU⟩
  ·simp only at hz;simp only[SX,hz,ah];exact⟨ak,aM.trans hU⟩
def Rg(x:cI)(nw:Int):∃L,ym x nw L:=by
 classical
 refine⟨(fH x nw).mergeSort (λa b=>decide (Q0 x a b\/a=b)),Ir _ _,?_⟩;have h1:=List.pairwise_mergeSort (le:=λa b=>decide (Q0 x a b\/a=b)) (λa b c h1 h2=>by
  simp only[ip]at *;rcases h1 with h1|rfl
  ·rcases h2 with h2|rfl
   ·exact .inl (Lk.trans h1 h2)
   ·exact .inl h1
  ·exact h2) (λa b=>by
  simp only[oA,ip];unfold Q0 Lk;omega) (fH x nw);have h2:((fH x nw).mergeSort (λa b=>decide (Q0 x a b\/a=b))).Nodup:=(Ir _ _).nodup_iff.2 ((List.nodup_range (n:=x.st.length)).filter _);refine(h1.and h2).imp λ{a b} hh=>?_
 have h3:=hh.1;simp only[ip]at h3;rcases h3 with h3|h3
 ·exact h3
 ·exact absurd h3 hh.2
def KA(x:cI)(nw:Int):List Nat:=Classical.choose (Rg x nw)
def Wg(x:cI)(nw:Int):ym x nw (KA x nw):=xn (Rg x nw)
def cO(o:jC):Int:=(FQ o.k o.se o.sc o.t1 0).1
def py(o:jC):Int:=(FQ o.k o.se o.sc o.t1 0).2.1
def bX(x:cI)(o:jC):cI×mK:=
 if o.k=1 then(x,T6 (dY x.now x.v.fm))else
 if o.k=2 then(Nu x (cO o).toNat (ML (cr x (cO o).toNat) o.ow (dY x.now x.v.cT)) (NU (cr x (cO o).toNat) (dY x.now x.v.cT)),hoR (NU (cr x (cO o).toNat) (dY x.now x.v.cT)) (dY x.now x.v.cT))else
 if o.k=3 then(oC x (py o).toNat o.n o.ow,zp x (py o).toNat o.n)else
 if o.k=4 then(S1 x (cO o).toNat (LJ (cr x (cO o).toNat) o.ow) (mf (cr x (cO o).toNat) o.ow),pW (mf (cr x (cO o).toNat) o.ow))else
 if o.k=5 then(Nu x (cO o).toNat (Fa (cr x (cO o).toNat) o.ow) (Dt (cr x (cO o).toNat) o.ow),ZL (cO o).toNat (Fa (cr x (cO o).toNat) o.ow) (Dt (cr x (cO o).toNat) o.ow))else
 if o.k=6 then(Nu x (cO o).toNat (Y2 (cr x (cO o).toNat) (wI o) o.to) (Yh (cr x (cO o).toNat) (wI o)),ZL (cO o).toNat (Y2 (cr x (cO o).toNat) (wI o) o.to) (Yh (cr x (cO o).toNat) (wI o)))else
 if o.k=7 then(S1 x (cO o).toNat (rfS (cr x (cO o).toNat) (wI o)) (Ci (cr x (cO o).toNat) (wI o)),pW (Ci (cr x (cO o).toNat) (wI o)))else
 if o.k=8 then(S1 x (cO o).toNat (rvS (cr x (cO o).toNat)) (Zu (cr x (cO o).toNat)),pW (Zu (cr x (cO o).toNat)))else
 if o.k=9 then(x,pW (Ci (cr x (cO o).toNat) (wI o)))else
 if o.k=10 then(yb x (py o).toNat o.ow,zr x (py o).toNat o.ow)else
 if o.k=11 then(tD x (py o).toNat o.ow,FH x (py o).toNat o.ow)else
 if o.nw<x.now then(x,pW 18)else(yX x o.nw (KA x o.nw),fw)
def PN(x:cI)(o:jC):Int:=wrE x.now (cO o) (py o) (x.st.length:Int) (x.qs.length:Int) o
def yw(x:cI)(o:jC):cI×mK×Int:=
 if Bp o=0 then(if PN x o=0 then(if(bX x o).2.er=0 then((bX x o).1,(bX x o).2,0)else(x,(bX x o).2,0))else(x,pW (PN x o),0))else(x,fw,Bp o)
def rZ(x:cI)(o:jC):cI×mK×Int:=if PK x=0 then yw x o else(x,fw,PK x)
structure MdG (x:cI):Prop where
 EO:(du x.v).2=0
 now:0<=x.now
 st:(x.st.length:Int)=bE x.v.ax
 qs:x.qs.length=x.v.ax.length
 se:∀y∈x.st,DE y=0
 q:∀k,k<x.qs.length->(gJ x k).length<=64/\(gJ x k).Nodup
def adG{x:cI}:∀{n:Nat},qE x n=0->∀k,k<n->yx x k=0
 |0,_,k,hk=>by omega
 |n+1,h,k,hk=>by
  have h':(if qE x n=0 then yx x n else qE x n)=0:=h;by_cases c:qE x n=0
  ·rw[an c]at h';by_cases e:k=n
   ·subst e;exact h'
   ·exact adG c k (by omega)
  ·rw[ap c]at h';exact absurd h' c
def abt{x:cI}(h:PK x=0):MdG x:=by
 unfold PK at h;have hv:(du x.v).2=0:=by
  by_cases c:(du x.v).2=0
  ·exact c
  ·exfalso;have e:(b9 x.v).2≠0:=by unfold b9;rw[ap c];exact c
   rw[ap e]at h;exact e h
 have e2:(b9 x.v).2=0:=by unfold b9;rw[an hv]
 have e1:(b9 x.v).1=bE x.v.ax:=by unfold b9;rw[an hv]
 rw[an e2]at h;by_cases c1:x.now<0
 ·rw[an c1]at h;exact absurd h (by decide)
 rw[ap c1]at h;by_cases c2:(x.st.length:Int)≠(b9 x.v).1
 ·rw[an c2]at h;exact absurd h (by decide)
 rw[ap c2]at h;by_cases c3:x.qs.length≠x.v.ax.length
 ·rw[an c3]at h;exact absurd h (by decide)
 rw[ap c3]at h;by_cases c4:x.st.any TR=true
 ·rw[an c4]at h;exact absurd h (by decide)
 rw[ap c4]at h;have hqs:x.qs.length=x.v.ax.length:=IH.1 c3;refine⟨hv,by omega,by rw[<-e1];exact IH.1 c2,hqs,λy hy=>?_,λk hk=>?_⟩
 ·have c5:=ut.2 c4;rw[IJ]at c5;have:=c5 y hy;unfold TR at this;simpa using this
 ·have hb:=adG h k hk;unfold yx at hb;by_cases c6:yr x.v k<((gJ x k).length:Int)
  ·rw[an c6]at hb;exact absurd hb (by decide)
  rw[ap c6]at hb;have GN:(gJ x k).Nodup:=by
   by_cases c7:(gJ x k).Nodup
   ·exact c7
   ·rw[ap c7]at hb;exact absurd hb (by decide)
  refine⟨?_,GN⟩;have T3:k<x.v.ax.length:=by omega
  obtain⟨-,-,-,Mf,-,-⟩:=cE hv;have hq:yr x.v k=x.v.ax[k].q:=by unfold yr;rw[bN T3];rfl
  have hz:xL x.v.ax[k] (x.v.ax.take k)=0:=by
   have apt:oR x.v.ax k=none:=by
    cases e:oR x.v.ax k with
    |none=>rfl
    |some r=>rw[sH e (by omega:k<=x.v.ax.length)]at Mf;cases Mf
   have uD:=A8 apt T3;by_cases e:xL x.v.ax[k] (x.v.ax.take k)=0
   ·exact e
   ·rw[ap e]at uD;rw[sH uD (by omega:k+1<=x.v.ax.length)]at Mf;cases Mf
  have:=(Ba hz).2.2.2.2.2;omega
def acI{v:fo}(h:(du v).2=0):1<=v.cT/\v.cT<=1000000000/\1<=v.fm/\v.fm<=1000000000/\1<=v.sh/\v.sh<=16:=by have:=(cE h).2.1;unfold DY mA at this;simp at this;omega
def aa8{v:fo}(he:(du v).2=0){s:Nat}(hs:(s:Int)<bE v.ax):tZ v s<v.ax.length:=by
 obtain⟨hg,-,-,-,ht,-⟩:=cE he;have hl:=tQ hg;unfold tZ;rw[<-MU];unfold AO;have e2:(b9 v).2=0:=by unfold b9;rw[an he]
 have e1:(b9 v).1=bE v.ax:=by unfold b9;rw[an he]
 rw[an e2,e1,bM];simp only[vj];have SY:s<(jz v.ax).length:=by omega
 have hm:(jz v.ax).getD s (0,0,0)∈jz v.ax:=by rw[jt,bN SY];exact cD _
 generalize(jz v.ax).getD s (0,0,0)=q at hm;rw[y9]at hm;obtain⟨r,hr,hq⟩:=List.mem_flatMap.1 hm;unfold yH at hq;obtain⟨j,-,rfl⟩:=my.1 hq;exact(sT hr).1
def Xn{x:cI}{o:jC}(hk:o.k=2\/o.k=4\/o.k=5\/o.k=6\/o.k=7\/o.k=8\/o.k=9)(h:PN x o=0):0<=cO o/\cO o<(x.st.length:Int):=by
 unfold PN wrE By ZU at h;rw[bM]at h;split at h
 ·omega
 split at h
 ·omega
 rw[bM]at h;split at h<;>omega
def Jx{x:cI}{o:jC}(hk:o.k=3\/o.k=10\/o.k=11)(h:PN x o=0):0<=py o/\py o<(x.qs.length:Int)/\(o.k=3->1<=o.n/\o.n<=8)/\o.sc=py o:=by
 have e:py o=o.sc:=by unfold py FQ;rw[ap (by simp),bM,bM,an hk]
 rw[e];unfold PN wrE By ZU at h;rw[e]at h;rw[bM]at h;split at h
 ·omega
 split at h
 ·omega
 split at h
 ·omega
 split at h<;>omega
def ahr{W0 U:AW}{ob sb qb:Nat}{bq:Nat->Nat}{x:cI}{sv:ad}{o:jC}(h:fA W0 U ob sb qb bq x sv o (cO o))(hx:QsX U qb bq x.qs)(yQ:sb<ob/\qb<ob/\∀k,bq k<ob)(hg:MdG x)(hk:1<=o.k/\o.k<=12)(hw:PN x o=0)(yA:x.now<9223372036854775808)(ES:o.nw<9223372036854775808):
 lO W0 U ob sb qb bq sv o (cO o) (123+o.k.toNat) (bX x o).1 (bX x o).2:=by
 have hvb:=acI hg.EO;obtain⟨GM,-,SY,-,aqY,-⟩:=cE hg.EO;have dv:=GM.len;have t7:=hg.st;have hqs:=hg.qs;have Ju:sb<ob/\qb<ob:=⟨yQ.1,yQ.2.1⟩;have bP:(o.k=2\/o.k=4\/o.k=5\/o.k=6\/o.k=7\/o.k=8\/o.k=9)->cO o=(((cO o).toNat:Nat):Int)/\Bd x (cO o).toNat/\(cO o).toNat<4294967296:=λhk=>by obtain⟨h1,h2⟩:=Xn hk hw;refine⟨by omega,⟨by omega,?_,by omega,yA,by omega,by omega⟩,by omega⟩;rw[hqs];exact aa8 hg.EO (by omega)
 have hh:∀{s:Nat},cO o=(s:Int)->fA W0 U ob sb qb bq x sv o (s:Int):=λe=>by rw[<-e];exact h
 have hl:∀k,k<x.qs.length->(gJ x k).length<=1000:=λk hk=>by have:=(hg.q k hk).1;omega
 rcases(by omega:o.k=1\/o.k=2\/o.k=3\/o.k=4\/o.k=5\/o.k=6\/o.k=7\/o.k=8\/o.k=9\/o.k=10\/o.k=11\/o.k=12)with k|k|k|k|k|k|k|k|k|k|k|k
 ·have e:bX x o=(x,T6 (dY x.now x.v.fm)):=by unfold bX;rw[an k]
  rw[e,show 123+o.k.toNat=124 by rw[k];rfl];exact YN h Ju yA (show x.v.fm<9223372036854775808 by omega)
 ·obtain⟨e1,e2,e3⟩:=bP (by omega);have e:=bX.eq_1 x o;simp only[k,Int.reduceEq,bi,cn]at e;rw[e,show 123+o.k.toNat=125 by rw[k];rfl];generalize(cO o).toNat=s at *;rw[e1]at h|-;exact Zf h Ju e2
 ·obtain⟨e1,e2,e3,e4⟩:=Jx (by omega) hw;have e:=bX.eq_1 x o;simp only[k,Int.reduceEq,bi,cn]at e;rw[e,show 123+o.k.toNat=126 by rw[k];rfl];exact abN h Ju hg.EO (by omega) (by rw[e4];omega) (by omega) t7 (e3 k) yA (by omega)
 ·obtain⟨e1,e2,e3⟩:=bP (by omega);have e:=bX.eq_1 x o;simp only[k,Int.reduceEq,bi,cn]at e;rw[e,show 123+o.k.toNat=127 by rw[k];rfl];generalize(cO o).toNat=s at *;rw[e1]at h|-;exact O8 h Ju e2
 ·obtain⟨e1,e2,e3⟩:=bP (by omega);have e:=bX.eq_1 x o;simp only[k,Int.reduceEq,bi,cn]at e;rw[e,show 123+o.k.toNat=128 by rw[k];rfl];generalize(cO o).toNat=s at *;rw[e1]at h|-;exact adb h Ju e2 e3
 ·obtain⟨e1,e2,e3⟩:=bP (by omega);have e:=bX.eq_1 x o;simp only[k,Int.reduceEq,bi,cn]at e;rw[e,show 123+o.k.toNat=129 by rw[k];rfl];generalize(cO o).toNat=s at *;rw[e1]at h|-;exact Mr h Ju e2 e3
 ·obtain⟨e1,e2,e3⟩:=bP (by omega);have e:=bX.eq_1 x o;simp only[k,Int.reduceEq,bi,cn]at e;rw[e,show 123+o.k.toNat=130 by rw[k];rfl];generalize(cO o).toNat=s at *;rw[e1]at h|-;exact QM h Ju e2
 ·obtain⟨e1,e2,e3⟩:=bP (by omega);have e:=bX.eq_1 x o;simp only[k,Int.reduceEq,bi,cn]at e;rw[e,show 123+o.k.toNat=131 by rw[k];rfl];generalize(cO o).toNat=s at *;rw[e1]at h|-;exact Rj h Ju e2
 ·obtain⟨e1,e2,e3⟩:=bP (by omega);have e:=bX.eq_1 x o;simp only[k,Int.reduceEq,bi,cn]at e;rw[e,show 123+o.k.toNat=132 by rw[k];rfl];generalize(cO o).toNat=s at *;rw[e1]at h|-;exact Tq h Ju e2
 ·obtain⟨e1,e2,e3,e4⟩:=Jx (by omega) hw;have e:=bX.eq_1 x o;simp only[k,Int.reduceEq,bi,cn]at e;rw[e,show 123+o.k.toNat=133 by rw[k];rfl];exact agd h hx yQ (by omega) (by rw[e4];omega) (by omega) (hl _ (by omega))
 ·obtain⟨e1,e2,e3,e4⟩:=Jx (by omega) hw;have e:=bX.eq_1 x o;simp only[k,Int.reduceEq,bi,cn]at e;rw[e,show 123+o.k.toNat=134 by rw[k];rfl];exact aaH h hx yQ (by omega) (by rw[e4];omega) (hl _ (by omega))
 ·have e:=bX.eq_1 x o;simp only[k,Int.reduceEq,cn]at e;rw[e,show 123+o.k.toNat=135 by rw[k];rfl];by_cases c:o.nw<x.now
  ·rw[an c];exact RS h Ju c
  ·rw[ap c];obtain⟨L,hL,hD⟩:=ahI h Ju ⟨by omega,hg.se,hg.now,ES,by omega,by omega,λi hi=>by rw[hqs];exact aa8 hg.EO (by omega)⟩ c;rw[(Wg x o.nw).one hL];exact hD
def Hu(Z W:AW)(val:ad)(x:cI):Prop:=∃sv sq qq,val=ka x sv sq qq/\eW Z sv x.v.ax/\PL W sq x.st/\PF W qq x.qs
abbrev aka(W:AW)(val:ad)(x:cI):Prop:=Hu W W val x
def Hu.mono{Z W W':AW}{val:ad}{x:cI}(h:Hu Z W val x)(aM:Le W W'):Hu Z W' val x:=by obtain⟨sv,sq,qq,e,h1,h2,h3⟩:=h;exact⟨sv,sq,qq,e,h1,h2.keep aM,h3.mono aM⟩
def Hu.at{Z W:AW}{val:ad}{x:cI}(h:Hu Z W val x)(hz:Le Z W):aka W val x:=by obtain⟨sv,sq,qq,e,h1,h2,h3⟩:=h;exact⟨sv,sq,qq,e,h1.mono hz,h2,h3⟩
def MdK(Z W V:AW)(val:ad)(x:cI):Prop:=∀U,V.next<=U.next->(∀b,b<Z.next\/W.next<=b->b<V.next->U.get b=V.get b)->Hu Z U val x
def MdK.at{Z W V:AW}{val:ad}{x:cI}(h:MdK Z W V val x):Hu Z V val x:=h V (aQ _) λ_ _ _=>rfl
def Xa(Z W V:AW)(v0:ad)(x0:cI)(val:ad)(x:cI):Prop:=(val=v0/\x=x0)\/MdK Z W V val x
def Xa.at{Z W V:AW}{v0 val:ad}{x0 x:cI}(h:Xa Z W V v0 x0 val x)(h0:Hu Z V v0 x0):Hu Z V val x:=by
 rcases h with⟨rfl,rfl⟩|h
 ·exact h0
 ·exact h.at
def QA.rd{W:AW}{u:ad}{l:List Int}{B:Nat}(h:QA W u l B)(hB:B<W.next):PH W u l:=by
 rcases h with⟨rfl,rfl|⟨a,rfl⟩⟩|⟨o,cs,rfl,h2,h3⟩
 ·exact⟨_,_,rfl,.inl rfl⟩
 ·exact⟨_,_,rfl,.inl rfl⟩
 ·exact⟨_,_,rfl,.inr ⟨B,o,cs,rfl,hB,ao h2,by rw[gK,h3,oy]⟩⟩
def aiD(x:cI)(sv sq qq:ad)(o:jC)(s:Int)(W:AW):dU Tryz.prog 170 [(0,ka x sv sq qq),(1,wa o),(2,.ae s)] W=some (.agg (Pa x.v sv x.now sq qq o s).toArray,W):=aS (by kernel_rfl) rfl
def Z4:Array ad:=#[.nilFunc,.func (.func 124) #[] #[],.func (.func 125) #[] #[],.func (.func 126) #[] #[],.func (.func 127) #[] #[],.func (.func 128) #[] #[],.func (.func 129) #[] #[],.func (.func 130) #[] #[],.func (.func 131) #[] #[],.func (.func 132) #[] #[],.func (.func 133) #[] #[],.func (.func 134) #[] #[],.func (.func 135) #[] #[]]
abbrev Qt:ad:=.agg Z4
def aeO(W:AW):∃W',ba (.func (.func 101) #[] #[]) [] W=some (Qt,W')/\Le W W':=by
 have:Ok (CF ba W) λr=>r.1=Qt/\Le W r.2:=by
  unfold CF;have a1:dm Tryz.prog 172 W=some (aZ W.next,W.add (.cells (List.replicate 13 .nilFunc))):=aS (by kernel_rfl) rfl;have a2:∀V,dU Tryz.prog 172 [(1,vX 124),(2,vX 125),(3,vX 126),(4,vX 127),(5,vX 128),(6,vX 129),(7,vX 130),(8,vX 131),(9,vX 132),(10,vX 133),(11,vX 134),(12,vX 135)] V=some (Qt,V):=λV=>aS (by kernel_rfl) rfl
  simp only[aaM]at a2;have a3:∀(x:ad) V,jx Tryz.prog 172 x V=dJ 13 x V:=λx V=>by kernel_rfl
  have st:=gE (n:=13) (b:=W.next) (vs:=Z4) (AW.aI W (.cells (List.replicate 13 .nilFunc))) rfl rfl rfl;rw[i8]at st;have st':eZ 13 (aZ W.next) Qt (W.add (.cells (List.replicate 13 .nilFunc)))=_:=st;have ld:=bB (n:=13) (o:=0) (W:=W.add (.cells Z4.toList)) bF rfl;simp only[↓PX,SX,a1,a2,st',sB,a3,ld,bJ,ah];exact⟨rfl,(Le.refl W).add _⟩
 obtain⟨⟨v,V⟩,h1,rfl,h2⟩:=this;exact⟨V,by rw[LQ h1,kB rfl],h2⟩
def aix{o:jC}(hk:1<=o.k/\o.k<=12)(W:AW):rS Tryz.prog 172 Qt (.ae o.k) W=some (.func (.func (123+o.k.toNat)) #[] #[],W):=by rcases(by omega:o.k=1\/o.k=2\/o.k=3\/o.k=4\/o.k=5\/o.k=6\/o.k=7\/o.k=8\/o.k=9\/o.k=10\/o.k=11\/o.k=12)with k|k|k|k|k|k|k|k|k|k|k|k<;>rw[k]<;>exact aS (by kernel_rfl) rfl
def CR{α:Type}{z:Nat}{f:α->List ad}{W:AW}{v:ad}{l:List α}(h:Rd W z f v l):Eng.one v=true:=by obtain⟨a,c,rfl,-⟩:=h;rfl
def row_one{α:Type}{z:Nat}{f:List ad->Nat->α->Prop}{W:AW}{v:ad}{l:List α}(h:Row W z f v l):Eng.one v=true:=by obtain⟨a,c,rfl,-⟩:=h;rfl
def Ko{o:jC}(h:Bp o=0):1<=o.k/\o.k<=12:=by
 unfold Bp zH at h;split at h
 ·exact absurd h (by decide)
 ·omega
def aa3{o:jC}(h:Bp o=0):FQ o.k o.se o.sc o.t1 (Bp o)=(cO o,py o,0):=by
 have e3:(FQ o.k o.se o.sc o.t1 0).2.2=0:=by
  unfold FQ;rw[ap (by simp)];repeat' split
  all_goals rfl
 rw[h];exact Prod.ext rfl (Prod.ext rfl e3)
def Cq{V:AW}{b2 b3:Nat}{x:cI}{sv sq qq:ad}{c2:List ad}{r0:mK}(h1:Eng.one sv=true)(h2:Eng.one sq=true)(h3:Eng.one qq=true)(g2:V.get b2=some (.cells c2))(hc:c2.length=7)(g3:V.get b3=some (.cells (ig r0)))(fp:b2≠b3)(r:mK)(e:ad):
 ∃V1 V2,eZ 7 (aZ b2) (ka x sv sq qq) V=some (aj,V1)/\V1.get b3=some (.cells (ig r0))/\(∀b,b≠b2->V1.get b=V.get b)/\eZ 9 (aZ b3) (gt r) V1=some (aj,V2)/\iX Tryz.prog [(aZ b2,some 34),(aZ b3,some 50),(e,none)] V2=some (.tuple #[ka x sv sq qq,gt r,e],V2)/\V2.next=V.next/\∀b,b≠b2->b≠b3->V2.get b=V.get b:=by
 have s1:=gE (W:=V) (b:=b2) (n:=7) (vs:=(eT x sv sq qq).toArray) g2 hc rfl (by simp[dC,h1,h2,h3,cF]);obtain⟨V1,kS⟩:∃V1,V1=V.put b2 (.cells (eT x sv sq qq)):=⟨_,rfl⟩;have k3:V1.get b3=some (.cells (ig r0)):=by rw[kS];exact(AW.ay _ _ fp).trans g3
 have k2:V1.get b2=some (.cells (eT x sv sq qq)):=by rw[kS];exact AW.aW _ _ _
 have s2:=gE (W:=V1) (b:=b3) (n:=9) (vs:=(ig r).toArray) k3 rfl rfl rfl;obtain⟨V2,yB⟩:∃V2,V2=V1.put b3 (.cells (ig r)):=⟨_,rfl⟩;have m3:V2.get b3=some (.cells (ig r)):=by rw[yB];exact AW.aW _ _ _
 have m2:V2.get b2=some (.cells (eT x sv sq qq)):=by rw[yB];exact(AW.ay _ _ (bc fp)).trans k2
 refine⟨V1,V2,by rw[kS];exact s1,k3,λb hb=>by rw[kS];exact AW.ay _ _ (bc hb),by rw[yB];exact s2,?_,by rw[yB,kS];rfl,λb hb lF=>by rw[yB,kS];exact(AW.ay _ _ (bc lF)).trans (AW.ay _ _ (bc hb))⟩;rw[D3,EF,adH,bB (n:=7) (o:=0) (ao m2) rfl,bJ,bB (n:=9) (o:=0) (ao m3) rfl];rfl
def adh(x:cI)(o:jC):(bX x o).1.v=x.v:=by
 have Kz:∀(y:cI) i,(lG y i).v=y.v:=λy i=>(v8 y i).1
 have ET:∀s y e,(S1 x s y e).v=x.v:=λs y e=>by
  unfold S1;split
  ·exact Kz _ _
  ·rfl
 have hch:∀s y e,(Nu x s y e).v=x.v:=λs y e=>by unfold Nu;split<;>rfl
 have e:=bX.eq_1 x o;by_cases k1:o.k=1
 ·rw[an k1]at e;rw[e]
 rw[ap k1]at e;by_cases k2:o.k=2
 ·rw[an k2]at e;rw[e];exact hch _ _ _
 rw[ap k2]at e;by_cases k3:o.k=3
 ·rw[an k3]at e;rw[e];show(oC x _ _ _).v=x.v;unfold oC;split
  ·exact(As _ _ _ _ _).1
  ·rfl
 rw[ap k3]at e;by_cases k4:o.k=4
 ·rw[an k4]at e;rw[e];exact ET _ _ _
 rw[ap k4]at e;by_cases k5:o.k=5
 ·rw[an k5]at e;rw[e];exact hch _ _ _
 rw[ap k5]at e;by_cases k6:o.k=6
 ·rw[an k6]at e;rw[e];exact hch _ _ _
 rw[ap k6]at e;by_cases k7:o.k=7
 ·rw[an k7]at e;rw[e];exact ET _ _ _
 rw[ap k7]at e;by_cases k8:o.k=8
 ·rw[an k8]at e;rw[e];exact ET _ _ _
 rw[ap k8]at e;by_cases k9:o.k=9
 ·rw[an k9]at e;rw[e]
 rw[ap k9]at e;by_cases k10:o.k=10
 ·rw[an k10]at e;rw[e];show(yb x _ _).v=x.v;unfold yb;split<;>rfl
 rw[ap k10]at e;by_cases k11:o.k=11
 ·rw[an k11]at e;rw[e];show(tD x _ _).v=x.v;unfold tD;split<;>rfl
 rw[ap k11]at e;rw[e];split
 ·rfl
 ·exact(AG _ _ _).1
def apl{W0 W:AW}{x:cI}{o:jC}{val:ad}(hG:GW W)(hm0:Hu W0 W val x)(ZM:Le W0 W)(hx:PK x=0)(yA:x.now<9223372036854775808)(ES:o.nw<9223372036854775808):
 ∃eK W',ba (.func (.func 57) #[] #[]) [val,wa o] W=some (.tuple #[eK,gt (yw x o).2.1,.ae (yw x o).2.2],W')/\Le W W'/\Xa W0 W W' val x eK (yw x o).1:=by
 obtain⟨sv,sq,qq,rfl,Hd,nh,hq⟩:=id hm0;have hs:=Hd.mono ZM;have asM:=ZM.next;have hg:=abt hx;have C1:=row_one hs.1;have DA:=CR nh;have C3:=row_one hq;have pu:Ok (Ki ba (ka x sv sq qq) (wa o) W) λr=>∃eK,r.1=.tuple #[eK,gt (yw x o).2.1,.ae (yw x o).2.2]/\Le W r.2/\Xa W0 W r.2 (ka x sv sq qq) x eK (yw x o).1:=by
  unfold Ki;obtain⟨V,hV⟩:∃V,V=(((W.add (.cells (eT x sv sq qq))).add (.cells (AJ o))).add (.cells [.ae 0,.ae 0,.ae 0,.slice none 0 0,.ae 0,.slice none 0 0,.slice none 0 0])).add (.cells (ig fw)):=⟨_,rfl⟩;have aM:Le W V:=by rw[hV];exact((((Le.refl W).add _).add _).add _).add _
  have c0:aH V W.next=some (eT x sv sq qq):=by rw[hV];simp(maxDischargeDepth:=9) only[MX,HX,Nat.reduceAdd,Nat.reduceEqDiff]
  have c1:aH V (W.next+1)=some (AJ o):=by rw[hV];simp(maxDischargeDepth:=9) only[MX,HX,Nat.reduceAdd,Nat.reduceEqDiff]
  have nV:V.next=W.next+4:=by rw[hV];rfl
  have g2:V.get (W.next+2)=some (.cells [.ae 0,.ae 0,.ae 0,.slice none 0 0,.ae 0,.slice none 0 0,.slice none 0 0]):=by rw[hV];exact(AW.aE _ _ (by simp only[AW.av];omega)).trans (AW.aI ((W.add (.cells (eT x sv sq qq))).add (.cells (AJ o))) _)
  have g3:V.get (W.next+3)=some (.cells (ig fw)):=by rw[hV];exact AW.aI (((W.add (.cells (eT x sv sq qq))).add (.cells (AJ o))).add (.cells [.ae 0,.ae 0,.ae 0,.slice none 0 0,.ae 0,.slice none 0 0,.slice none 0 0])) _
  have l7:∀U,U.get W.next=V.get W.next->dJ 7 (aZ W.next) U=some (ka x sv sq qq,U):=λU hU=>bB (cs:=eT x sv sq qq) (by unfold aH at c0|-;rw[hU];exact c0) rfl
  have Jo:∀U,U.get (W.next+1)=V.get (W.next+1)->dJ 12 (aZ (W.next+1)) U=some (wa o,U):=λU hU=>bB (cs:=AJ o) (by unfold aH at c1|-;rw[hU];exact c1) rfl
  have lk:∀U,U.get (W.next+1)=V.get (W.next+1)->bz (aZ (W.next+1)) U=some (.ae o.k,U):=λU hU=>aO (cs:=AJ o) (by unfold aH at c1|-;rw[hU];exact c1) rfl
  have atD:ba (.func (.func 98) #[] #[]) [wa o] V=some (UE (FQ o.k o.se o.sc o.t1 (Bp o)),V):=L0 _ _ _ _ _ _ _ _ _ _ _ _ (hG.mono aM);have e1:(W.add (.cells (eT x sv sq qq))).next=W.next+1:=rfl;simp only[SX,oE,B9,AW.av,iq,Nat.reduceAdd];rw[<-hV];clear hV;have same:∀(r:mK) (e:Int),∃V1 V2,eZ 7 (aZ (W.next+2)) (ka x sv sq qq) V=some (aj,V1)/\eZ 9 (aZ (W.next+3)) (gt r) V1=some (aj,V2)/\iX Tryz.prog [(aZ (W.next+2),some 34),(aZ (W.next+3),some 50),(.ae e,none)] V2=some (.tuple #[ka x sv sq qq,gt r,.ae e],V2)/\Le W V2/\Xa W0 W V2 (ka x sv sq qq) x (ka x sv sq qq) x:=λr e=>by obtain⟨V1,V2,k1,-,-,k2,k3,k4,k5⟩:=Cq (x:=x) C1 DA C3 g2 rfl g3 (by omega) r (.ae e);have hZ:Le W V2:=⟨by omega,λb hb=>(k5 b (by omega) (by omega)).trans (aM.get b hb)⟩;exact⟨V1,V2,k1,k2,k3,hZ,.inl ⟨rfl,rfl⟩⟩
  simp only[SX,Jo V rfl,atD];by_cases d1:Bp o=0;case neg=>
   have e3:(FQ o.k o.se o.sc o.t1 (Bp o)).2.2=Bp o:=by unfold FQ;rw[an d1]
   have eD:yw x o=(x,fw,Bp o):=by unfold yw;rw[ap d1]
   rw[eD];obtain⟨V1,V2,k1,k2,k3,k4,k5⟩:=same fw (Bp o);unfold UE;rw[e3];have d:=aL d1;simp only[SX,d,l7 V rfl,Co,k1,k2,k3,ah];exact⟨_,rfl,k4,k5⟩
  have hk:=Ko d1;rw[aa3 d1];unfold UE;have ajs:∀W',aV Tryz.prog .len #[31] 3 #[false] [sq] W'=some (.ae (x.st.length:Int),W'):=λW'=>jk nh uS _ _ _
  have ac1:∀W',aV Tryz.prog .len #[32] 3 #[false] [qq] W'=some (.ae (x.qs.length:Int),W'):=λW'=>(hq.len zg) W' _ _
  have adn:=Tn (W:=V) (sh:=x.v.sh) (cT:=x.v.cT) (fm:=x.v.fm) (now:=x.now) (bP:=cO o) (sec:=py o) (sv:=sv) (o:=o) ajs ac1;rw[show wrE x.now (cO o) (py o) (x.st.length:Int) (x.qs.length:Int) o=PN x o from rfl]at adn;have d0:decide ((0:Int)=0)=true:=rfl;by_cases d2:PN x o=0;case neg=>
   have eD:yw x o=(x,pW (PN x o),0):=by unfold yw;rw[an d1,ap d2]
   rw[eD];obtain⟨V1,V2,k1,k2,k3,k4,k5⟩:=same (pW (PN x o)) 0;have d:=aL d2;simp only[SX,l7 V rfl,Jo V rfl,adn,d,ks,k1,k2,k3,ah];exact⟨_,rfl,k4,k5⟩
  rw[d2]at adn;have akV:x.st≠[]:=λe=>by
   obtain⟨-,-,SY,-⟩:=cE hg.EO;have h8:=(BE hg.EO SY).2.2.2.2.1;have h9:=(BE hg.EO SY).2.2.2.2.2.2.2;have:=hg.st;rw[e]at this;simp at this;have:(0:Int)<=CE x.v 0:=by omega
   omega
  have ht:=(cE hg.EO).2.2.2.2.1;have axS:=(cE hg.EO).1.len;obtain⟨V2,sb,qb,bq,c2,Sw⟩:=XJ (W:=V) (x:=x) (sv:=sv) (nh.keep aM) (hq.mono aM) C1 akV (by have:=hg.st;omega) (by have:=hg.qs;omega) (λl hl=>by obtain⟨k,hk,rfl⟩:=Bk hl;have:=(hg.q k hk).1;simp only[gJ,List.getD,bN hk,pk]at this;omega);have e12:V2.get (W.next+1)=V.get (W.next+1):=Sw.le.get _ (by omega);obtain⟨V3,wZ⟩:∃V3,V3=V2.add (.cells (Pa x.v sv x.now (fL sb x.st.length) (oh qb x.qs.length) o (cO o))):=⟨_,rfl⟩;have J1:Le V2 V3:=by rw[wZ];exact(Le.refl _).add _
  have n3:V3.next=V2.next+1:=by rw[wZ];rfl
  have at4:=Sw.lo;have hO:fA V V3 V2.next sb qb bq x sv o (cO o):={
   le:=Sw.le.trans J1
   lo:=⟨Sw.le.next,at4.1,by omega⟩
   hi:=by omega
   ne:=by omega
   nq:=λk=>by have:=Sw.nq k;omega
   sec:=hs.mono aM
   go:=by rw[wZ];exact AW.aI _ _
   gs:=(J1.get _ (by omega)).trans Sw.gs
   gq:=by obtain⟨qv,y1,y2,y3,-⟩:=Sw.qx;exact⟨qv,(J1.get _ (by omega)).trans y1,y2,λk hk=>let⟨u,u1,u2⟩:=y3 k hk;⟨u,u1,(u2.mono J1).qa⟩⟩};have hX3:QsX V3 qb bq x.qs:=Sw.qx.mono (by omega) J1;obtain⟨V5,a5,b5⟩:=aeO (V3.add (.cells (ig fw)));have le5:Le V3 V5:=((Le.refl V3).add _).trans b5;have g30:V5.get V3.next=some (.cells (ig fw)):=(b5.get _ (by rw[AW.av];omega)).trans (AW.aI _ _);have n5:V3.next<V5.next:=by have:=b5.next;rw[AW.av]at this;omega
  have hO5:=hO.mono le5;have hX5:QsX V5 qb bq x.qs:=hX3.mono (by omega) le5;obtain⟨V6,bq6,a6,O6,n6,f6,h6⟩:=ahr hO5 hX5 ⟨by omega,by omega,λk=>(Sw.nq k).2.1⟩ hg hk d2 yA ES;have g31:V6.get V3.next=some (.cells (ig fw)):=(f6 _ (by omega) n5).trans g30;obtain⟨V7,hV7⟩:∃V7,V7=V6.put V3.next (.cells (ig (bX x o).2)):=⟨_,rfl⟩;have s30:eZ 9 (aZ V3.next) (gt (bX x o).2) V6=some (aj,V7):=by rw[hV7];exact gE (vs:=(ig (bX x o).2).toArray) g31 rfl rfl rfl
  have g32:V7.get V3.next=some (.cells (ig (bX x o).2)):=by rw[hV7];exact AW.aW _ _ _
  have f7:∀b,b≠V3.next->V7.get b=V6.get b:=λb hb=>by rw[hV7];exact AW.ay _ _ (bc hb)
  have n7:V7.next=V6.next:=by rw[hV7];rfl
  have le7:Le V V7:=⟨by have:=O6.le.next;omega,λb hb=>(f7 b (by have:=Sw.le.next;omega)).trans (O6.le.get b hb)⟩;have lV:∀b,b<V.next->V7.get b=V.get b:=λb hb=>le7.get b hb
  have ler:bz (aZ V3.next) V7=some (.ae (bX x o).2.er,V7):=aO (ao g32) rfl;have l9:∀U,U.get V3.next=V7.get V3.next->dJ 9 (aZ V3.next) U=some (gt (bX x o).2,U):=λU hU=>bB (cs:=ig (bX x o).2) (ao (hU.trans g32)) rfl
  have l93:bz (aZ (W.next+1)) V3=some (.ae o.k,V3):=lk V3 ((J1.get _ (by have:=Sw.le.next;omega)).trans e12);have lk5:bz (aZ (W.next+1)) V5=some (.ae o.k,V5):=lk V5 ((le5.get _ (by have:=Sw.le.next;omega)).trans ((J1.get _ (by have:=Sw.le.next;omega)).trans e12));have vk:iD (.ae o.k) (.ae o.k)=true:=lK _ _;have bx:pP (.agg (Pa x.v sv x.now (fL sb x.st.length) (oh qb x.qs.length) o (cO o)).toArray) V2=some (aZ V2.next,V3):=by rw[iB,wZ]
  by_cases d3:(bX x o).2.er=0
  ·have eD:yw x o=((bX x o).1,(bX x o).2,0):=by unfold yw;rw[an d1,an d2,an d3]
   rw[eD];have o7:dJ 7 (aZ V2.next) V7=some (ka (bX x o).1 sv (fL sb (bX x o).1.st.length) (oh qb (bX x o).1.qs.length),V7):=bB (ao ((f7 _ (by omega)).trans O6.go)) rfl;obtain⟨V8,V9,k1,k0,k01,k2,k3,k4,k5⟩:=Cq (V:=V7) (b2:=W.next+2) (b3:=W.next+3) (x:=(bX x o).1) C1 (rfl:Eng.one (fL sb (bX x o).1.st.length)=true) (rfl:Eng.one (oh qb (bX x o).1.qs.length)=true) ((lV _ (by omega)).trans g2) rfl ((lV _ (by omega)).trans g3) (by omega) (bX x o).2 (.ae 0);have d:=aK d3;simp only[SX,l7 V rfl,Jo V rfl,adn,c2,Jo V2 e12,dd,Sz,fN,aiD,bx,aJ,l93,a5,lk5,vk,aix hk,a6,s30,ler,d,aR,o7,l9 V7 rfl,k1,l9 V8 (k01 _ (by have:=Sw.le.next;omega)),wQ,k2,k3,ah];have Ql:Le W V9:=⟨by have:=le7.next;omega,λb hb=>(k5 b (by omega) (by omega)).trans ((lV b (by omega)).trans (aM.get b hb))⟩;refine⟨_,rfl,Ql,.inr ?_⟩;have f9:∀b,V.next<=b->b≠V3.next->V9.get b=V6.get b:=λb hb lF=>(k5 b (by omega) (by omega)).trans (f7 b lF)
   have n9:V9.next=V6.next:=by rw[k4,n7]
   have azz:=O6.hi;intro U hUn hU;have hW2:=Sw.le.next;have fU:∀b,V.next<=b->b≠V3.next->b<V9.next->U.get b=V6.get b:=λb hb lF hb3=>(hU b (.inr (by omega)) hb3).trans (f9 b hb lF)
   have aBS:Le W0 U:=⟨by have:=Ql.next;omega,λb hb=>(hU b (.inl hb) (by have:=Ql.next;omega)).trans ((ZM.trans Ql).get b hb)⟩;have hsU:eW W0 sv (bX x o).1.v.ax:=by rw[adh];exact Hd
   refine⟨sv,_,_,rfl,hsU,⟨_,_,rfl,.inr ⟨sb,0,_,rfl,by omega,ao ((fU sb (by omega) (by omega) (by omega)).trans O6.gs),?_⟩⟩,?_⟩
   ·rw[jj,<-bZ ni (bX x o).1.st,cM]
   ·obtain⟨qv,q1,q2,q3⟩:=O6.gq;refine⟨_,_,rfl,.inr ⟨qb,0,qv,rfl,by omega,ao ((fU qb (by omega) (by omega) (by omega)).trans q1),λi hi=>?_⟩⟩;obtain⟨u,u1,u2⟩:=q3 i hi;have hq6:=O6.nq i;have fp:bq6 i≠V3.next:=by
     rcases h6 i with e|e
     ·have:=(Sw.nq i).2.1;omega
     ·omega
    exact⟨u,by rw[aJ,gK];exact u1,(u2.keep (fU _ hq6.1 fp (by omega))).rd (by omega)⟩
  ·have eD:yw x o=(x,(bX x o).2,0):=by unfold yw;rw[an d1,an d2,ap d3]
   rw[eD];obtain⟨V8,V9,k1,k0,k01,k2,k3,k4,k5⟩:=Cq (V:=V7) (b2:=W.next+2) (b3:=W.next+3) (x:=x) C1 DA C3 ((lV _ (by omega)).trans g2) rfl ((lV _ (by omega)).trans g3) (by omega) (bX x o).2 (.ae 0);have d:=aL d3;simp only[SX,l7 V rfl,Jo V rfl,adn,c2,Jo V2 e12,dd,Sz,fN,aiD,bx,l93,a5,lk5,vk,aix hk,a6,s30,ler,d,l7 V7 (lV _ (by omega)),l9 V7 rfl,k1,l9 V8 (k01 _ (by have:=Sw.le.next;omega)),wQ,k2,k3,ah];have Ql:Le W V9:=⟨by have:=le7.next;omega,λb hb=>(k5 b (by omega) (by omega)).trans ((lV b (by omega)).trans (aM.get b hb))⟩;exact⟨_,rfl,Ql,.inl ⟨rfl,rfl⟩⟩
 obtain⟨⟨v,V⟩,h1,eK,rfl,h2,h3⟩:=pu;have rX:=SQ h1;unfold OG at rX;by_cases hp:(bL (.tuple #[eK,gt (yw x o).2.1,.ae (yw x o).2.2])&& !Za (.tuple #[eK,gt (yw x o).2.1,.ae (yw x o).2.2]))=true
 ·obtain⟨Zx,sq',qq',rfl,m1,m2,m3⟩:=h3.at (hm0.mono h2);exfalso;have hv:(yw x o).1.v=x.v:=by
   unfold yw;split
   ·split
    ·split
     ·exact adh x o
     ·rfl
    ·rfl
   ·rfl
  rw[hv]at m1;obtain⟨-,a,c,rfl,-,h4⟩:=m1;obtain⟨b,o',rfl⟩:=h4 (λe=>by have:=(cE hg.EO).2.2.1;rw[e]at this;exact absurd this (by simp));simp[bL,eH,cC]at hp
 ·rw[kB (ut.2 hp)]at rX;exact⟨_,V,rX,h2,h3⟩
structure Bnd (x:cI):Prop where
 v:x.v.ax.length<1000
 st:x.st.length<=10000
 qs:x.qs.length<=10000
 q:∀l∈x.qs,l.length<=10000
 now:x.now<9223372036854775808
def Hu.flat{Z Z' W U:AW}{x:cI}{sv sq qq e:ad}{r:mK}(h:(bL (.tuple #[ka x sv sq qq,gt r,e])&& !Za (.tuple #[ka x sv sq qq,gt r,e]))=true)(m1:eW Z sv x.v.ax)(m2:PL W sq x.st)(m3:PF W qq x.qs):Hu Z' U (ka x sv sq qq) x:=by
 obtain⟨⟨a,c,rfl,k1⟩,k2⟩:=m1;obtain⟨a2,c2,rfl,k3⟩:=m2;obtain⟨a3,c3,rfl,k4⟩:=m3;cases a with
 |some a=>simp[bL,eH,cC]at h
 |none=>
 cases a2 with
 |some a=>simp[bL,eH,cC]at h
 |none=>
 cases a3 with
 |some a=>simp[bL,eH,cC]at h
 |none=>
 refine⟨_,_,_,rfl,⟨⟨none,c,rfl,k1.imp id λ⟨b,o,cs,e,_⟩=>by cases e⟩,k2⟩,⟨none,c2,rfl,k3.imp id λ⟨b,o,cs,e,_⟩=>by cases e⟩,⟨none,c3,rfl,k4.imp id λ⟨b,o,cs,e,_⟩=>by cases e⟩⟩
def aqz{W0 W:AW}{x:cI}{o:jC}{val:ad}(hG:GW W)(hm:Hu W0 W val x)(ZM:Le W0 W)(hb:Bnd x)(ES:o.nw<9223372036854775808):
 ∃eK W',ba (.func (.func 25) #[] #[]) [val,wa o] W=some (.tuple #[eK,gt (rZ x o).2.1,.ae (rZ x o).2.2],W')/\Le W W'/\Xa W0 W W' val x eK (rZ x o).1:=by
 obtain⟨sv,sq,qq,rfl,Hd,nh,hq⟩:=id hm;have hs:=Hd.mono ZM;have asM:=ZM.next;have pu:Ok (IU ba (ka x sv sq qq) (wa o) W) λr=>∃eK,r.1=.tuple #[eK,gt (rZ x o).2.1,.ae (rZ x o).2.2]/\Le W r.2/\Xa W0 W r.2 (ka x sv sq qq) x eK (rZ x o).1:=by
  unfold IU;obtain⟨V,hV⟩:∃V,V=(((W.add (.cells (eT x sv sq qq))).add (.cells (AJ o))).add (.cells [.ae 0,.ae 0,.ae 0,.slice none 0 0,.ae 0,.slice none 0 0,.slice none 0 0])).add (.cells (ig fw)):=⟨_,rfl⟩;have aM:Le W V:=by rw[hV];exact((((Le.refl W).add _).add _).add _).add _
  have c0:aH V W.next=some (eT x sv sq qq):=by rw[hV];simp(maxDischargeDepth:=9) only[MX,HX,Nat.reduceAdd,Nat.reduceEqDiff]
  have c1:aH V (W.next+1)=some (AJ o):=by rw[hV];simp(maxDischargeDepth:=9) only[MX,HX,Nat.reduceAdd,Nat.reduceEqDiff]
  have nV:V.next=W.next+4:=by rw[hV];rfl
  have g2:V.get (W.next+2)=some (.cells [.ae 0,.ae 0,.ae 0,.slice none 0 0,.ae 0,.slice none 0 0,.slice none 0 0]):=by rw[hV];exact(AW.aE _ _ (by simp only[AW.av];omega)).trans (AW.aI ((W.add (.cells (eT x sv sq qq))).add (.cells (AJ o))) _)
  have g3:V.get (W.next+3)=some (.cells (ig fw)):=by rw[hV];exact AW.aI (((W.add (.cells (eT x sv sq qq))).add (.cells (AJ o))).add (.cells [.ae 0,.ae 0,.ae 0,.slice none 0 0,.ae 0,.slice none 0 0,.slice none 0 0])) _
  have l7:dJ 7 (aZ W.next) V=some (ka x sv sq qq,V):=bB c0 rfl;have Jo:dJ 12 (aZ (W.next+1)) V=some (wa o,V):=bB c1 rfl;simp only[SX,oE,B9,AW.av,iq,Nat.reduceAdd];rw[<-hV];clear hV;have hck:=VA (W:=V) (x:=x) (sv:=sv) (hs.mono aM) hb.v (nh.keep aM) (hq.mono aM) hb.st hb.qs hb.q;by_cases d1:PK x=0
  ·have eM:rZ x o=yw x o:=an d1;rw[eM];have d:=aK d1;obtain⟨eK,V2,k1,k2,hK⟩:=apl (hG.mono aM) (hm.mono aM) (ZM.trans aM) d1 hb.now ES (o:=o);obtain⟨Zx,sq',qq',rfl,m1,m2,m3⟩:=hK.at (hm.mono (aM.trans k2));obtain⟨V8,V9,p1,p0,Rx,p2,p3,p4,p5⟩:=Cq (V:=V2) (b2:=W.next+2) (b3:=W.next+3) (x:=(yw x o).1) (row_one m1.1) (CR m2) (row_one m3) ((k2.get _ (by omega)).trans g2) rfl ((k2.get _ (by omega)).trans g3) (by omega) (yw x o).2.1 (.ae (yw x o).2.2);simp only[SX,l7,Jo,hck,d,k1,p1,p2,p3,ah];have k2n:=k2.next;refine⟨_,rfl,⟨by omega,λb hb=>(p5 b (by omega) (by omega)).trans ((k2.get _ (by omega)).trans (aM.get b hb))⟩,?_⟩;rcases hK with hK|hK
   ·exact .inl hK
   refine .inr λU hUn hU=>?_
   exact hK U (by omega) λb hb lF=>(hU b (by omega) (by omega)).trans (p5 b (by omega) (by omega))
  ·have eM:rZ x o=(x,fw,PK x):=ap d1;rw[eM];have d:=aL d1;obtain⟨V8,V9,p1,p0,Rx,p2,p3,p4,p5⟩:=Cq (V:=V) (b2:=W.next+2) (b3:=W.next+3) (x:=x) (row_one hs.1) (CR nh) (row_one hq) g2 rfl g3 (by omega) fw (.ae (PK x));simp only[SX,l7,Jo,hck,d,Co,p1,p2,p3,ah];have Ql:Le W V9:=⟨by omega,λb hb=>(p5 b (by omega) (by omega)).trans (aM.get b hb)⟩;exact⟨_,rfl,Ql,.inl ⟨rfl,rfl⟩⟩
 obtain⟨⟨v,V⟩,h1,eK,rfl,h2,h3⟩:=pu;have rX:=RP h1;unfold OG at rX;unfold gc at rX;by_cases hp:(bL (.tuple #[eK,gt (rZ x o).2.1,.ae (rZ x o).2.2])&& !Za (.tuple #[eK,gt (rZ x o).2.1,.ae (rZ x o).2.2]))=true/\Le W V
 ·rw[an hp]at rX;refine⟨_,W,rX,.refl _,?_⟩;obtain⟨Zx,sq',qq',rfl,m1,m2,m3⟩:=h3.at (hm.mono h2);exact .inr λU hUn hU=>Hu.flat hp.1 m1 m2 m3
 ·rw[ap hp]at rX;exact⟨_,V,rX,h2,h3⟩
abbrev lJ(b n:Nat):ad:=.slice (some ⟨b,0,none⟩) n (eG+1)
def LS(lo sb qb:Nat)(W:AW)(u:ad)(l:List Int):Prop:=(l=[]/\(u=.slice none 0 0\/∃B,u=.slice (some ⟨B,0,none⟩) 0 0))\/(l≠[]/\∃B c,lo<=B/\B<W.next/\B≠sb/\B≠qb/\u=.slice (some ⟨B,0,none⟩) l.length c/\(c=eG+1\/c=l.length)/\W.get B=some (.cells (l.flatMap qQ)))
section
variable {Z W V V':AW} {lo sb qb:Nat} {u:ad} {l:List Int}
def LS.el(h:LS lo sb qb W u l):EL lo W 1 qQ u l:=by
 rcases h with h|⟨h0,B,c,h1,h2,h3,h4,h5,h6,h7⟩
 ·exact .inl h
 ·exact .inr ⟨h0,B,c,h1,h2,h5,h6,h7⟩
def LS.aai{Ig:Nat}(h:EL Ig W 1 qQ u l)(h0:lo<=Ig)(h1:sb<Ig)(h2:qb<Ig):LS lo sb qb W u l:=by
 rcases h with h|⟨h0,B,c,h1,h2,h3,h4,h5⟩
 ·exact .inl h
 ·exact .inr ⟨h0,B,c,by omega,h2,by omega,by omega,h3,h4,h5⟩
def LS.fr(h:LS lo sb qb W u l)(hf:Fr W V sb qb):LS lo sb qb V u l:=by
 rcases h with h|⟨h0,B,c,h1,h2,h3,h4,h5,h6,h7⟩
 ·exact .inl h
 ·exact .inr ⟨h0,B,c,h1,by have:=hf.1;omega,h3,h4,h5,h6,(hf.2 B h2 h3 h4).trans h7⟩
def LS.rd(h:LS lo sb qb W u l):PH W u l:=h.el.rd iA
structure ki (Z W V:AW) (sb qb:Nat) (x:cI) (sv:ad):Prop where
 z:Le Z W
 le:Le W V
 lo:W.next<=sb/\W.next<=qb/\sb<V.next/\qb<V.next/\sb≠qb
 sec:eW Z sv x.v.ax
 gs:V.get sb=some (.cells (x.st.flatMap dK))
 gq:∃qv,V.get qb=some (.cells qv)/\qv.length=x.qs.length/\∀k (h:k<x.qs.length),∃u,qv[k]? =some u/\LS W.next sb qb V u x.qs[k]
variable {x x':cI} {sv:ad}
abbrev kv(sb qb:Nat)(x:cI)(sv:ad):ad:=ka x sv (fL sb x.st.length) (lJ qb x.qs.length)
def ki.step(h:ki Z W V sb qb x sv)(hf:Fr V V' sb qb)(e1:x'.v=x.v)
 (gs:V'.get sb=some (.cells (x'.st.flatMap dK)))(gq:∃qv,V'.get qb=some (.cells qv)/\qv.length=x'.qs.length/\∀k (h:k<x'.qs.length),∃u,qv[k]? =some u/\LS W.next sb qb V' u x'.qs[k]):ki Z W V' sb qb x' sv where
 z:=h.z
 le:=⟨eS h.le.next hf.1,λb hb=>(hf.2 b (ff hb h.le.next) (by have:=h.lo;omega) (by have:=h.lo;omega)).trans (h.le.get b hb)⟩
 lo:=by have:=h.lo;have:=hf.1;omega
 sec:=by rw[e1];exact h.sec
 gs:=gs
 gq:=gq
def aes{qs:List (List Int)}(h:∃qv,V.get qb=some (.cells qv)/\qv.length=qs.length/\∀k (h:k<qs.length),∃u,qv[k]? =some u/\LS lo sb qb V u qs[k])(hf:Fr V V' sb qb)(hq:V'.get qb=V.get qb):∃qv,V'.get qb=some (.cells qv)/\qv.length=qs.length/\∀k (h:k<qs.length),∃u,qv[k]? =some u/\LS lo sb qb V' u qs[k]:=by obtain⟨qv,a,b,c⟩:=h;exact⟨qv,hq.trans a,b,λk hk=>let⟨u,c1,c2⟩:=c k hk;⟨u,c1,c2.fr hf⟩⟩
def ki.mono(h:ki Z W V sb qb x sv)(aM:Le V V'):ki Z W V' sb qb x sv:=
 h.step (.of_le aM) rfl ((aM.get _ h.lo.2.2.1).trans h.gs) (aes h.gq (.of_le aM) (aM.get _ h.lo.2.2.2.1))
def ki.ax(h:ki Z W V sb qb x sv):eW V sv x.v.ax:=h.sec.mono (h.z.trans h.le)
def A0{val:ad}{a b c Zx sq qq:ad}{now more:Int}(hv:val=.agg #[a,b,c,Zx,.ae now,sq,qq])(h1:now<9223372036854775808)(h2:more<9223372036854775808)(ha:Eng.one a=true)(hb:Eng.one b=true)(hc:Eng.one c=true)(hs:Eng.one Zx=true)(hq:Eng.one sq=true)(hqq:Eng.one qq=true):ba (.func (.func 35) #[] #[]) [val,.ae more] W=some (.ae (dY now more),W):=by refine aP rfl ?_ Jq;unfold GH;subst hv;simp(maxDischargeDepth:=9) only[SX,MX,HX,Yl h1 h2]
end
section
variable {Z W V V':AW} {lo sb qb:Nat} {x x':cI} {sv:ad}
def Vk:rB Tryz.prog 88=some 1:=by kernel_rfl
def ixL{n b k:Nat}(hk:k<n)(W':AW):pc 1 (lJ b n) (.ae (k:Int)) W'=some (.pointer (some ⟨b,k,none⟩),W'):=by have:=oq (z:=1) (b:=b) (o:=0) (c:=eG+1) (W:=W') (k:=.i64) hk;rwa [aJ,gK]at this
def ao9{b i:Nat}{cs:List ad}{u:ad}(hg:V.get b=some (.cells cs))(hi:i<cs.length){l:List Int}{lo:Nat}{U:AW}(hu:EL lo U 1 qQ u l):eZ 1 (.pointer (some ⟨b,i,none⟩)) u V=some (aj,V.put b (.cells (cs.set i u))):=by rcases hu with⟨-,rfl|⟨B,rfl⟩⟩|⟨-,B,c,-,-,rfl,-⟩<;>rw[js,cR hg,bJ,an hi]
structure Bx (V:AW) (b0:Nat) (x:cI) (sv sq qq:ad):Prop where
 g:V.get b0=some (.cells (eT x sv sq qq))
def Bx.l{b0:Nat}{sq qq:ad}(h:Bx V b0 x sv sq qq){i:Nat}{u:ad}(hi:(eT x sv sq qq)[i]? =some u):bz (.pointer (some ⟨b0,i,none⟩)) V=some (u,V):=aO (ao h.g) hi
def Na(h:ki Z W V sb qb x sv){i:Nat}(hs:i<x.st.length)(hk:tZ x.v i<x.qs.length)(hv:x.v.ax.length<1000)(hr:∀s∈x.v.ax,s.rows.length<1000)(hl:∀l∈x.qs,l.length<=10000)(h1:x.now<9223372036854775808)(h2:x.v.cT<9223372036854775808):
 ∃V',ba (.func (.func 70) #[] #[]) [kv sb qb x sv,.ae (i:Int)] V=some (kv sb qb (lG x i) sv,V')/\ki Z W V' sb qb (lG x i) sv/\Fr V V' sb qb:=by
 have hq:Ok (vQ ba (kv sb qb x sv) (.ae (i:Int)) V) λr=>r.1=kv sb qb (lG x i) sv/\ki Z W r.2 sb qb (lG x i) sv/\Fr V r.2 sb qb:=by
  unfold vQ;obtain⟨V1,kS⟩:∃V1,V1=(V.add (.cells (eT x sv (fL sb x.st.length) (lJ qb x.qs.length)))).add (.cells [.ae 0,.ae 0,.ae 0,.slice none 0 0,.ae 0,.slice none 0 0,.slice none 0 0]):=⟨_,rfl⟩;have le1:Le V V1:=by rw[kS];exact((Le.refl V).add _).add _
  have g0:V1.get V.next=some (.cells (eT x sv (fL sb x.st.length) (lJ qb x.qs.length))):=by rw[kS];exact(AW.aE _ _ (by rw[AW.av];omega)).trans (AW.aI _ _)
  have g1:V1.get (V.next+1)=some (.cells [.ae 0,.ae 0,.ae 0,.slice none 0 0,.ae 0,.slice none 0 0,.slice none 0 0]):=by rw[kS,<-AW.av V (.cells (eT x sv (fL sb x.st.length) (lJ qb x.qs.length)))];exact AW.aI _ _
  have n1:V1.next=V.next+2:=by rw[kS];rfl
  simp only[SX,oE,AW.av];rw[<-kS];clear kS;have h':=h.mono le1;have l4:dJ 4 (aZ V.next) V1=some (eQ x.v sv,V1):=bB (ao g0) rfl;have qk:=Qu (v:=x.v) (sv:=sv) (W:=V1) (bP:=(i:Int)) h'.ax.1 hv hr;obtain⟨V2,a1,n2,QU,r2⟩:=aam V1;have b1:=Hm (a:=((dF x.v i).1.1:Int)) (c:=((dF x.v i).1.2.1:Int)) (d:=((dF x.v i).1.2.2:Int)) r2;obtain⟨V3,wZ⟩:∃V3,V3=V2.put V1.next (.cells [.ae ((dF x.v i).1.1:Int),.ae ((dF x.v i).1.2.1:Int),.ae ((dF x.v i).1.2.2:Int)]):=⟨_,rfl⟩;have gb:V3.get V1.next=some (.cells [.ae ((dF x.v i).1.1:Int),.ae ((dF x.v i).1.2.1:Int),.ae ((dF x.v i).1.2.2:Int)]):=by rw[wZ];exact AW.aW _ _ _
  have J1:Le V1 V3:=by rw[wZ];exact QU.put (aQ _) _
  have n3:V3.next=V1.next+1:=by rw[wZ];exact n2
  simp only[SX,aJ,l4,qk,a1,b1];rw[<-wZ];clear wZ b1;have h3:=h'.mono J1;have b0:Bx V3 V.next x sv (fL sb x.st.length) (lJ qb x.qs.length):=⟨(J1.get _ (by omega)).trans g0⟩;have gi:∀U:AW,U.get V1.next=V3.get V1.next->bz (.pointer (some ⟨V1.next,0,none⟩)) U=some (.ae (tZ x.v i:Int),U):=λU hU=>aO (ao (hU.trans gb)) rfl
  obtain⟨qv,q1,q2,q3⟩:=h3.gq;obtain⟨u,u1,u2⟩:=q3 _ hk;have lu:bz (.pointer (some ⟨qb,tZ x.v i,none⟩)) V3=some (u,V3):=aO (ao q1) u1;obtain⟨ua,uc,ue⟩:=u2.el.slice;have ul:∀U:AW,aV Tryz.prog .len #[88] 3 #[false] [u] U=some (.ae ((x.qs[tZ x.v i]).length:Int),U):=λU=>by rw[ue];exact dg ph _ _ _
  have l6:=b0.l (i:=6) (u:=lJ qb x.qs.length) rfl;simp only[SX,gi V3 rfl,l6,ixL hk,lu,ul];cases he:x.qs[tZ x.v i]with
  |nil=>
   have e0:lG x i=x:=by unfold lG;rw[bN hk,he]
   rw[e0];have l7:dJ 7 (aZ V.next) V3=some (kv sb qb x sv,V3):=bB (ao b0.g) rfl;have g1':V3.get (V.next+1)=_:=(J1.get _ (by omega)).trans g1;have s7:=gE (W:=V3) (b:=V.next+1) (n:=7) (vs:=(eT x sv (fL sb x.st.length) (lJ qb x.qs.length)).toArray) g1' rfl rfl (by simp[dC,row_one h.sec.1,cF,cL]);have PS:eZ 7 (aZ (V.next+1)) (kv sb qb x sv) V3=some (aj,V3.put (V.next+1) (.cells (eT x sv (fL sb x.st.length) (lJ qb x.qs.length)))):=s7;have l8:dJ 7 (aZ (V.next+1)) (V3.put (V.next+1) (.cells (eT x sv (fL sb x.st.length) (lJ qb x.qs.length))))=some (kv sb qb x sv,V3.put (V.next+1) (.cells (eT x sv (fL sb x.st.length) (lJ qb x.qs.length)))):=bB (ao (AW.aW _ _ _)) rfl;have d0:decide ((([]:List Int).length:Int)=0)=true:=rfl;simp only[SX,d0,l7,PS,sB,EF,l8,bJ,ah];have le4:Le V (V3.put (V.next+1) (.cells (eT x sv (fL sb x.st.length) (lJ qb x.qs.length)))):=(le1.trans J1).put (by omega) _;exact⟨ak,h.mono le4,.of_le le4⟩
  |cons a t=>
   have e0:lG x i={x with st:=x.st.set i (mF x i a),qs:=x.qs.set (tZ x.v i) t}:=by unfold lG;rw[bN hk,he]
   rw[e0];rw[he]at u2;rcases id u2 with⟨hx,_⟩|⟨-,B,c,j1,j2,j3,j4,rfl,j6,j7⟩
   ·cases hx
   have pF:decide ((((a::t).length:Nat):Int)=0)=false:=aL (by rw[cQ];omega);have Ye:=bN hs;have hg0:x.st.getD i CO=x.st[i]:=by simp[List.getD,Ye]
   have l5:=b0.l (i:=5) (u:=fL sb x.st.length) rfl;have l7:dJ 7 (aZ V.next) V3=some (kv sb qb x sv,V3):=bB (ao b0.g) rfl;have lt:=b0.l (i:=1) (u:=.ae x.v.cT) rfl;have Lq:=FC (W:=V3) h3.gs Ye;have ix0:∀U:AW,pc 1 (.slice (some ⟨B,0,none⟩) (a::t).length c) (.ae 0) U=some (.pointer (some ⟨B,0,none⟩),U):=λU=>by have:=oq (z:=1) (b:=B) (o:=0) (l:=(a::t).length) (i:=0) (c:=c) (W:=U) (k:=.i64) (by rw[cQ];omega);rwa [um,gv]at this
   have la:bz (.pointer (some ⟨B,0,none⟩)) V3=some (.int .u32 a,V3):=aO (ao j7) rfl;have lun:=A0 (W:=V3) (val:=kv sb qb x sv) (more:=x.v.cT) rfl h1 h2 (cF _ _) (cF _ _) (cF _ _) (row_one h.sec.1) (cL _ _ _) (cL _ _ _);have hho:ML x.st[i] a (dY x.now x.v.cT)=mF x i a:=by unfold mF;rw[hg0]
   have st:=zI (z:=mF x i a) h3.gs Ye;simp only[SX,pF,l5,rJ hs,Lq,ix0,la,l7,lt,lun,dd,lK,qX,fQ,fN,Cv,hho,st];obtain⟨V4,hV4⟩:∃V4,V4=V3.put sb (.cells ((x.st.set i (mF x i a)).flatMap dK)):=⟨_,rfl⟩;have g4:V4.get sb=some (.cells ((x.st.set i (mF x i a)).flatMap dK)):=by rw[hV4];exact AW.aW _ _ _
   have o4:∀b,b≠sb->V4.get b=V3.get b:=λb hb=>by rw[hV4];exact AW.ay _ _ (bc hb)
   have n4:V4.next=V3.next:=by rw[hV4];rfl
   rw[<-hV4];clear hV4 st;have y5:=h.lo;have b4:Bx V4 V.next x sv (fL sb x.st.length) (lJ qb x.qs.length):=⟨(o4 _ (by omega)).trans b0.g⟩;have l6':=b4.l (i:=6) (u:=lJ qb x.qs.length) rfl;have f4:Fr V V4 sb qb:=⟨by omega,λb CU lF hb3=>(o4 b lF).trans ((J1.get _ (by omega)).trans (le1.get b CU))⟩;have f34:Fr V3 V4 sb qb:=⟨by omega,λb CU lF hb3=>o4 b lF⟩;have u4:=u2.fr f34;obtain⟨w,hw1,hw2⟩:=u4.el.from (P:=Tryz.prog) (t:=88) (kk:=.i64) (k:=1) Vk (by omega) iA (by rw[cQ];omega) (by have:=hl _ (cD hk);rw[he]at this;omega);have auW:∀U:AW,ft Tryz.prog 88 (.slice (some ⟨B,0,none⟩) (a::t).length c) (some (.ae 1)) none none U=some (w,U):=hw1;have atT:Rd V4 1 qQ w t:=hw2;have tl:t.length<=10000:=by have:=hl _ (cD hk);rw[he,cQ]at this;omega
   obtain⟨u',V5,k1,k2,k3⟩:=zB BQ iA pr atT (by omega) (by omega);have b5:Bx V5 V.next x sv (fL sb x.st.length) (lJ qb x.qs.length):=⟨(k2.get _ (by omega)).trans b4.g⟩;have gi4:=gi V4 (o4 _ (by omega));have gi5:=gi V5 ((k2.get _ (by omega)).trans (o4 _ (by omega)));have l6v:=b5.l (i:=6) (u:=lJ qb x.qs.length) rfl;have q5:V5.get qb=some (.cells qv):=(k2.get _ (by omega)).trans ((o4 _ (bc y5.2.2.2.2)).trans q1);have M5:tZ x.v i<qv.length:=by omega
   have sq:=ao9 q5 M5 k3;simp only[SX,l6',gi4,D8,auW,k1,l6v,gi5,dd,lK,fQ,fN,ixL hk,sq];obtain⟨V6,hV6⟩:∃V6,V6=V5.put qb (.cells (qv.set (tZ x.v i) u')):=⟨_,rfl⟩;have g6:V6.get qb=some (.cells (qv.set (tZ x.v i) u')):=by rw[hV6];exact AW.aW _ _ _
   have o6:∀b,b≠qb->V6.get b=V5.get b:=λb hb=>by rw[hV6];exact AW.ay _ _ (bc hb)
   have n6:V6.next=V5.next:=by rw[hV6];rfl
   rw[<-hV6];clear hV6 sq;have k2n:=k2.next;have b6:Bx V6 V.next x sv (fL sb x.st.length) (lJ qb x.qs.length):=⟨(o6 _ (by omega)).trans b5.g⟩;have l76:dJ 7 (aZ V.next) V6=some (kv sb qb x sv,V6):=bB (ao b6.g) rfl;have g1':V6.get (V.next+1)=_:=(o6 _ (by omega)).trans ((k2.get _ (by omega)).trans ((o4 _ (by omega)).trans ((J1.get _ (by omega)).trans g1)));have s7:=gE (W:=V6) (b:=V.next+1) (n:=7) (vs:=(eT x sv (fL sb x.st.length) (lJ qb x.qs.length)).toArray) g1' rfl rfl (by simp[dC,row_one h.sec.1,cF,cL]);obtain⟨V7,hV7⟩:∃V7,V7=V6.put (V.next+1) (.cells (eT x sv (fL sb x.st.length) (lJ qb x.qs.length))):=⟨_,rfl⟩;have PS:eZ 7 (aZ (V.next+1)) (kv sb qb x sv) V6=some (aj,V7):=by rw[hV7];exact s7
   have l8:dJ 7 (aZ (V.next+1)) V7=some (kv sb qb x sv,V7):=by rw[hV7];exact bB (ao (AW.aW _ _ _)) rfl
   have o7:∀b,b≠V.next+1->V7.get b=V6.get b:=λb hb=>by rw[hV7];exact AW.ay _ _ (bc hb)
   have n7:V7.next=V6.next:=by rw[hV7];rfl
   simp only[SX,l76,PS,sB,EF,l8,bJ,ah];have f57:∀b,b<V5.next->b≠qb->b≠V.next+1->V7.get b=V5.get b:=λb _ h2 h3=>(o7 b h3).trans (o6 b h2)
   have f7:Fr V V7 sb qb:=⟨by omega,λb CU lF hb3=>(f57 b (by omega) hb3 (by omega)).trans ((k2.get _ (by omega)).trans (f4.2 b CU lF hb3))⟩;refine⟨by unfold kv;simp only[pO],h.step (x':={x with st:=x.st.set i (mF x i a),qs:=x.qs.set (tZ x.v i) t}) f7 rfl ((f57 _ (by omega) y5.2.2.2.2 (by omega)).trans ((k2.get _ (by omega)).trans g4)) ⟨_,(o7 _ (by omega)).trans g6,by simp[q2],λk CZ=>?_⟩,f7⟩;have Xq:k<x.qs.length:=by simpa using CZ
   have key:∀{u:ad} {l:List Int},LS W.next sb qb V5 u l->(∀b,b=V.next+1->∀cs:List Int,V5.get b≠some (.cells (cs.flatMap qQ)))->LS W.next sb qb V7 u l:=by
    intro u l hu hb;rcases hu with hu|⟨z0,B',c',z1,z2,z3,z4,z5,z6,z7⟩
    ·exact .inl hu
    ·exact .inr ⟨z0,B',c',z1,by omega,z3,z4,z5,z6,(f57 _ z2 z4 λe=>hb B' e _ z7).trans z7⟩
   have hb:∀b,b=V.next+1->∀cs:List Int,V5.get b≠some (.cells (cs.flatMap qQ)):=by intro b hb cs e;subst hb;have e2:=(k2.get (V.next+1) (by omega)).trans ((o4 _ (by omega)).trans ((J1.get _ (by omega)).trans g1));rw[e2,oy]at e;injection e with e;injection e with e;rcases cs with - |⟨a',- |⟨b',cs⟩⟩<;>simp at e
   by_cases VT:tZ x.v i=k
   ·subst VT;refine⟨_,vK M5,?_⟩;rw[AH];exact key (.aai k3 (by have:=h.le.next;omega) (by omega) (by omega)) hb
   ·obtain⟨u'',v1,v2⟩:=q3 k Xq;refine⟨u'',by rw[vw VT];exact v1,?_⟩;rw[C2 VT];exact key ((v2.fr f34).fr (.of_le k2)) hb
 obtain⟨⟨v,V2⟩,k1,rfl,k2⟩:=hq;exact⟨V2,by rw[Ge k1,kB (by simp[bL,eH,cC])],k2⟩
end
def SD{l:List Int}{k:Nat}(hk:k<l.length):nl (λy=>decide (l[k]=y)) l<(k:Int)<->l[k]∈l.take k:=by
 have hp:(λy=>decide (l[k]=y)) l[k]=true:=by simp
 have hf:l.findIdx (λy=>decide (l[k]=y))<l.length:=List.findIdx_lt_length.2 ⟨l[k],cD hk,hp⟩;have e:nl (λy=>decide (l[k]=y)) l=((l.findIdx λy=>decide (l[k]=y):Nat):Int):=by unfold nl;rw[List.findIdx?_eq_some_iff_findIdx_eq.2 ⟨hf,rfl⟩]
 rw[e];constructor
 ·intro h;have h1:=List.findIdx_getElem (w:=hf);have h2:l[k]=l[l.findIdx λy=>decide (l[k]=y)]:=DI h1;rw[Ay];exact⟨_,by omega,h2.symm⟩
 ·intro h;rw[Ay]at h;obtain⟨j,hj,e2⟩:=h;rcases qG (l.findIdx λy=>decide (l[k]=y)) k with h|h
  ·omega
  ·have h3:=List.not_of_lt_findIdx (p:=λy=>decide (l[k]=y)) (xs:=l) (i:=j) (by omega);exfalso;exact of_decide_eq_false h3 e2.symm
def M3{W:AW}{v:ad}{l:List Int}(h:PH W v l)(hl:l.length<=10000)(x:Int):ba (.func (.func 64) #[] #[]) [v,.int .u32 x] W=some (.ae (nl (λy=>decide (x=y)) l),W):=by
 refine aP rfl ?_ Js;unfold G7;refine bh l.length (by omega) (λk R W'=>W'=W/\R 0=v/\R 1=.int .u32 x/\R 5=.ae (k:Int)/\(l.take k).any (λy=>decide (x=y))=false)
  (λr=>r.2.2=W/\((r.1=.exit 0/\nl (λy=>decide (x=y)) l= -1)\/(r.1=.ret/\r.2.1 4=.ae (nl (λy=>decide (x=y)) l)))) ⟨rfl,rfl,rfl,rfl,rfl⟩ ?_ ?_ ?_
 ·rintro k R W' hk ⟨rfl,h0,h1,h5,ha⟩;unfold tr;obtain⟨b,o,g1,-,g2⟩:=PH.get h hk;have e1:((k:Int)<(l.length:Int)):=by omega
  have e2:(k:Int)+1=((k+1:Nat):Int):=by omega
  have ea:=bm W' k 1;have lv:=jk h ph;by_cases hx:x=l[k]
  ·have d:decide (l[k]=x)=true:=aK hx.symm;simp only[SX,h0,h1,h5,lv,e1,g1,g2 _ rfl,d,ah];exact .inr ⟨by simp,ak,.inr ⟨ak,by rw[ws hk (aK hx) ha];rfl⟩⟩
  ·have d:decide (l[k]=x)=false:=aL λe=>hx e.symm
   simp only[SX,h0,h1,h5,lv,e1,g1,g2 _ rfl,d,ea,ah];exact .inl ⟨ak,ak,h0,h1,by rw[<-e2];rfl,rm hk (aL hx) ha⟩
 ·rintro R W' ⟨rfl,h0,h1,h5,ha⟩;unfold tr;have e1:¬((l.length:Int)<(l.length:Int)):=by omega
  rw[cM]at ha;simp only[SX,h0,h5,jk h ph,e1,ah];exact⟨by simp,ak,.inl ⟨ak,wC ha⟩⟩
 ·rintro⟨y,R,W'⟩ ⟨hW,hq⟩;simp only at hW hq;subst hW;rcases hq with⟨rfl,hq⟩|⟨rfl,h4⟩
  ·simp(maxDischargeDepth:=9) only[SX,MX,HX,hq]
  ·simp(maxDischargeDepth:=9) only[SX,MX,HX,h4]
def ahF{R:ai.Fr}{U:AW}{qv v1 v6:ad}{l:List Int}{K:LT->Option LT}{G:LT->Prop}(hq:PH U qv l)(hn2:l.length<=10000)
 (r1:R 1=v1)(r6:R 6=v6)(r7:R 7=qv)(r8:R 8=.ae 0)
 (hK:∀R' x,((x=.exit 4/\l.Nodup/\R' 1=v1/\R' 6=v6)\/(x=.ret/\¬l.Nodup/\R' 2=.ae 8))->Ok (K (x,R',U)) G):Ok (fb (fZ (kK ba) R U) K) G:=by
 refine bh l.length (by omega) (λk R V=>V=U/\R 1=v1/\R 6=v6/\R 7=qv/\R 8=.ae (k:Int)/\(l.take k).Nodup)
  (λr=>r.2.2=U/\((r.1=.exit 4/\l.Nodup/\r.2.1 1=v1/\r.2.1 6=v6)\/(r.1=.ret/\¬l.Nodup/\r.2.1 2=.ae 8)))
  ⟨rfl,r1,r6,r7,r8,by simp⟩ ?_ ?_ ?_
 ·rintro k R V hk ⟨rfl,r1,r6,r7,r8,GN⟩;unfold kK;have t1:decide ((k:Int)<(l.length:Int))=true:=cK;have t2:=λW'=>bm W' k 1
  have e3:((k+1:Nat):Int)=(k:Int)+1:=by omega
  obtain⟨b,o,g1,g2,g3⟩:=PH.get hq hk;have lk:=g3 V rfl;have lv:=jk hq ph;have hp:=M3 hq hn2 l[k];have Jm:l.take (k+1)=l.take k++[l[k]]:=jv hk;by_cases c0:l[k]∈l.take k
  ·have d:=aK ((SD hk).2 c0);simp only[SX,r7,r8,lv,t1,g1,lk,hp,d,ah];refine .inr ⟨by simp,ak,.inr ⟨ak,λhn=>?_,rfl⟩⟩;have h1:(l.take (k+1)).Nodup:=hn.sublist (List.take_sublist _ _);rw[Jm,Bo]at h1;exact h1.2.2 _ c0 _ (by simp) rfl
  ·have d:=aL λe=>c0 ((SD hk).1 e)
   simp only[SX,r7,r8,lv,t1,g1,lk,hp,d,t2,ah];refine .inl ⟨ak,ak,r1,r6,r7,by rw[e3];rfl,?_⟩;rw[Jm,Bo];refine⟨GN,by simp,λa ha b hb=>?_⟩;rw[ko]at hb;subst hb;exactλe=>c0 (e▸ha)
 ·rintro R V ⟨rfl,r1,r6,r7,r8,GN⟩;unfold kK;have t1:decide ((l.length:Int)<(l.length:Int))=false:=cg;rw[cM]at GN;simp only[SX,r7,r8,jk hq ph,t1,ah];exact⟨by simp,ak,.inl ⟨ak,GN,r1,r6⟩⟩
 ·rintro⟨e,R,V⟩ ⟨h1,h2⟩;simp only at h1 h2;subst h1;exact hK R e h2
def ahW{y:fx}:TR y=true<->DE y≠0:=by unfold TR;simp
def Tc{W:AW}{x:cI}{sv sq qq:ad}(hs:eW W sv x.v.ax)(hv:x.v.ax.length<1000)(hr:∀s∈x.v.ax,s.rows.length<1000)(nh:PL W sq x.st)(hq:PF W qq x.qs)(hn:x.st.length<=10000)(hqn:x.qs.length<=10000)(hl:∀l∈x.qs,l.length<=10000):
 ba (.func (.func 31) #[] #[]) [ka x sv sq qq] W=some (.ae (PK x),W):=by
 refine aP rfl ?_ K9;unfold G1 PK;obtain⟨V,hV⟩:∃V,V=W.add (.cells (eT x sv sq qq)):=⟨_,rfl⟩;have aM:Le W V:=by rw[hV];exact(Le.refl W).add _
 have g1:V.get W.next=some (.cells (eT x sv sq qq)):=by rw[hV];exact AW.aI _ _
 have nV:V.next=W.next+1:=by rw[hV];rfl
 have l4:dJ 4 (.pointer (some ⟨W.next,0,none⟩)) V=some (eQ x.v sv,V):=bB (ao g1) rfl;have l3:bz (.pointer (some ⟨W.next,3,none⟩)) V=some (sv,V):=aO (ao g1) rfl;have ln:bz (.pointer (some ⟨W.next,4,none⟩)) V=some (.ae x.now,V):=aO (ao g1) rfl;have l5:bz (.pointer (some ⟨W.next,5,none⟩)) V=some (sq,V):=aO (ao g1) rfl;have l6:bz (.pointer (some ⟨W.next,6,none⟩)) V=some (qq,V):=aO (ao g1) rfl;have t7:=qT (W:=V) (hs.mono aM).1 hv hr;simp only[SX];rw[<-hV];clear hV;simp only[SX,aJ,l4,t7];by_cases c1:(b9 x.v).2=0;case neg=>have d:=aL c1;simp only[SX,d,ap c1,ah];exact⟨ak,aM⟩
 have d1:=aK c1;rw[an c1];by_cases c2:x.now<0
 ·have d:=aK c2;simp only[SX,d1,ln,d,an c2,ah];exact⟨ak,aM⟩
 have d2:=aL c2;rw[ap c2];have lq:=Row.len hq zg;have Lq:=jk nh uS;by_cases c3:(x.st.length:Int)≠(b9 x.v).1
 ·have d:=aL c3;simp only[SX,d1,ln,d2,l5,Lq,d,an c3,ah];exact⟨ak,aM⟩
 have d3:decide ((x.st.length:Int)=(b9 x.v).1)=true:=aK (IH.1 c3);rw[ap c3];by_cases c4:x.qs.length≠x.v.ax.length
 ·have d:decide ((x.qs.length:Int)=(x.v.ax.length:Int))=false:=cg;simp only[SX,d1,aJ,ln,d2,l5,Lq,d3,l6,lq,l3,Row.len hs.1 zq,d,an c4,ah];exact⟨ak,aM⟩
 have d4:decide ((x.qs.length:Int)=(x.v.ax.length:Int))=true:=cK;rw[ap c4];simp only[SX,d1,aJ,ln,d2,l5,Lq,d3,l6,lq,l3,Row.len hs.1 zq,d4];have e5:(b9 x.v).1=(x.st.length:Int):=by omega
 refine bh x.st.length (by omega) (λk R U=>U=V/\R 1=aZ W.next/\R 3=.ae (x.st.length:Int)/\R 5=.ae (k:Int)/\(x.st.take k).any TR=false)
  (λr=>r.2.2=V/\r.2.1 1=aZ W.next/\((r.1=.exit 0/\x.st.any TR=false)\/(r.1=.ret/\x.st.any TR=true/\r.2.1 2=.ae 6))) ⟨rfl,rfl,by rw[<-e5];rfl,rfl,rfl⟩ ?_ ?_ ?_
 ·rintro k R U hk ⟨rfl,r1,r3,r5,ha⟩;unfold tO;have t1:decide ((k:Int)<(x.st.length:Int))=true:=cK;have t2:=λW'=>bm W' k 1
  have e3:((k+1:Nat):Int)=(k:Int)+1:=by omega
  obtain⟨b,o,p1,p2,p3⟩:=PL.get (nh.keep aM) hk;by_cases c6:DE x.st[k]=0
  ·have d:=aK c6;have hx:TR x.st[k]=false:=by unfold TR;rw[d];rfl
   simp only[SX,r1,r3,r5,t1,aJ,l5,p1,p3 _ rfl,iJ,d,t2,ah];exact .inl ⟨ak,ak,r1,r3,by rw[e3];rfl,rm hk hx ha⟩
  ·have d:=aL c6;simp only[SX,r1,r3,r5,t1,aJ,l5,p1,p3 _ rfl,iJ,d,ah];exact .inr ⟨by simp,ak,r1,.inr ⟨ak,xk.2 ⟨_,cD hk,ahW.2 c6⟩,rfl⟩⟩
 ·rintro R U ⟨rfl,r1,r3,r5,ha⟩;unfold tO;have t1:decide ((x.st.length:Int)<(x.st.length:Int))=false:=cg;rw[cM]at ha;simp only[SX,r3,r5,t1,ah];exact⟨by simp,ak,r1,.inl ⟨ak,ha⟩⟩
 rintro⟨e,R,U⟩ ⟨h1,h2,h3⟩;simp only at h1 h2 h3;subst h1;rcases h3 with⟨rfl,ha⟩|⟨rfl,ha,r2⟩;case inr=>simp only[SX,r2,an ha,ah];exact⟨ak,aM⟩
 rw[ap (by rw[ha];decide)];simp only[SX];refine bh x.qs.length (by omega) (λk R W'=>W'=U/\R 1=aZ W.next/\R 6=.ae (k:Int)/\qE x k=0)
  (λr=>r.2.2=U/\((r.1=.exit 2/\qE x x.qs.length=0)\/(r.1=.ret/\r.2.1 2=.ae (qE x x.qs.length)))) ⟨rfl,h2,rfl,rfl⟩ ?_ ?_ ?_
 ·rintro k R U hk ⟨rfl,r1,r6,hz⟩;unfold tH;have t1:decide ((k:Int)<(x.qs.length:Int))=true:=cK;have t2:=λW'=>bm W' k 1
  have e3:((k+1:Nat):Int)=(k:Int)+1:=by omega
  obtain⟨b,i,u,p1,p2,p3,p4⟩:=hq.get hk;have lu:=p4 U (aM.get _ p2);have T3:k<x.v.ax.length:=by omega
  obtain⟨b',i',rv,s1,-,-,-,-,s5⟩:=gZ.get hs.1 T3;have e0:x.qs[k]=gJ x k:=by simp[gJ,bN hk]
  have eq0:x.v.ax[k].q=yr x.v k:=by unfold yr;rw[bN T3];rfl
  have Z0:=s5 U aM;rw[eq0]at Z0;rw[e0]at p3;have ul:=jk p3 ph;have uD:qE x (k+1)=yx x k:=by show(if qE x k=0 then yx x k else qE x k)=_;rw[an hz]
  by_cases c6:yr x.v k<((gJ x k).length:Int)
  ·have d:=aK c6;simp only[SX,r1,r6,t1,l6,lq,p1,lu,ul,aJ,l3,s1,Z0,d,ah];have hb:yx x k=3:=an c6;refine .inr ⟨by simp,ak,.inr ⟨ak,?_⟩⟩;rw[IB (k:=k+1) (by rw[uD,hb];decide) (by omega),uD,hb];rfl
  ·have d:=aL c6;simp only[SX,r1,r6,t1,l6,lq,p1,lu,ul,aJ,l3,s1,Z0,d];refine ahF (U:=U) (qv:=u) (v1:=aZ W.next) (v6:=.ae (k:Int)) (l:=gJ x k) (p3.keep aM) (by rw[<-e0];exact hl _ (cD _)) r1 r6 rfl rfl ?_;rintro R' y (⟨rfl,GN,q1,q6⟩|⟨rfl,GN,q2⟩)
   ·simp only[SX,q6,t2,ah];refine .inl ⟨ak,ak,q1,by rw[e3];rfl,?_⟩;rw[uD];unfold yx;rw[ap c6,an GN]
   ·simp only[SX,ah];have hb:yx x k=8:=by unfold yx;rw[ap c6,ap GN]
    refine .inr ⟨by simp,ak,.inr ⟨ak,?_⟩⟩;rw[IB (k:=k+1) (by rw[uD,hb];decide) (by omega),uD,hb];exact q2
 ·rintro R W' ⟨rfl,r1,r6,hz⟩;unfold tH;have t1:decide ((x.qs.length:Int)<(x.qs.length:Int))=false:=cg;simp only[SX,r1,r6,aJ,l6,lq,t1,ah];exact⟨by simp,ak,.inl ⟨ak,hz⟩⟩
 ·rintro⟨y,R,W'⟩ ⟨hW,hq⟩;simp only at hW hq;subst hW;rcases hq with⟨rfl,hq⟩|⟨rfl,h4⟩
  ·simp only[SX,hq,ah];exact⟨ak,aM⟩
  ·simp only[SX,h4,ah];exact⟨ak,aM⟩
def Sr(k:Int):Bool:=decide (k≠1/\k≠9/\k≠12)
def UP(k:Int)(W:AW):ba (.func (.func 65) #[] #[]) [.ae k] W=some (.bool (Sr k),W):=by
 refine aP rfl ?_ Fb;unfold B6 Sr;by_cases k1:k=1
 ·have d:=aK k1;have e:=aL (show¬(k≠1/\k≠9/\k≠12)by omega);simp(maxDischargeDepth:=9) only[SX,MX,HX,d,e]
 have d1:=aL k1;by_cases k9:k=9
 ·have d:=aK k9;have e:=aL (show¬(k≠1/\k≠9/\k≠12)by omega);simp(maxDischargeDepth:=9) only[SX,MX,HX,d1,d,e]
 have d9:=aL k9;by_cases k12:k=12
 ·have d:=aK k12;have e:=aL (show¬(k≠1/\k≠9/\k≠12)by omega);simp(maxDischargeDepth:=9) only[SX,MX,HX,d1,d9,d,e]
 ·have d:=aL k12;have e:=aK (show(k≠1/\k≠9/\k≠12)by omega);simp(maxDischargeDepth:=9) only[SX,MX,HX,d1,d9,d,e]
section
variable {W:AW} {b ob:Nat} {sh cT fm now bP sec ns nq:Int} {sv sq qq:ad} {o:jC}
def afL(hc:aH W b=some [.ae sh,.ae cT,.ae fm,sv,.ae now,sq,qq])(ho:aH W ob=some (AJ o))(hs:∀W',aV Tryz.prog .len #[31] 3 #[false] [sq] W'=some (.ae ns,W'))(hq:∀W',aV Tryz.prog .len #[22] 3 #[false] [sv] W'=some (.ae nq,W'))(c:Bool):
 lE ba (aZ b) (aZ ob) (.ae bP) (.ae sec) (.bool c) W=some (.ae (bif c then ZU o.k sec nq o.n else By bP ns),W):=by
 unfold lE;cases c
 ·unfold By;by_cases c:bP<0
  ·have d:=aK c;simp(maxDischargeDepth:=9) only[SX,MX,d,gw,an (Or.inl c)]
  ·have d:=aL c;by_cases c2:ns<=bP
   ·have d2:=aK c2;simp(maxDischargeDepth:=9) only[SX,MX,d,hc,hs,d2,gw,an (Or.inr c2)]
   ·have d2:=aL c2;simp(maxDischargeDepth:=9) only[SX,MX,d,hc,hs,d2,gw,ap (show¬(bP<0\/ns<=bP)by omega)]
 unfold ZU;by_cases c:sec<0
 ·have d:=aK c;simp(maxDischargeDepth:=9) only[SX,MX,d,eU,an (Or.inl c)]
 have d:=aL c;by_cases c2:nq<=sec
 ·have d2:=aK c2;simp(maxDischargeDepth:=9) only[SX,MX,d,hc,hq,d2,eU,an (Or.inr c2)]
 have d2:=aL c2;have e0:¬(sec<0\/nq<=sec):=by omega
 by_cases k3:o.k=3
 ·have d3:=aK k3;by_cases n1:o.n<1
  ·have d4:=aK n1;simp(maxDischargeDepth:=9) only[SX,MX,d,hc,hq,ho,d2,d3,d4,eU,ap e0,an (show o.k=3/\(o.n<1\/8<o.n)from⟨k3,.inl n1⟩)]
  ·have d4:=aL n1;by_cases n2:8<o.n
   ·have d5:=aK n2;simp(maxDischargeDepth:=9) only[SX,MX,d,hc,hq,ho,d2,d3,d4,d5,eU,ap e0,an (show o.k=3/\(o.n<1\/8<o.n)from⟨k3,.inr n2⟩)]
   ·have d5:=aL n2;simp(maxDischargeDepth:=9) only[SX,MX,d,hc,hq,ho,d2,d3,d4,d5,eU,ap e0,ap (show¬(o.k=3/\(o.n<1\/8<o.n))by omega)]
 ·have d3:=aL k3;simp(maxDischargeDepth:=9) only[SX,MX,HX,d,hc,hq,ho,d2,d3,eU,ap e0,ap (show¬(o.k=3/\(o.n<1\/8<o.n))fromλz=>k3 z.1)]
def awN(hc:aH W b=some [.ae sh,.ae cT,.ae fm,sv,.ae now,sq,qq])(ho:aH W ob=some (AJ o))(hs:∀W',aV Tryz.prog .len #[31] 3 #[false] [sq] W'=some (.ae ns,W'))(hq:∀W',aV Tryz.prog .len #[22] 3 #[false] [sv] W'=some (.ae nq,W'))(c:Bool):
 lh ba (aZ b) (aZ ob) (.ae bP) (.ae sec) (.ae o.k) (.bool c) W=some (.ae (bif c then 0 else w3 o.k (ZU o.k sec nq o.n) (By bP ns)),W):=by
 unfold lh w3;cases c
 ·by_cases k3:o.k=3
  ·have d3:=aK k3;simp(maxDischargeDepth:=9) only[SX,d3,afL hc ho hs hq,eU,gw,an (show o.k=3\/o.k=10\/o.k=11 from .inl k3)]
  have d3:=aL k3;by_cases k4:o.k=10
  ·have d4:=aK k4;simp(maxDischargeDepth:=9) only[SX,d3,d4,afL hc ho hs hq,eU,gw,an (show o.k=3\/o.k=10\/o.k=11 from .inr (.inl k4))]
  have d4:=aL k4;by_cases k5:o.k=11
  ·have d5:=aK k5;simp(maxDischargeDepth:=9) only[SX,d3,d4,d5,afL hc ho hs hq,eU,gw,an (show o.k=3\/o.k=10\/o.k=11 from .inr (.inr k5))]
  ·have d5:=aL k5;simp(maxDischargeDepth:=9) only[SX,d3,d4,d5,afL hc ho hs hq,gw,ap (show¬(o.k=3\/o.k=10\/o.k=11)by omega)]
 ·simp(maxDischargeDepth:=9) only[SX,eU]
end
def lg{o:jC}(h:Bp o=0)(W:AW):ba (.func (.func 66) #[] #[]) [wa o] W=some (.tuple #[.ae (cO o),.ae (py o),.ae 0],W):=by have:=O2 o.k o.ow o.un o.se o.sc o.n o.to o.t1 o.t2 o.t3 o.t4 o.nw W;rw[show zH o.k o.ow o.un o.se o.sc o.n o.to o.t1 o.t2 o.t3 o.t4 o.nw=Bp o from rfl,aa3 h]at this;exact this
def X9{W:AW}{x:cI}{sv sq qq:ad}{o:jC}(hk:Bp o=0)(hs:eW W sv x.v.ax)(nh:PL W sq x.st)(hq:x.qs.length=x.v.ax.length):
 ba (.func (.func 33) #[] #[]) [ka x sv sq qq,wa o] W=some (.ae (PN x o),W):=by
 refine aP rfl ?_ KQ;unfold GX PN wrE;obtain⟨V,hV⟩:∃V,V=(W.add (.cells (eT x sv sq qq))).add (.cells (AJ o)):=⟨_,rfl⟩;have aM:Le W V:=by rw[hV];exact((Le.refl W).add _).add _
 have hc:aH V W.next=some (eT x sv sq qq):=by rw[hV];simp(maxDischargeDepth:=9) only[MX,HX]
 have ho:aH V (W.next+1)=some (AJ o):=by rw[hV];simp(maxDischargeDepth:=9) only[MX,HX]
 have Jo:dJ 12 (aZ (W.next+1)) V=some (wa o,V):=bB ho rfl;have ajs:∀W',aV Tryz.prog .len #[31] 3 #[false] [sq] W'=some (.ae (x.st.length:Int),W'):=λW'=>jk nh uS _ _ _
 have ac1:∀W',aV Tryz.prog .len #[22] 3 #[false] [sv] W'=some (.ae (x.qs.length:Int),W'):=λW'=>by rw[hq];exact Row.len hs.1 zq _ _ _
 have hK:=Ko hk;have key:Ok (lh ba (aZ W.next) (aZ (W.next+1)) (.ae (cO o)) (.ae (py o)) (.ae o.k) (.bool (decide (o.k=1))) V) (λr=>True)\/True:=.inr trivial;have j2:=λc=>awN (W:=V) (b:=W.next) (ob:=W.next+1) (bP:=cO o) (sec:=py o) (o:=o) hc ho ajs ac1 c
 simp only[SX,AW.av];rw[<-hV];clear hV;have lk:bz (aZ (W.next+1)) V=some (.ae o.k,V):=aO ho rfl;have lo1:bz (.pointer (some ⟨W.next+1,1,none⟩)) V=some (.int .u32 o.ow,V):=aO ho rfl;have lo2:bz (.pointer (some ⟨W.next+1,2,none⟩)) V=some (.ae o.un,V):=aO ho rfl;have lo8:bz (.pointer (some ⟨W.next+1,8,none⟩)) V=some (.int .u32 o.t2,V):=aO ho rfl;have ln:bz (.pointer (some ⟨W.next,4,none⟩)) V=some (.ae x.now,V):=aO hc rfl;have JO:=UP o.k V;have mu:∀(P:Prop),(o.k=1\/o.k=12<->P)->True:=λ_ _=>trivial
 by_cases k1:o.k=1
 ·have s0:Sr o.k=false:=cg;have d8:=aL (show¬o.k=8 by omega);have d6:=aL (show¬o.k=6 by omega);have d7:=aL (show¬o.k=7 by omega);have d1:=aK k1;rw[an (.inl k1)];simp only[SX,aJ,lk,JO,s0,d8,d6,d7,Jo,lg hk,d1,j2,eU,ah];exact⟨ak,aM⟩
 have d1:=aL k1;by_cases k12:o.k=12
 ·have s0:Sr o.k=false:=cg;have d8:=aL (show¬o.k=8 by omega);have d6:=aL (show¬o.k=6 by omega);have d7:=aL (show¬o.k=7 by omega);have d12:=aK k12;rw[an (.inr k12)];simp only[SX,aJ,lk,JO,s0,d8,d6,d7,Jo,lg hk,d1,d12,j2,eU,ah];exact⟨ak,aM⟩
 have d12:=aL k12;rw[bM];by_cases ce:o.k≠9/\o.un<=x.now
 ·have s0:Sr o.k=true:=cK;have d:=aK ce.2;rw[an ce];simp only[SX,aJ,lk,JO,s0,lo2,ln,d,ah];exact⟨ak,aM⟩
 rw[ap ce];by_cases cw:(o.k=8/\o.ow≠0)\/((o.k=6\/o.k=7)/\o.ow≠o.t2)
 ·have s0:Sr o.k=true:=cK;have d:=aL (show¬o.un<=x.now by omega);rw[an cw];by_cases k8:o.k=8
  ·have d8:=aK k8;have dw:=aL (show¬o.ow=0 by omega);simp only[SX,aJ,lk,JO,s0,lo2,ln,d,d8,lo1,dw,aiM,ah];exact⟨ak,aM⟩
  ·have d8:=aL k8;have dw:=aL (show¬o.t2=o.ow by omega);by_cases k6:o.k=6
   ·have d6:=aK k6;simp only[SX,aJ,lk,JO,s0,lo2,ln,d,d8,d6,lo1,lo8,dw,ah];exact⟨ak,aM⟩
   ·have d6:=aL k6;have d7:=aK (show o.k=7 by omega);simp only[SX,aJ,lk,JO,s0,lo2,ln,d,d8,d6,d7,lo1,lo8,dw,ah];exact⟨ak,aM⟩
 rw[ap cw];have eR:w3 o.k (ZU o.k (py o) (x.qs.length:Int) o.n) (By (cO o) (x.st.length:Int))=if o.k=3\/o.k=10\/o.k=11 then ZU o.k (py o) (x.qs.length:Int) o.n else By (cO o) (x.st.length:Int):=rfl
 rw[<-eR];by_cases k9:o.k=9
 ·have s0:Sr o.k=false:=cg;have d8:=aL (show¬o.k=8 by omega);have d6:=aL (show¬o.k=6 by omega);have d7:=aL (show¬o.k=7 by omega);simp only[SX,aJ,lk,JO,s0,d8,d6,d7,Jo,lg hk,d1,d12,j2,gw,ah];exact⟨ak,aM⟩
 have s0:Sr o.k=true:=cK;have d:=aL (show¬o.un<=x.now by omega);by_cases k8:o.k=8
 ·have d8:=aK k8;have dw:=aK (show o.ow=0 by omega);have d6:=aL (show¬o.k=6 by omega);have d7:=aL (show¬o.k=7 by omega);simp only[SX,aJ,lk,JO,s0,lo2,ln,d,d8,lo1,dw,d6,d7,Jo,lg hk,d1,d12,j2,gw,ah];exact⟨ak,aM⟩
 have d8:=aL k8;by_cases k6:o.k=6
 ·have d6:=aK k6;have dw:=aK (show o.t2=o.ow by omega);simp only[SX,aJ,lk,JO,s0,lo2,ln,d,d8,d6,lo1,lo8,dw,Jo,lg hk,d1,d12,j2,gw,ah];exact⟨ak,aM⟩
 have d6:=aL k6;by_cases k7:o.k=7
 ·have d7:=aK k7;have dw:=aK (show o.t2=o.ow by omega);simp only[SX,aJ,lk,JO,s0,lo2,ln,d,d8,d6,d7,lo1,lo8,dw,Jo,lg hk,d1,d12,j2,gw,ah];exact⟨ak,aM⟩
 have d7:=aL k7;simp only[SX,aJ,lk,JO,s0,lo2,ln,d,d8,d6,d7,Jo,lg hk,d1,d12,j2,gw,ah];exact⟨ak,aM⟩
abbrev UN:Type:={v:ad//Eng.one v=true}
def Cu(a:UN):List ad:=[a.1]
def Kh(a:UN):(Cu a).length=1:=rfl
def QN(a:UN):(Cu a).all Eng.one=true:=by unfold Cu;simp[a.2]
def aih:kZ Tryz.prog #[32,32] 1 24=true:=by kernel_rfl
def aiG{u:ad}(h:Mb u)(W:AW):cJ Tryz.prog 32 1 [(0,u)] W=some (.slice (some ⟨W.next,0,none⟩) 1 1,W.add (.cells [u])):=by rcases h with⟨b,l,c,rfl⟩|⟨l,c,rfl⟩<;>exact aS (by kernel_rfl) rfl
def LS.Mb{lo sb qb:Nat}{W:AW}{u:ad}{l:List Int}(h:LS lo sb qb W u l):Eng.Mb u:=by
 rcases h with⟨-,rfl|⟨B,rfl⟩⟩|⟨-,B,c,-,-,-,-,rfl,-⟩
 ·exact .inr ⟨_,_,rfl⟩
 ·exact .inl ⟨_,_,_,rfl⟩
 ·exact .inl ⟨_,_,_,rfl⟩
def Yc{R:ai.Fr}{U:AW}{lo sb b0:Nat}{v2 sq qq:ad}{x:cI}{sv:ad}{K:LT->Option (ad×AW)}{G:ad×AW->Prop}(hq:PF U qq x.qs)(hqn:x.qs.length<=10000)(hl:∀l∈x.qs,l.length<=10000)(g0:U.get b0=some (.cells (eT x sv sq qq)))(S2:b0<U.next)(y5:lo<=U.next)(hsb:sb<U.next)(h0:x.qs≠[])
 (r1:R 1=aZ b0)(r2:R 2=v2)(r3:R 3=.slice none 0 0)(r4:R 4=.ae 0)
 (hK:∀R' V qb,R' 1=aZ b0->R' 2=v2->R' 3=lJ qb x.qs.length->Le U V->U.next<=qb->qb<V.next->(∃qv,V.get qb=some (.cells qv)/\qv.length=x.qs.length/\∀k (h:k<x.qs.length),∃u,qv[k]? =some u/\LS lo sb qb V u x.qs[k])->Ok (K (.exit 0,R',V)) G):Ok (fb (fZ (qo ba) R U) K) G:=by
 refine bh x.qs.length (by omega) (λk R V=>Le U V/\R 1=aZ b0/\R 2=v2/\R 4=.ae (k:Int)/\
  ∃(us:List UN) (bo:Option Nat) (out:ad),R 3=out/\us.length=k/\fE V 1 Cu out us bo/\(∀B,bo=some B->U.next<=B)/\∀j (h:j<us.length) (h':j<x.qs.length),LS lo sb (bo.getD b0) V us[j].1 x.qs[j])
  (λr=>r.1=.exit 0/\Le U r.2.2/\r.2.1 1=aZ b0/\r.2.1 2=v2/\
    ∃(us:List UN) (bo:Option Nat) (out:ad),r.2.1 3=out/\us.length=x.qs.length/\fE r.2.2 1 Cu out us bo/\(∀B,bo=some B->U.next<=B)/\∀j (h:j<us.length) (h':j<x.qs.length),LS lo sb (bo.getD b0) r.2.2 us[j].1 x.qs[j])
  ⟨Le.refl _,r1,r2,r4,[],none,_,r3,rfl,.inl ⟨rfl,rfl,rfl⟩,λ_ h=>(by cases h),λj h=>absurd h (by simp)⟩ ?_ ?_ ?_
 ·rintro k R V hk ⟨aM,r1,r2,r4,us,bo,out,r3,e1,e2,e3,e4⟩;unfold qo;have t1:decide ((k:Int)<(x.qs.length:Int))=true:=cK;have t2:=λW'=>bm W' k 1
  have e5:((k+1:Nat):Int)=(k:Int)+1:=by omega
  have l6:∀V',Le U V'->bz (.pointer (some ⟨b0,6,none⟩)) V'=some (qq,V'):=λV' h=>aO (ao ((h.get _ S2).trans g0)) rfl
  have lq:=Row.len hq zg;obtain⟨b,i,u,p1,p2,p3,p4⟩:=hq.get hk;have lu:=p4 (V.add (.cells [])) ((aM.trans ((Le.refl V).add _)).get _ p2);obtain⟨u',V2,c1,c2,c3⟩:=zB BQ iA pr (p3.keep aM) (by have:=hl _ (cD hk);omega) (by have:=hl _ (cD hk);omega);have hUV:=aM.next;have c2n:=c2.next;have ak9:∀B,bo=some B->B<V.next:=λB h=>e2.lt h
  have as3:bo.getD b0<V.next:=by
   cases bo with
   |none=>exact ff S2 hUV
   |some B=>exact ak9 B rfl
  have hLS:LS lo sb (bo.getD b0) V2 u' x.qs[k]:=.aai c3 (by omega) (by omega) as3;have e2':fE (V2.add (.cells (Cu ⟨u',hLS.Mb.one⟩))) 1 Cu out us bo:=e2.keep (by rw[AW.av];omega) λB hB=>(AW.aE _ _ (by have:=ak9 B hB;omega)).trans (c2.get _ (ak9 B hB))
  obtain⟨v',V3,k1,k2,k3,k4⟩:=e2'.push aih Kh QN (b:=V2.next) (c:=1) bF (by omega) (by omega);have k1':dn Tryz.prog (V2.add (.cells [u'])) #[32,32] out (.slice (some ⟨V2.next,0,none⟩) 1 1)=some (v',V3):=k1;rw[AW.av]at k2 k3 k4;simp only[SX,r1,r3,r4,aJ,l6 V aM,lq,t1,D8,l6 _ (aM.trans ((Le.refl V).add _)),p1,lu,c1,aiG hLS.Mb,k1',t2,ah];have aiX:∀{u l},LS lo sb (bo.getD b0) V2 u l->LS lo sb (V2.next+1) V3 u l:=by
   intro u l hu;rcases hu with hu|⟨z0,B',c',z1,z2,z3,z4,z5,z6,z7⟩
   ·exact .inl hu
   ·refine .inr ⟨z0,B',c',z1,by omega,z3,by omega,z5,z6,(k4 B' (by omega) λe=>?_).trans ((AW.aE _ _ (by omega)).trans z7)⟩;rw[e]at z4;exact z4 rfl
  refine .inl ⟨ak,⟨by omega,λc hc=>(k4 c (by omega) λe=>by have:=e3 c e;omega).trans ((AW.aE _ _ (by omega)).trans ((c2.get _ (by omega)).trans (aM.get _ hc)))⟩,r1,r2,by rw[e5];rfl,us++[⟨u',hLS.Mb.one⟩],some (V2.next+1),v',rfl,by simp[e1],k2,λB hB=>by injection hB with hB;omega,λj hj hj'=>?_⟩;rw[pk];rw[cx,Eu]at hj;rcases qG j us.length with ZZ|ZZ
  ·rw[List.getElem_append_left ZZ];exact aiX ((e4 j ZZ hj').fr (.of_le c2))
  ·have:j=us.length:=by omega
   subst this;rw[List.getElem_append_right (aQ _)];simp only[sk,List.getElem_cons_zero];have:x.qs[us.length]=x.qs[k]:=by simp[e1]
   rw[this];exact aiX hLS
 ·rintro R V ⟨aM,r1,r2,r4,us,bo,out,r3,e1,e2,e3,e4⟩;unfold qo;have t1:decide ((x.qs.length:Int)<(x.qs.length:Int))=false:=cg;have l6:bz (.pointer (some ⟨b0,6,none⟩)) V=some (qq,V):=aO (ao ((aM.get _ S2).trans g0)) rfl;simp only[SX,r1,r4,aJ,l6,Row.len hq zg,t1,ah];exact⟨by simp,ak,aM,r1,r2,us,bo,out,r3,e1,e2,e3,e4⟩
 ·rintro⟨e,R,V⟩ ⟨rfl,a1,a2,a3,us,bo,out,r3,e1,e2,e3,e4⟩;rcases e2 with⟨e2,-⟩|⟨-,B,rfl,h1,h2,h3⟩
  ·exact absurd (mw.1 (by rw[<-e1,e2];rfl)) h0
  rw[e1]at h2;refine hK R V B a2 a3 (r3.trans h2) a1 (e3 B rfl) h1 ⟨_,h3,by rw[bZ Kh,gK,e1],λk hk=>⟨_,?_,e4 k (by omega) hk⟩⟩;have hf:us.flatMap Cu=us.map (·.1):=by
   clear e4 h3 h2 e1;induction us with
   |nil=>rfl
   |cons a us ih=>rw[fy,ih];rfl
  rw[hf,jJ,bN (by omega)];rfl
def Z8{Z W:AW}{x:cI}{sv sq qq:ad}(hz:Le Z W)(hs:eW Z sv x.v.ax)(nh:PL W sq x.st)(hq:PF W qq x.qs)(h0:x.st≠[])(h0q:x.qs≠[])(hn:x.st.length<=10000)(hqn:x.qs.length<=10000)(hl:∀l∈x.qs,l.length<=10000):
 ∃V sb qb,ba (.func (.func 34) #[] #[]) [ka x sv sq qq] W=some (kv sb qb x sv,V)/\ki Z W V sb qb x sv:=by
 have hq':Ok (CN ba (ka x sv sq qq) W) λr=>∃sb qb,r.1=kv sb qb x sv/\ki Z W r.2 sb qb x sv:=by
  unfold CN;obtain⟨V,hV⟩:∃V,V=(W.add (.cells (eT x sv sq qq))).add (.cells [.ae 0,.ae 0,.ae 0,.slice none 0 0,.ae 0,.slice none 0 0,.slice none 0 0]):=⟨_,rfl⟩;have aM:Le W V:=by rw[hV];exact((Le.refl W).add _).add _
  have g1:V.get W.next=some (.cells (eT x sv sq qq)):=by rw[hV];exact(AW.aE _ _ (by rw[AW.av];omega)).trans (AW.aI _ _)
  have g2:V.get (W.next+1)=some (.cells [.ae 0,.ae 0,.ae 0,.slice none 0 0,.ae 0,.slice none 0 0,.slice none 0 0]):=by rw[hV,<-AW.av W (.cells (eT x sv sq qq))];exact AW.aI _ _
  have nV:V.next=W.next+2:=by rw[hV];rfl
  simp only[SX,oE,AW.av];rw[<-hV];clear hV;have amC:=nh.keep aM;obtain⟨u,V2,c1,c2,c3⟩:=UQ aoE ni VX amC (by omega) (by omega);rcases c3 with⟨h,-⟩|⟨-,sb,b1,b2,rfl,b4⟩
  ·exact absurd h h0
  have l5:bz (.pointer (some ⟨W.next,5,none⟩)) (V.add (.cells []))=some (sq,V.add (.cells [])):=aO (ao ((AW.aE _ _ (by omega)).trans g1)) rfl;have g1':V2.get W.next=some (.cells (eT x sv sq qq)):=(c2.get _ (by omega)).trans g1;have s5:eZ 1 (.pointer (some ⟨W.next,5,none⟩)) (fL sb x.st.length) V2=some (aj,V2.put W.next (.cells (eT x sv (fL sb x.st.length) qq))):=by rw[js,cR g1'];rfl
  simp only[SX,aJ,aeg,l5,c1,s5];obtain⟨V3,wZ⟩:∃V3,V3=V2.put W.next (.cells (eT x sv (fL sb x.st.length) qq)):=⟨_,rfl⟩;have g3:V3.get W.next=some (.cells (eT x sv (fL sb x.st.length) qq)):=by rw[wZ];exact AW.aW _ _ _
  have o3:∀b,b≠W.next->V3.get b=V2.get b:=λb hb=>by rw[wZ];exact AW.ay _ _ (bc hb)
  have n3:V3.next=V2.next:=by rw[wZ];rfl
  have BB:Le W V3:=by rw[wZ];exact(aM.trans c2).put (aQ _) _
  rw[<-wZ];clear wZ;have c2n:=c2.next;refine Yc (U:=V3) (lo:=W.next) (sb:=sb) (b0:=W.next) (v2:=aZ (W.next+1)) (sv:=sv) (sq:=fL sb x.st.length) (x:=x) (hq.mono BB) hqn hl g3 (by omega) (by omega) (by omega) h0q rfl rfl rfl rfl ?_;intro R' V4 qb q1 q2 q3 q4 q5 q6 q7;have q4n:=q4.next;have g4:V4.get W.next=some (.cells (eT x sv (fL sb x.st.length) qq)):=(q4.get _ (by omega)).trans g3;have s6:eZ 1 (.pointer (some ⟨W.next,6,none⟩)) (lJ qb x.qs.length) V4=some (aj,V4.put W.next (.cells (eT x sv (fL sb x.st.length) (lJ qb x.qs.length)))):=by rw[js,cR g4];rfl
  have l7:dJ 7 (aZ W.next) (V4.put W.next (.cells (eT x sv (fL sb x.st.length) (lJ qb x.qs.length))))=some (kv sb qb x sv,V4.put W.next (.cells (eT x sv (fL sb x.st.length) (lJ qb x.qs.length)))):=
   bB (ao (AW.aW _ _ _)) rfl
  have g5:(V4.put W.next (.cells (eT x sv (fL sb x.st.length) (lJ qb x.qs.length)))).get (W.next+1)=some (.cells [.ae 0,.ae 0,.ae 0,.slice none 0 0,.ae 0,.slice none 0 0,.slice none 0 0]):=
   (AW.ay _ _ (by omega)).trans ((q4.get _ (by omega)).trans ((o3 _ (by omega)).trans ((c2.get _ (by omega)).trans g2)))
  have s7:=gE (W:=V4.put W.next (.cells (eT x sv (fL sb x.st.length) (lJ qb x.qs.length)))) (vs:=(eT x sv (fL sb x.st.length) (lJ qb x.qs.length)).toArray) g5 (n:=7) rfl rfl (by simp[dC,row_one hs.1,cF,cL]);obtain⟨V5,Ml⟩:∃V5,V5=(V4.put W.next (.cells (eT x sv (fL sb x.st.length) (lJ qb x.qs.length)))).put (W.next+1) (.cells (eT x sv (fL sb x.st.length) (lJ qb x.qs.length))):=⟨_,rfl⟩;have l8:dJ 7 (aZ (W.next+1)) V5=some (kv sb qb x sv,V5):=by rw[Ml];exact bB (ao (AW.aW _ _ _)) rfl
  have o5:∀b,b≠W.next->b≠W.next+1->V5.get b=V4.get b:=λb h1 h2=>by rw[Ml];exact(AW.ay _ _ (bc h2)).trans (AW.ay _ _ (bc h1))
  have n5:V5.next=V4.next:=by rw[Ml];rfl
  have PS:eZ 7 (aZ (W.next+1)) (kv sb qb x sv) (V4.put W.next (.cells (eT x sv (fL sb x.st.length) (lJ qb x.qs.length))))=some (aj,V5):=by rw[Ml];exact s7
  simp only[SX,aJ,q1,q2,q3,s6,l7,PS,sB,EF,l8,bJ,ah];have auw:Le W V5:=⟨by omega,λb hb=>(o5 b (by omega) (by omega)).trans ((q4.get _ (by omega)).trans (BB.get b hb))⟩;refine⟨sb,qb,rfl,hz,auw,by omega,hs,(o5 _ (by omega) (by omega)).trans ((q4.get _ (by omega)).trans ((o3 _ (by omega)).trans b4)),?_⟩;obtain⟨qv,y1,y2,y3⟩:=q7;refine⟨qv,(o5 _ (by omega) (by omega)).trans y1,y2,λk hk=>?_⟩;obtain⟨w,w1,w2⟩:=y3 k hk;refine⟨w,w1,?_⟩;rcases w2 with w2|⟨w3,B,c,w4,w5,w6,w7,w8,w9,VB⟩
  ·exact .inl w2
  ·refine .inr ⟨w3,B,c,w4,by omega,w6,w7,w8,w9,(o5 _ ?_ ?_).trans VB⟩
   ·intro e;rw[e,g4,oy]at VB;injection VB with VB;injection VB with VB;generalize x.qs[k]=lk at VB;rcases lk with - |⟨a',- |⟨b',cs⟩⟩<;>simp at VB
   ·intro e;rw[e,(q4.get (W.next+1) (by omega)).trans ((o3 _ (by omega)).trans ((c2.get _ (by omega)).trans g2)),oy]at VB;injection VB with VB;injection VB with VB;generalize x.qs[k]=lk at VB;rcases lk with - |⟨a',- |⟨b',cs⟩⟩<;>simp at VB
 obtain⟨⟨v,V⟩,h1,sb,qb,rfl,h2⟩:=hq';exact⟨V,sb,qb,by rw[LY h1,kB (by simp[bL,eH,cC])],h2⟩
def ahB{V:AW}{b2 b3:Nat}{x:cI}{sv sq qq:ad}{c2:List ad}{r0:mK}(h1:Eng.one sv=true)(h2:Eng.one sq=true)(h3:Eng.one qq=true)(g2:V.get b2=some (.cells c2))(hc:c2.length=7)(g3:V.get b3=some (.cells (ig r0)))(fp:b2≠b3)(r:mK):
 ∃V1 V2,eZ 7 (aZ b2) (ka x sv sq qq) V=some (aj,V1)/\V1.get b3=some (.cells (ig r0))/\(∀b,b≠b2->V1.get b=V.get b)/\eZ 9 (aZ b3) (gt r) V1=some (aj,V2)/\iX Tryz.prog [(aZ b2,some 34),(aZ b3,some 50)] V2=some (.tuple #[ka x sv sq qq,gt r],V2)/\V2.next=V.next/\∀b,b≠b2->b≠b3->V2.get b=V.get b:=by
 have s1:=gE (W:=V) (b:=b2) (n:=7) (vs:=(eT x sv sq qq).toArray) g2 hc rfl (by simp[dC,h1,h2,h3,cF]);obtain⟨V1,kS⟩:∃V1,V1=V.put b2 (.cells (eT x sv sq qq)):=⟨_,rfl⟩;have k3:V1.get b3=some (.cells (ig r0)):=by rw[kS];exact(AW.ay _ _ fp).trans g3
 have k2:V1.get b2=some (.cells (eT x sv sq qq)):=by rw[kS];exact AW.aW _ _ _
 have s2:=gE (W:=V1) (b:=b3) (n:=9) (vs:=(ig r).toArray) k3 rfl rfl rfl;obtain⟨V2,yB⟩:∃V2,V2=V1.put b3 (.cells (ig r)):=⟨_,rfl⟩;have m3:V2.get b3=some (.cells (ig r)):=by rw[yB];exact AW.aW _ _ _
 have m2:V2.get b2=some (.cells (eT x sv sq qq)):=by rw[yB];exact(AW.ay _ _ (bc fp)).trans k2
 refine⟨V1,V2,by rw[kS];exact s1,k3,λb hb=>by rw[kS];exact AW.ay _ _ (bc hb),by rw[yB];exact s2,?_,by rw[yB,kS];rfl,λb hb lF=>by rw[yB,kS];exact(AW.ay _ _ (bc lF)).trans (AW.ay _ _ (bc hb))⟩;rw[AX,EF,adH,bB (n:=7) (o:=0) (ao m2) rfl,bJ,bB (n:=9) (o:=0) (ao m3) rfl];rfl
structure F4 (V V1:AW) (x:cI) (sv sq qq:ad) (o:jC):Prop where
 le:Le V V1
 n:V1.next=V.next+4
 g0:V1.get V.next=some (.cells (eT x sv sq qq))
 g1:V1.get (V.next+1)=some (.cells (AJ o))
 g2:V1.get (V.next+2)=some (.cells [.ae 0,.ae 0,.ae 0,.slice none 0 0,.ae 0,.slice none 0 0,.slice none 0 0])
 g3:V1.get (V.next+3)=some (.cells (ig fw))
def f4(V:AW)(x:cI)(sv sq qq:ad)(o:jC):F4 V ((((V.add (.cells (eT x sv sq qq))).add (.cells (AJ o))).add (.cells [.ae 0,.ae 0,.ae 0,.slice none 0 0,.ae 0,.slice none 0 0,.slice none 0 0])).add (.cells (ig fw))) x sv sq qq o where
 le:=((((Le.refl V).add _).add _).add _).add _
 n:=rfl
 g0:=by rw[AW.aE _ _ (by simp only[AW.av];omega),AW.aE _ _ (by simp only[AW.av];omega),AW.aE _ _ (by simp only[AW.av];omega)];exact AW.aI _ _
 g1:=by rw[AW.aE _ _ (by simp only[AW.av];omega),AW.aE _ _ (by simp only[AW.av];omega)];exact AW.aI (V.add _) _
 g2:=by rw[AW.aE _ _ (by simp only[AW.av];omega)];exact AW.aI ((V.add _).add _) _
 g3:=AW.aI (((V.add _).add _).add _) _
section
variable {Z W V V':AW} {lo sb qb k:Nat} {x x':cI} {sv:ad} {o:jC}
def ki.asY(h:ki Z W V sb qb x sv)(hk:k<x.qs.length){Ig:Nat}{qv:List ad}{u:ad}{l:List Int}(h1:V.next<=Ig)(hf:Fr V V' sb qb)(gs:V'.get sb=some (.cells (x'.st.flatMap dK)))(hqv:V.get qb=some (.cells qv))(hq:V'.get qb=some (.cells (qv.set k u)))(hE:EL Ig V' 1 qQ u l)(ev:x'.v=x.v)(eq:x'.qs=x.qs.set k l):ki Z W V' sb qb x' sv:=by
 have y5:=h.lo;have aM:=h.le.next;obtain⟨qv',q1,q2,q3⟩:=h.gq;rw[q1]at hqv;injection hqv with hqv;injection hqv with hqv;subst hqv;have M5:k<qv'.length:=by omega
 refine h.step hf ev gs ⟨_,hq,by simp[q2,eq],λj hj=>?_⟩;have ZZ:j<x.qs.length:=by rw[eq]at hj;simpa using hj
 simp only[eq];by_cases VT:k=j
 ·subst VT;refine⟨_,vK M5,?_⟩;rw[AH];exact .aai hE (by omega) (by omega) (by omega)
 ·obtain⟨u'',v1,v2⟩:=q3 j ZZ;refine⟨u'',by rw[vw VT];exact v1,?_⟩;rw[C2 VT];exact v2.fr hf
def XF(h:ki Z W V sb qb x sv)(hk:k<x.qs.length)(T3:k<x.v.ax.length)(N9:o.sc=(k:Int))(hl:(gJ x k).length<=1000)(VT:o.k=10\/o.k=11):
 ∃V',ba (.func (.func 38) #[] #[]) [kv sb qb x sv,wa o] V=some (.tuple #[kv sb qb (if o.k=10 then yb x k o.ow else tD x k o.ow) sv,gt (if o.k=10 then zr x k o.ow else FH x k o.ow)],V')/\ki Z W V' sb qb (if o.k=10 then yb x k o.ow else tD x k o.ow) sv/\Fr V V' sb qb:=by
 have pu:∀X R,(if o.k=10 then yb x k o.ow else tD x k o.ow)=X->(if o.k=10 then zr x k o.ow else FH x k o.ow)=R->Ok (zX ba (kv sb qb x sv) (wa o) V) λr=>r.1=.tuple #[kv sb qb X sv,gt R]/\ki Z W r.2 sb qb X sv/\Fr V r.2 sb qb:=by
  intro X R hX hR;unfold zX;have y5:=h.lo;obtain⟨V1,kS⟩:∃V1,V1=((((V.add (.cells (eT x sv (fL sb x.st.length) (lJ qb x.qs.length)))).add (.cells (AJ o))).add (.cells [.ae 0,.ae 0,.ae 0,.slice none 0 0,.ae 0,.slice none 0 0,.slice none 0 0])).add (.cells (ig fw))):=⟨_,rfl⟩;have F:=f4 V x sv (fL sb x.st.length) (lJ qb x.qs.length) o;rw[<-kS]at F;simp only[SX,oE,B9,AW.av,iq,Nat.reduceAdd];rw[<-kS];clear kS;have h':=h.mono F.le;have n1:=F.n;have Jj:=row_one h.sec.1;have l0:∀{i:Nat} {u:ad} U,U.get V.next=V1.get V.next->(eT x sv (fL sb x.st.length) (lJ qb x.qs.length))[i]? =some u->bz (.pointer (some ⟨V.next,i,none⟩)) U=some (u,U):=λU hU hi=>aO (ao (hU.trans F.g0)) hi
  have l1:∀{i:Nat} {u:ad} U,U.get (V.next+1)=V1.get (V.next+1)->(AJ o)[i]? =some u->bz (.pointer (some ⟨V.next+1,i,none⟩)) U=some (u,U):=λU hU hi=>aO (ao (hU.trans F.g1)) hi
  have l7:∀U,U.get V.next=V1.get V.next->dJ 7 (aZ V.next) U=some (kv sb qb x sv,U):=λU hU=>bB (ao (hU.trans F.g0)) rfl
  have lk:bz (aZ (V.next+1)) V1=some (.ae o.k,V1):=l1 (i:=0) V1 rfl rfl;have l6:=l0 (i:=6) V1 rfl rfl;have lsc:bz (.pointer (some ⟨V.next+1,4,none⟩)) V1=some (.ae (k:Int),V1):=by rw[<-N9];exact l1 (i:=4) V1 rfl rfl
  have low:=l1 (i:=1) V1 rfl rfl;have l3:=l0 (i:=3) V1 rfl rfl;obtain⟨qv,q1,q2,q3⟩:=h'.gq;obtain⟨u,u1,u2⟩:=q3 _ hk;have qV:V.get qb=some (.cells qv):=(F.le.get _ y5.2.2.2.1).symm.trans q1;have e0:x.qs[k]=gJ x k:=by simp[gJ,bN hk]
  rw[e0]at u2;have lu:bz (.pointer (some ⟨qb,k,none⟩)) V1=some (u,V1):=aO (ao q1) u1;have lpl:=M3 u2.rd (by omega) o.ow;have S4:nl (λy=>decide (o.ow=y)) (gJ x k)=L2 x k o.ow:=rfl;rw[S4]at lpl;have M5:k<qv.length:=by omega
  have same:∀(r:mK),∃V8 V9,eZ 7 (aZ (V.next+2)) (kv sb qb x sv) V1=some (aj,V8)/\eZ 9 (aZ (V.next+3)) (gt r) V8=some (aj,V9)/\iX Tryz.prog [(aZ (V.next+2),some 34),(aZ (V.next+3),some 50)] V9=some (.tuple #[kv sb qb x sv,gt r],V9)/\ki Z W V9 sb qb x sv/\Fr V V9 sb qb:=by intro r;obtain⟨V8,V9,p1,p0,Rx,p2,p3,p4,p5⟩:=ahB (x:=x) (sq:=fL sb x.st.length) (qq:=lJ qb x.qs.length) Jj (cL _ _ _) (cL _ _ _) F.g2 rfl F.g3 (by omega) r;have le9:Le V V9:=⟨by omega,λb hb=>(p5 b (by omega) (by omega)).trans (F.le.get b hb)⟩;exact⟨V8,V9,p1,p2,p3,h.mono le9,.of_le le9⟩
  have put:∀(V5:AW) (u':ad) (l:List Int) (X:cI) (r:mK) Ig,V1.next<=Ig->V1.next<=V5.next->(∀b,b<V1.next->V5.get b=V1.get b)->EL Ig V5 1 qQ u' l->X={x with qs:=x.qs.set k l}->
   ∃V6 V8 V9,eZ 1 (.pointer (some ⟨qb,k,none⟩)) u' V5=some (aj,V6)/\V6.get V.next=V1.get V.next/\eZ 7 (aZ (V.next+2)) (kv sb qb x sv) V6=some (aj,V8)/\eZ 9 (aZ (V.next+3)) (gt r) V8=some (aj,V9)/\iX Tryz.prog [(aZ (V.next+2),some 34),(aZ (V.next+3),some 50)] V9=some (.tuple #[kv sb qb X sv,gt r],V9)/\ki Z W V9 sb qb X sv/\Fr V V9 sb qb:=by
   intro V5 u' l X r Ig azo hn5 h5 hE eX;have q5:V5.get qb=some (.cells qv):=(h5 _ (by omega)).trans q1;have s1:=ao9 q5 M5 hE;obtain⟨V6,hV6⟩:∃V6,V6=V5.put qb (.cells (qv.set k u')):=⟨_,rfl⟩;have g6:V6.get qb=some (.cells (qv.set k u')):=by rw[hV6];exact AW.aW _ _ _
   have o6:∀b,b≠qb->V6.get b=V5.get b:=λb hb=>by rw[hV6];exact AW.ay _ _ (bc hb)
   have n6:V6.next=V5.next:=by rw[hV6];rfl
   obtain⟨V8,V9,p1,p0,Rx,p2,p3,p4,p5⟩:=ahB (x:=x) (sq:=fL sb x.st.length) (qq:=lJ qb x.qs.length) Jj (cL _ _ _) (cL _ _ _) ((o6 _ (by omega)).trans ((h5 _ (by omega)).trans F.g2)) rfl ((o6 _ (by omega)).trans ((h5 _ (by omega)).trans F.g3)) (by omega) r;have hf:Fr V V9 sb qb:=⟨by omega,λb hb h1 h2=>(p5 b (by omega) (by omega)).trans ((o6 b h2).trans ((h5 b (by omega)).trans (F.le.get b hb)))⟩;have gX:ka x sv (fL sb x.st.length) (lJ qb x.qs.length)=kv sb qb X sv:=by rw[eX];unfold kv;simp only[pO]
   refine⟨V6,V8,V9,by rw[hV6];exact s1,(o6 _ (by omega)).trans (h5 _ (by omega)),p1,p2,by rw[<-gX];exact p3,?_,hf⟩;refine h.asY hk (Ig:=Ig) (by omega) hf ?_ qV ((p5 _ (by omega) (by omega)).trans g6) (hE.keep (by omega) λb hb lF=>?_) (by rw[eX]) (by rw[eX])
   ·rw[eX];exact(p5 _ (by omega) (by omega)).trans ((o6 _ y5.2.2.2.2).trans ((h5 _ (by omega)).trans ((F.le.get _ y5.2.2.1).trans h.gs)))
   ·exact(p5 _ (by omega) (by omega)).trans (o6 _ (by omega))
  by_cases k11:o.k=11
  ·have d11:=aK k11;rw[bM]at hX hR;by_cases c:L2 x k o.ow<0
   ·have d:=aK c;have eX:X=x:=by rw[<-hX];exact an c
    have eR:R=pW 4:=by rw[<-hR];exact an c
    rw[eX,eR];obtain⟨V8,V9,p1,p2,p3,p4,p5⟩:=same (pW 4);simp only[SX,l6,lsc,ixL hk,lu,low,lpl,lk,d11,d,l7 V1 rfl,ks,p1,p2,p3,ah];exact⟨ak,p4,p5⟩
   ·have d:=aL c;obtain⟨i,hi,hii⟩:=WS (p:=λy=>decide (o.ow=y)) (l:=gJ x k) c;have hio:L2 x k o.ow=(i:Int):=hii;have eX:X={x with qs:=x.qs.set k ((gJ x k).take i++(gJ x k).drop (i+1))}:=by rw[<-hX];refine(ap c).trans ?_;rw[hio];rfl
    have eR:R=fw:=by rw[<-hR];exact ap c
    have t2:=λW'=>bm W' i 1
    obtain⟨w1,s1,s2⟩:=u2.el.to (P:=Tryz.prog) (t:=88) (kk:=.i64) (k:=i) Vk (by omega) iA (by omega) (by omega);obtain⟨w2,s3,s4⟩:=u2.el.from (P:=Tryz.prog) (t:=88) (kk:=.i64) (k:=i+1) Vk (by omega) iA (by omega) (by omega);rw[show((i+1:Nat):Int)=(i:Int)+1 by omega]at s3;obtain⟨u3,V3,m1,m2,m3⟩:=zB BQ iA pr s2 (by rw[cX];omega) (by rw[cX];omega);obtain⟨u4,V4,m4,m5,m6,m7⟩:=m3.app BQ iA pr (s4.keep m2) (by rw[cX,px];omega) (by rw[cX,px];omega) m2.next;have m2n:=m2.next;have kp:∀b,b<V1.next->V4.get b=V1.get b:=λb hb=>(m7 b hb).trans (m2.get b hb)
    obtain⟨V6,V8,V9,p1,p0,p2,p3,p4,p5,p6⟩:=put V4 u4 _ X R V1.next (aQ _) (by omega) kp m5 eX;rw[eR]at p3 p4|-;rw[hio]at lpl d;have a6:∀U,(∀b,b<V1.next->U.get b=V1.get b)->bz (.pointer (some ⟨V.next,6,none⟩)) U=some (lJ qb x.qs.length,U):=λU hU=>l0 (i:=6) U (hU _ (by omega)) rfl
    have a4:∀U,(∀b,b<V1.next->U.get b=V1.get b)->bz (.pointer (some ⟨V.next+1,4,none⟩)) U=some (.ae (k:Int),U):=λU hU=>by rw[<-N9];exact l1 (i:=4) U (hU _ (by omega)) rfl
    simp only[SX,l6,lsc,ixL hk,lu,low,lpl,lk,d11,d,D8,s1,t2,s3,m1,a6 V3 (λb hb=>m2.get b hb),a4 V3 (λb hb=>m2.get b hb),dd,lK,fQ,fN,m4,a6 V4 kp,a4 V4 kp,p1,l7 V6 p0,Co,p2,p3,p4,ah];exact⟨ak,p5,p6⟩
  ·have k10:o.k=10:=by omega
   have d11:=aL k11;rw[an k10]at hX hR;obtain⟨b',i',rv,s1,-,-,-,-,s5⟩:=gZ.get h.sec.1 T3;have eq0:x.v.ax[k].q=yr x.v k:=by unfold yr;rw[bN T3];rfl
   have Z0:=s5 V1 ((h.z.trans h.le).trans F.le);rw[eq0]at Z0;obtain⟨ua,uc,ue⟩:=u2.el.slice;have ul:∀U:AW,aV Tryz.prog .len #[88] 3 #[false] [u] U=some (.ae ((gJ x k).length:Int),U):=λU=>by rw[ue];exact dg ph _ _ _
   by_cases c:yr x.v k<=((gJ x k).length:Int)
   ·have d:=aK c;have e1:wK x k o.ow=5:=an c;have eX:X=x:=by rw[<-hX];exact ap (by rw[e1];omega)
    have eR:R=pW 5:=by rw[<-hR];unfold zr;rw[e1,bM]
    rw[eX,eR];obtain⟨V8,V9,p1,p2,p3,p4,p5⟩:=same (pW 5);simp only[SX,l6,lsc,ixL hk,lu,low,lpl,lk,d11,ul,l3,s1,Z0,d,l7 V1 rfl,ks,p1,p2,p3,ah];exact⟨ak,p4,p5⟩
   have d:=aL c;have dp:decide (0<=L2 x k o.ow)=(gJ x k).any λy=>decide (o.ow=y):=zm
   by_cases c2:((gJ x k).any λy=>decide (o.ow=y))=true
   ·have e1:wK x k o.ow=8:=by unfold wK;rw[ap c,an c2]
    have eX:X=x:=by rw[<-hX];exact ap (by rw[e1];omega)
    have eR:R=pW 8:=by rw[<-hR];unfold zr;rw[e1,bM]
    rw[eX,eR];rw[c2]at dp;obtain⟨V8,V9,p1,p2,p3,p4,p5⟩:=same (pW 8);simp only[SX,l6,lsc,ixL hk,lu,low,lpl,lk,d11,ul,l3,s1,Z0,d,dp,l7 V1 rfl,ks,p1,p2,p3,ah];exact⟨ak,p4,p5⟩
   have c2':((gJ x k).any λy=>decide (o.ow=y))=false:=ut.2 c2;rw[c2']at dp;have e1:wK x k o.ow=0:=by unfold wK;rw[ap c,ap c2]
   have eX:X={x with qs:=x.qs.set k (gJ x k++[o.ow])}:=by rw[<-hX];exact an e1
   have eR:R=rpP (((gJ x k).length:Int)+1):=by rw[<-hR];exact an e1
   obtain⟨V2,yB⟩:∃V2,V2=(V1.add (.cells [])).add (.cells (qQ o.ow)):=⟨_,rfl⟩;have QU:Le V1 V2:=by rw[yB];exact((Le.refl _).add _).add _
   have n2:V2.next=V1.next+2:=by rw[yB];rfl
   have g2':V2.get (V1.next+1)=some (.cells (qQ o.ow)):=by rw[yB];exact AW.aI (V1.add (.cells [])) _
   have hE:EL V2.next V2 1 qQ (.slice (some ⟨V1.next,0,none⟩) 0 0) []:=EL.aqv _ _ _ _ _;obtain⟨u3,V3,m1,m2,m3,m4⟩:=hE.app BQ iA pr (u2.rd.keep QU) (by rw[qB];omega) (by rw[qB];omega) (aQ _);rw[jF]at m2;have hR2:Rd V3 1 qQ (.slice (some ⟨V1.next+1,0,none⟩) 1 1) [o.ow]:=⟨_,_,rfl,.inr ⟨V1.next+1,0,_,rfl,by omega,ao ((m4 _ (by omega)).trans g2'),rfl⟩⟩;obtain⟨u4,V4,m5,m6,m7,m8⟩:=m2.app BQ iA pr hR2 (by rw[Eu];omega) (by rw[Eu];omega) m3;have kp3:∀b,b<V1.next->V3.get b=V1.get b:=λb hb=>(m4 b (by omega)).trans (QU.get b hb)
   have kp:∀b,b<V1.next->V4.get b=V1.get b:=λb hb=>(m8 b (by omega)).trans (kp3 b hb)
   obtain⟨V6,V8,V9,p1,p0,p2,p3,p4,p5,p6⟩:=put V4 u4 _ X R V2.next (by omega) (by omega) kp m6 eX;rw[eR]at p3 p4|-;have a6:∀U,(∀b,b<V1.next->U.get b=V1.get b)->bz (.pointer (some ⟨V.next,6,none⟩)) U=some (lJ qb x.qs.length,U):=λU hU=>l0 (i:=6) U (hU _ (by omega)) rfl
   have a4:∀U,(∀b,b<V1.next->U.get b=V1.get b)->bz (.pointer (some ⟨V.next+1,4,none⟩)) U=some (.ae (k:Int),U):=λU hU=>by rw[<-N9];exact l1 (i:=4) U (hU _ (by omega)) rfl
   have a1:∀U,(∀b,b<V1.next->U.get b=V1.get b)->bz (.pointer (some ⟨V.next+1,1,none⟩)) U=some (.int .u32 o.ow,U):=λU hU=>l1 (i:=1) U (hU _ (by omega)) rfl
   have t3:=λW'=>bm W' ((gJ x k).length:Int) 1
   have b2:cJ Tryz.prog 88 1 [(0,.int .u32 o.ow)] (V1.add (.cells []))=some (.slice (some ⟨V1.next+1,0,none⟩) 1 1,V2):=by rw[yB];exact aiP _ _
   have k1':=λb hb=>AW.aE V1 (.cells []) (show V1.next≠b from hb)
   simp only[SX,l6,lsc,ixL hk,lu,low,lpl,lk,d11,ul,l3,s1,Z0,d,dp,D8,a1 (V1.add (.cells [])) (λb hb=>AW.aE _ _ (by omega)),b2,m1,a6 V3 kp3,a4 V3 kp3,a1 V3 kp3,dd,lK,fQ,fN,m5,a6 V4 kp,a4 V4 kp,p1,l7 V6 p0,t3,aeF,p2,p3,p4,ah];exact⟨ak,p5,p6⟩
 obtain⟨⟨v,V2⟩,k1,rfl,k2⟩:=pu _ _ rfl rfl;exact⟨V2,by rw[JG k1,kB (by simp[bL,eH,cC])],k2⟩
end
section
variable {Z W V U U':AW} {lo sb qb k:Nat} {x x' X:cI} {sv:ad} {o:jC} {y:fx} {R0:mK}
def ki.box(h:ki Z W U sb qb X sv)(hn:U.next<=U'.next)(hb:∀b,b<U.next->U'.get b=U.get b\/(W.next<=b/\b≠sb/\b≠qb/\∃c cs,U.get b=some (.cells (.ae c::cs)))):ki Z W U' sb qb X sv:=by
 have y5:=h.lo;have wM:∀b,b<U.next->(b<W.next\/b=sb\/b=qb)->U'.get b=U.get b:=λb h1 h2=>by
  rcases hb b h1 with e|⟨e1,e2,e3,-⟩
  ·exact e
  ·omega
 refine⟨h.z,⟨eS h.le.next hn,λb Kf=>(wM b (by have:=h.le.next;omega) (.inl Kf)).trans (h.le.get b Kf)⟩,by omega,h.sec,(wM _ (by omega) (.inr (.inl rfl))).trans h.gs,?_⟩;obtain⟨qv,q1,q2,q3⟩:=h.gq;refine⟨qv,(wM _ (by omega) (.inr (.inr rfl))).trans q1,q2,λk hk=>?_⟩;obtain⟨u,u1,u2⟩:=q3 k hk;refine⟨u,u1,?_⟩;rcases u2 with u2|⟨z0,B,c,z1,z2,z3,z4,z5,z6,z7⟩
 ·exact .inl u2
 ·refine .inr ⟨z0,B,c,z1,by omega,z3,z4,z5,z6,?_⟩;rcases hb B z2 with e|⟨-,-,-,c',cs,e⟩
  ·exact e.trans z7
  ·rw[e,oy]at z7;injection z7 with z7;injection z7 with z7;generalize X.qs[k]=l at z7;cases l<;>simp at z7
structure G6 (V U:AW) (sb qb:Nat) (x:cI) (sv:ad) (o:jC) (y:fx) (R0:mK):Prop where
 f:Fr V U sb qb
 n:V.next+6<=U.next
 lo:sb<V.next/\qb<V.next
 one:Eng.one sv=true
 g0:U.get V.next=some (.cells (eT x sv (fL sb x.st.length) (lJ qb x.qs.length)))
 g1:U.get (V.next+1)=some (.cells (AJ o))
 g2:U.get (V.next+2)=some (.cells [.ae 0,.ae 0,.ae 0,.slice none 0 0,.ae 0,.slice none 0 0,.slice none 0 0])
 g3:U.get (V.next+3)=some (.cells (ig fw))
 g4:U.get (V.next+4)=some (.cells (dK y))
 g5:U.get (V.next+5)=some (.cells (ig R0))
structure Sm (x X:cI):Prop where
 v:X.v=x.v
 now:X.now=x.now
 st:X.st.length=x.st.length
 qs:X.qs.length=x.qs.length
def Sm.rs(h:Sm x X)(sb qb:Nat)(sv:ad):kv sb qb X sv=kv sb qb x sv:=by unfold kv ka;rw[h.v,h.now,h.st,h.qs]
def G6.l7(g:G6 V U sb qb x sv o y R0):dJ 7 (aZ V.next) U=some (kv sb qb x sv,U):=bB (ao g.g0) rfl
def G6.l5(g:G6 V U sb qb x sv o y R0):dJ 5 (aZ (V.next+4)) U=some (iZ y,U):=bB (ao g.g4) rfl
def G6.l9(g:G6 V U sb qb x sv o y R0):dJ 9 (aZ (V.next+5)) U=some (gt R0,U):=bB (ao g.g5) rfl
def Xs(g:G6 V U sb qb x sv o y R0)(h:ki Z W U sb qb X sv)(hW:W.next<=V.next)(hS:Sm x X)(r:mK):
 ∃V8 V9,eZ 7 (aZ (V.next+2)) (kv sb qb x sv) U=some (aj,V8)/\(∀b,b≠V.next+2->V8.get b=U.get b)/\eZ 9 (aZ (V.next+3)) (gt r) V8=some (aj,V9)/\iX Tryz.prog [(aZ (V.next+2),some 34),(aZ (V.next+3),some 50)] V9=some (.tuple #[kv sb qb X sv,gt r],V9)/\ki Z W V9 sb qb X sv/\Fr V V9 sb qb:=by
 obtain⟨V8,V9,p1,p0,Rx,p2,p3,p4,p5⟩:=ahB (x:=x) (sq:=fL sb x.st.length) (qq:=lJ qb x.qs.length) g.one (cL _ _ _) (cL _ _ _) g.g2 rfl g.g3 (by omega) r;have hn:=g.n;have hl:=g.lo;refine⟨V8,V9,p1,Rx,p2,by rw[hS.rs];exact p3,h.box (by omega) λb hb=>?_,⟨by omega,λb hb h1 h2=>(p5 b (by omega) (by omega)).trans (g.f.2 b hb h1 h2)⟩⟩;by_cases e2:b=V.next+2
 ·exact .inr ⟨by omega,by omega,by omega,_,_,by rw[e2];exact g.g2⟩
 by_cases e3:b=V.next+3
 ·exact .inr ⟨by omega,by omega,by omega,_,_,by rw[e3];exact g.g3⟩
 ·exact .inl (p5 b e2 e3)
def Tu(g:G6 V U sb qb x sv o y R0)(h:ki Z W U sb qb X sv)(hW:W.next<=V.next)(hS:Sm x X):
 Ok (fK ba (aZ V.next) (aZ (V.next+2)) (aZ (V.next+3)) (aZ (V.next+5)) U) λr=>r.1=.tuple #[kv sb qb X sv,gt R0]/\ki Z W r.2 sb qb X sv/\Fr V r.2 sb qb:=by
 obtain⟨V8,V9,p1,p0,p2,p3,p4,p5⟩:=Xs g h hW hS R0;unfold fK;have l9':dJ 9 (aZ (V.next+5)) V8=some (gt R0,V8):=bB (ao ((p0 _ (by omega)).trans g.g5)) rfl;simp only[SX,g.l7,g.l9,p1,l9',dd,wQ,fN,p2,p3,ah];exact⟨ak,p4,p5⟩
end
section
variable {Z W V U U':AW} {lo sb qb k:Nat} {x x' X:cI} {sv:ad} {o:jC} {y:fx} {R0:mK}
def G6.fr(g:G6 V U sb qb x sv o y R0)(hf:Fr U U' sb qb):G6 V U' sb qb x sv o y R0:=by
 have hn:=g.n;have hl:=g.lo;have hk:∀j,j<6->U'.get (V.next+j)=U.get (V.next+j):=λj hj=>hf.2 _ (by omega) (by omega) (by omega)
 exact⟨g.f.trans hf,by have:=hf.1;omega,g.lo,g.one,(hk 0 (by omega)).trans g.g0,(hk 1 (by omega)).trans g.g1,(hk 2 (by omega)).trans g.g2,(hk 3 (by omega)).trans g.g3,(hk 4 (by omega)).trans g.g4,(hk 5 (by omega)).trans g.g5⟩
def aln(g:G6 V U sb qb x sv o y R0){j:Nat}(c:dI):Fr V (U.put (V.next+j) c) sb qb:=⟨by rw[AW.bG];exact g.f.1,λb hb h1 h2=>(AW.ay _ _ (by omega)).trans (g.f.2 b hb h1 h2)⟩
def G6.w5(g:G6 V U sb qb x sv o y R0)(R1:mK):G6 V (U.put (V.next+5) (.cells (ig R1))) sb qb x sv o y R1:=
 ⟨aln g _,g.n,g.lo,g.one,(AW.ay _ _ (by omega)).trans g.g0,(AW.ay _ _ (by omega)).trans g.g1,(AW.ay _ _ (by omega)).trans g.g2,(AW.ay _ _ (by omega)).trans g.g3,(AW.ay _ _ (by omega)).trans g.g4,AW.aW _ _ _⟩
def G6.w4(g:G6 V U sb qb x sv o y R0)(y1:fx):G6 V (U.put (V.next+4) (.cells (dK y1))) sb qb x sv o y1 R0:=
 ⟨aln g _,g.n,g.lo,g.one,(AW.ay _ _ (by omega)).trans g.g0,(AW.ay _ _ (by omega)).trans g.g1,(AW.ay _ _ (by omega)).trans g.g2,(AW.ay _ _ (by omega)).trans g.g3,AW.aW _ _ _,(AW.ay _ _ (by omega)).trans g.g5⟩
def G6.w0(g:G6 V U sb qb x sv o y R0):G6 V (U.put V.next (.cells (eT x sv (fL sb x.st.length) (lJ qb x.qs.length)))) sb qb x sv o y R0:=
 ⟨aln (j:=0) g _,g.n,g.lo,g.one,AW.aW _ _ _,(AW.ay _ _ (by omega)).trans g.g1,(AW.ay _ _ (by omega)).trans g.g2,(AW.ay _ _ (by omega)).trans g.g3,(AW.ay _ _ (by omega)).trans g.g4,(AW.ay _ _ (by omega)).trans g.g5⟩
def G6.box(g:G6 V U sb qb x sv o y R0)(h:ki Z W U sb qb X sv)(hW:W.next<=V.next){j:Nat}{c:dI}{a:Int}{cs:List ad}(hg:U.get (V.next+j)=some (.cells (.ae a::cs))):ki Z W (U.put (V.next+j) c) sb qb X sv:=by
 have hl:=g.lo;refine h.box (aQ _) λb hb=>?_
 by_cases e:b=V.next+j
 ·exact .inr ⟨by omega,by omega,by omega,_,_,by rw[e];exact hg⟩
 ·exact .inl (AW.ay _ _ (bc e))
def rpW(R:mK)(t:Lr):mK:={R with t1:=t.a,t2:=t.b,t3:=t.c,t4:=t.d}
def st4{b:Nat}{R:mK}(hg:U.get b=some (.cells (ig R)))(t:Lr):eZ 4 (.pointer (some ⟨b,4,none⟩)) (SL t) U=some (aj,U.put b (.cells (ig (rpW R t)))):=
 (CA (n:=4) (o:=4) (v:=SL t) hg rfl (show 4+4<=9 by omega) rfl).trans rfl
def ak4(g:G6 V U sb qb x sv o y R0)(h:ki Z W U sb qb X sv)(hW:W.next<=V.next)(hS:Sm x X){i:Nat}(hb:Bd X i)(hi:i<4294967296)(hr:∀s∈X.v.ax,s.rows.length<1000)(hl:∀l∈X.qs,l.length<=10000)(c:Bool):
 Ok (qr ba (aZ V.next) (aZ (V.next+2)) (aZ (V.next+3)) (.ae (i:Int)) (aZ (V.next+4)) (aZ (V.next+5)) (.ae o.k) (.bool c) U) λr=>
  r.1=.tuple #[kv sb qb (if c=true then X else if o.k=4\/o.k=7\/o.k=8 then lG X i else X) sv,gt (if c=true then rpW R0 (P2 y i)else R0)]/\ki Z W r.2 sb qb (if c=true then X else if o.k=4\/o.k=7\/o.k=8 then lG X i else X) sv/\Fr V r.2 sb qb:=by
 unfold qr;cases c
 ·obtain⟨U1,k1,k2,k3⟩:=Na h hb.i hb.k hb.v hr hl hb.now hb.cT;rw[hS.rs]at k1;have hS':Sm x (lG X i):=by obtain⟨a,b,c,d⟩:=v8 X i;exact⟨a.trans hS.v,b.trans hS.now,c.trans hS.st,d.trans hS.qs⟩
  rw[hS'.rs]at k1;have g1:=g.fr k3;have s7:=gE (W:=U1) (b:=V.next) (n:=7) (vs:=(eT x sv (fL sb x.st.length) (lJ qb x.qs.length)).toArray) g1.g0 rfl rfl (by simp[dC,g.one,cF,cL]);have PS:eZ 7 (aZ V.next) (kv sb qb x sv) U1=some (aj,U1.put V.next (.cells (eT x sv (fL sb x.st.length) (lJ qb x.qs.length)))):=s7;have g2:=g1.w0;have h2:ki Z W (U1.put V.next (.cells (eT x sv (fL sb x.st.length) (lJ qb x.qs.length)))) sb qb (lG X i) sv:=g1.box (j:=0) k2 hW g1.g0;have mu:=Tu g2 h2 hW hS';have auE:=Tu g h hW hS;simp only[ik,cn];by_cases k4:o.k=4
  ·have d:=aK k4;rw[an (.inl k4)];simp only[SX,d,g.l7,k1,PS];exact mu
  have d4:=aL k4;by_cases k7:o.k=7
  ·have d:=aK k7;rw[an (.inr (.inl k7))];simp only[SX,d4,d,g.l7,k1,PS];exact mu
  have d7:=aL k7;by_cases k8:o.k=8
  ·have d:=aK k8;rw[an (.inr (.inr k8))];simp only[SX,d4,d7,d,g.l7,k1,PS];exact mu
  have d8:=aL k8;rw[bM];simp only[SX,d4,d7,d8];exact auE
 ·have g1:=g.w5 (rpW R0 (P2 y i));have h1:ki Z W (U.put (V.next+5) (.cells (ig (rpW R0 (P2 y i))))) sb qb X sv:=g.box h hW g.g5;simp only[SX,aJ,g.l5,acR hi,Ov,st4 g.g5,bi];exact Tu g1 h1 hW hS
end
section
variable {Z W V U U':AW} {lo sb qb k:Nat} {x x' X:cI} {sv:ad} {o:jC} {y:fx} {R0:mK}
def S5(x:cI)(i:Nat)(y:fx):cI:={x with st:=x.st.set i y}
def zA(x:cI)(k:Int)(i:Nat)(y:fx)(e:Int):cI:=if e=0 then(if k=5\/k=6 then S5 x i y else if k=4\/k=7\/k=8 then lG (S5 x i y) i else S5 x i y)else x
def B5(k:Int)(i:Nat)(y:fx)(e:Int)(R0:mK):mK:=if e=0 then(if k=5\/k=6 then rpW R0 (P2 y i)else R0)else pW e
def Uf(g:G6 V U sb qb x sv o y R0)(h:ki Z W U sb qb x sv)(hW:W.next<=V.next){i:Nat}(hb:Bd x i)(hi:i<4294967296)(hr:∀s∈x.v.ax,s.rows.length<1000)(hl:∀l∈x.qs,l.length<=10000)(e:Int):
 Ok (fF ba (aZ V.next) (aZ (V.next+1)) (aZ (V.next+2)) (aZ (V.next+3)) (.ae (i:Int)) (aZ (V.next+4)) (.ae e) (aZ (V.next+5)) U) λr=>
  r.1=.tuple #[kv sb qb (zA x o.k i y e) sv,gt (B5 o.k i y e R0)]/\ki Z W r.2 sb qb (zA x o.k i y e) sv/\Fr V r.2 sb qb:=by
 unfold fF zA B5;by_cases c:e=0;case neg=>have d:=aL c;obtain⟨V8,V9,p1,p0,p2,p3,p4,p5⟩:=Xs g h hW ⟨rfl,rfl,rfl,rfl⟩ (pW e);simp only[SX,d,g.l7,ks,p1,p2,p3,ah,ap c];exact⟨ak,p4,p5⟩
 have d:=aK c;simp only[an c];have st:=zI (z:=y) h.gs (bN hb.i);have l5:bz (.pointer (some ⟨V.next,5,none⟩)) U=some (fL sb x.st.length,U):=aO (ao g.g0) rfl;obtain⟨U1,VM⟩:∃U1,U1=U.put sb (.cells ((x.st.set i y).flatMap dK)):=⟨_,rfl⟩;have y5:=h.lo;have f1:Fr U U1 sb qb:=by rw[VM];exact⟨aQ _,λb _ h1 _=>AW.ay _ _ (bc h1)⟩
 have h1:ki Z W U1 sb qb (S5 x i y) sv:=h.step f1 rfl (by rw[VM];exact AW.aW _ _ _) (aes h.gq f1 (by rw[VM];exact AW.ay _ _ y5.2.2.2.2));have g1:=g.fr f1;have hS:Sm x (S5 x i y):=⟨rfl,rfl,by simp[S5],rfl⟩;have CU:Bd (S5 x i y) i:=hb.ch y;have lk:bz (aZ (V.next+1)) U1=some (.ae o.k,U1):=aO (ao g1.g1) rfl;simp only[SX,d,aJ,l5,g.l5,rJ hb.i,st];rw[<-VM];have J:=ak4 g1 h1 hW hS CU hi hr hl;by_cases k5:o.k=5
 ·have d5:=aK k5;have:=J true;simp only[bi]at this;simp only[SX,lk,d5,an (show o.k=5\/o.k=6 from .inl k5)];exact this
 have d5:=aL k5;by_cases k6:o.k=6
 ·have d6:=aK k6;have:=J true;simp only[bi]at this;simp only[SX,lk,d5,d6,an (show o.k=5\/o.k=6 from .inr k6)];exact this
 have d6:=aL k6;have:=J false;simp only[ik,cn]at this;simp only[SX,lk,d5,d6,ap (show¬(o.k=5\/o.k=6)by omega)];exact this
end
section
variable {Z W V U U':AW} {lo sb qb k:Nat} {x x' X:cI} {sv:ad} {o:jC} {y:fx} {R0:mK}
def ag5{i:Nat}(hi:i<x.st.length):S5 x i (cr x i)=x:=by
 unfold S5;have:x.st.set i (cr x i)=x.st:=by simp[cr,bN hi]
 rw[this]
def VC(hk:o.k=2\/o.k=4\/o.k=5\/o.k=6\/o.k=7\/o.k=8\/o.k=9){i:Nat}(hi:cO o=(i:Int))(hn:i<x.st.length):
 bX x o=if o.k=2 then(zA x 2 i (ML (cr x i) o.ow (dY x.now x.v.cT)) (NU (cr x i) (dY x.now x.v.cT)),B5 2 i (ML (cr x i) o.ow (dY x.now x.v.cT)) (NU (cr x i) (dY x.now x.v.cT)) (T6 (dY x.now x.v.cT)))
  else if o.k=4 then(zA x 4 i (LJ (cr x i) o.ow) (mf (cr x i) o.ow),B5 4 i (LJ (cr x i) o.ow) (mf (cr x i) o.ow) fw)
  else if o.k=5 then(zA x 5 i (Fa (cr x i) o.ow) (Dt (cr x i) o.ow),B5 5 i (Fa (cr x i) o.ow) (Dt (cr x i) o.ow) fw)
  else if o.k=6 then(zA x 6 i (Y2 (cr x i) (wI o) o.to) (Yh (cr x i) (wI o)),B5 6 i (Y2 (cr x i) (wI o) o.to) (Yh (cr x i) (wI o)) fw)
  else if o.k=7 then(zA x 7 i (rfS (cr x i) (wI o)) (Ci (cr x i) (wI o)),B5 7 i (rfS (cr x i) (wI o)) (Ci (cr x i) (wI o)) fw)
  else if o.k=8 then(zA x 8 i (rvS (cr x i)) (Zu (cr x i)),B5 8 i (rvS (cr x i)) (Zu (cr x i)) fw)
  else(zA x 9 i (cr x i) (Ci (cr x i) (wI o)),B5 9 i (cr x i) (Ci (cr x i) (wI o)) fw):=by
 have e0:(cO o).toNat=i:=by omega
 have e:=bX.eq_1 x o;rw[e0]at e;have ew:∀y,({x with st:=x.st.set i y}:cI)=S5 x i y:=λ_=>rfl
 rcases hk with k|k|k|k|k|k|k<;>simp only[k,Int.reduceEq,bi,cn]at e|- <;>rw[e]<;>unfold zA B5<;>simp only[Int.reduceEq,or_self,or_true,or_false,bi,cn,Nu,S1,hoR,ZL,ew]<;>(split<;>rename_i c)<;>first|rfl|(rw[c];rfl)|(rw[c,ag5 hn];rfl)
end
section
variable {Z W V U U':AW} {lo sb qb k:Nat} {x x' X:cI} {sv:ad} {o:jC} {y:fx} {R0:mK}
def aab(h:ki Z W V sb qb x sv){V1:AW}(F:F4 V V1 x sv (fL sb x.st.length) (lJ qb x.qs.length) o)(y:fx):G6 V ((V1.add (.cells (dK y))).add (.cells (ig fw))) sb qb x sv o y fw/\ki Z W ((V1.add (.cells (dK y))).add (.cells (ig fw))) sb qb x sv:=by
 have le:Le V1 ((V1.add (.cells (dK y))).add (.cells (ig fw))):=((Le.refl _).add _).add _;have n:=F.n;refine⟨⟨.of_le (F.le.trans le),by simp only[AW.av];omega,⟨h.lo.2.2.1,h.lo.2.2.2.1⟩,row_one h.sec.1,(le.get _ (by omega)).trans F.g0,(le.get _ (by omega)).trans F.g1,(le.get _ (by omega)).trans F.g2,(le.get _ (by omega)).trans F.g3,?_,?_⟩,h.mono (F.le.trans le)⟩
 ·rw[AW.aE _ _ (by simp only[AW.av];omega),<-n];exact AW.aI _ _
 ·rw[show V.next+5=(V1.add (.cells (dK y))).next by rw[AW.av];omega];exact AW.aI _ _
def st5{b:Nat}{y:fx}(hg:U.get b=some (.cells (dK y)))(z:fx):eZ 5 (aZ b) (iZ z) U=some (aj,U.put b (.cells (dK z))):=gE (n:=5) (vs:=(dK z).toArray) hg rfl rfl rfl
def aqT{b:Nat}{R:mK}(hg:U.get b=some (.cells (ig R)))(d:Int):eZ 1 (.pointer (some ⟨b,3,none⟩)) (.ae d) U=some (aj,U.put b (.cells (ig {R with dl:=d}))):=
 (CA (n:=1) (o:=3) (v:=.ae d) hg rfl (show 3+1<=9 by omega) rfl).trans rfl
def acC(h:ki Z W V sb qb x sv)(h0:Bp o=0)(hk:o.k=2\/o.k=4\/o.k=5\/o.k=6\/o.k=7\/o.k=8\/o.k=9){i:Nat}(He:cO o=(i:Int))(hb:Bd x i)(hi:i<4294967296)(hr:∀s∈x.v.ax,s.rows.length<1000)(hl:∀l∈x.qs,l.length<=10000):
 ∃V',ba (.func (.func 39) #[] #[]) [kv sb qb x sv,wa o] V=some (.tuple #[kv sb qb (bX x o).1 sv,gt (bX x o).2],V')/\ki Z W V' sb qb (bX x o).1 sv/\Fr V V' sb qb:=by
 have pu:Ok (Cy ba (kv sb qb x sv) (wa o) V) λr=>r.1=.tuple #[kv sb qb (bX x o).1 sv,gt (bX x o).2]/\ki Z W r.2 sb qb (bX x o).1 sv/\Fr V r.2 sb qb:=by
  rw[VC hk He hb.i];unfold Cy;obtain⟨V1,kS⟩:∃V1,V1=((((V.add (.cells (eT x sv (fL sb x.st.length) (lJ qb x.qs.length)))).add (.cells (AJ o))).add (.cells [.ae 0,.ae 0,.ae 0,.slice none 0 0,.ae 0,.slice none 0 0,.slice none 0 0])).add (.cells (ig fw))):=⟨_,rfl⟩;have F:=f4 V x sv (fL sb x.st.length) (lJ qb x.qs.length) o;rw[<-kS]at F;simp only[SX,oE,B9,AW.av,iq,Nat.reduceAdd];rw[<-kS];clear kS;have h':=h.mono F.le;have n1:=F.n;have hW:=h.le.next;have Jo:dJ 12 (aZ (V.next+1)) V1=some (wa o,V1):=bB (ao F.g1) rfl;have l5:bz (.pointer (some ⟨V.next,5,none⟩)) V1=some (fL sb x.st.length,V1):=aO (ao F.g0) rfl;have Ye:x.st[i]? =some (cr x i):=by simp[cr,bN hb.i]
  have Lq:=FC (W:=V1) h'.gs Ye;have s5:=st5 (U:=V1.add (.cells (dK CO))) (b:=V1.next) (y:=CO) (AW.aI _ _) (cr x i);rw[i8,n1]at s5;obtain⟨g,hR⟩:=aab h F (cr x i);simp only[SX,Jo,lg h0,He,l5,rJ hb.i,Lq,qd,n1,s5,AW.av,iq,Nat.reduceAdd];obtain⟨U,hU⟩:∃U,U=(V1.add (.cells (dK (cr x i)))).add (.cells (ig fw)):=⟨_,rfl⟩;rw[<-hU]at g hR|-;clear hU;have l1:∀{U':AW} {y R} (g':G6 V U' sb qb x sv o y R) {j:Nat} {u:ad},(AJ o)[j]? =some u->bz (.pointer (some ⟨V.next+1,j,none⟩)) U'=some (u,U'):=λ{_ _ _} g' {_ _} hj=>aO (ao g'.g1) hj
  have lk:=l1 g (j:=0) rfl;have low:=l1 g (j:=1) rfl;have lto:=l1 g (j:=6) rfl;have lti:dJ 4 (.pointer (some ⟨V.next+1,7,none⟩)) U=some (SL (wI o),U):=bB (ao g.g1) rfl;have J:=λy e=>Uf (g.w4 y) (g.box (j:=4) (c:=.cells (dK y)) hR hW g.g4) hW hb hi hr hl e
  have w4:=λy=>st5 g.g4 y
  rcases hk with k|k|k|k|k|k|k
  ·have alV:bz (.pointer (some ⟨V.next,1,none⟩)) U=some (.ae x.v.cT,U):=aO (ao g.g0) rfl;have lun:=A0 (W:=U) (val:=kv sb qb x sv) (more:=x.v.cT) rfl hb.now hb.cT (cF _ _) (cF _ _) (cF _ _) (row_one h.sec.1) (cL _ _ _) (cL _ _ _);have g2:=g.w5 (T6 (dY x.now x.v.cT));have h2:ki Z W (U.put (V.next+5) (.cells (ig (T6 (dY x.now x.v.cT))))) sb qb x sv:=g.box hR hW g.g5;have s13:=aqT g.g5 (dY x.now x.v.cT);have J2:=λy e=>Uf (g2.w4 y) (g2.box (j:=4) (c:=.cells (dK y)) h2 hW g2.g4) hW hb hi hr hl e
   have lo2:=l1 g2 (j:=1) rfl;have ld2:bz (.pointer (some ⟨V.next+5,3,none⟩)) (U.put (V.next+5) (.cells (ig (T6 (dY x.now x.v.cT)))))=some (.ae (dY x.now x.v.cT),_):=aO (ao g2.g5) rfl;have akv:eZ 1 (.pointer (some ⟨V.next+5,3,none⟩)) (.ae (dY x.now x.v.cT)) U=some (aj,U.put (V.next+5) (.cells (ig (T6 (dY x.now x.v.cT))))):=s13;simp only[SX,lk,k,g.l7,alV,lun,akv,g2.l5,lo2,ld2,Cv,st5 g2.g4];have:=J2 (ML (cr x i) o.ow (dY x.now x.v.cT)) (NU (cr x i) (dY x.now x.v.cT));rw[k]at this;exact this
  ·simp only[SX,lk,k,g.l5,low,Mm,w4];have:=J (LJ (cr x i) o.ow) (mf (cr x i) o.ow);rw[k]at this;exact this
  ·simp only[SX,lk,k,g.l5,low,Yt,w4];have:=J (Fa (cr x i) o.ow) (Dt (cr x i) o.ow);rw[k]at this;exact this
  ·simp only[SX,lk,k,g.l5,lti,lto,JY,w4];have:=J (Y2 (cr x i) (wI o) o.to) (Yh (cr x i) (wI o));rw[k]at this;exact this
  ·simp only[SX,lk,k,g.l5,lti,Pn,w4];have:=J (rfS (cr x i) (wI o)) (Ci (cr x i) (wI o));rw[k]at this;exact this
  ·simp only[SX,lk,k,g.l5,N8,w4];have:=J (rvS (cr x i)) (Zu (cr x i));rw[k]at this;exact this
  ·simp only[SX,lk,k,g.l5,lti,nZ];have:=Uf g hR hW hb hi hr hl (Ci (cr x i) (wI o));rw[k]at this;exact this
 obtain⟨⟨v,V2⟩,k1,rfl,k2⟩:=pu;exact⟨V2,by rw[LP k1,kB (by simp[bL,eH,cC])],k2⟩
end
def aav(x:cI){i j:Nat}(h:i≠j):cr (lG x i) j=cr x j:=by unfold lG cr;split<;>simp[List.getD,vw h]
def adj(nw:Int)(x:cI){i j:Nat}(h:i≠j):cr (wh nw x i) j=cr x j:=by unfold wh;rw[aav _ h];simp[cr,List.getD,vw h]
def RD(nw:Int){j:Nat}:∀(L:List Nat) (x:cI),j∉L->cr (L.foldl (wh nw) x) j=cr x j
 |[],_,_=>rfl
 |i::L,x,h=>by rw[uQ,RD nw L _ (λh2=>h (List.mem_cons_of_mem _ h2)),adj nw x (λe=>h (by rw[e];exact List.mem_cons_self ..))]
def WL{x:cI}{i N:Nat}(h:∀l∈x.qs,l.length<=N):∀l∈(lG x i).qs,l.length<=N:=by
 unfold lG;split
 ·rename_i a t e;intro l hl;rcases List.mem_or_eq_of_mem_set hl with h1|rfl
  ·exact h _ h1
  ·have:=h _ (xV e);rw[cQ]at this;omega
 ·exact h
def OF{N:Nat}(nw:Int):∀(L:List Nat) (x:cI),(∀l∈x.qs,l.length<=N)->∀l∈(L.foldl (wh nw) x).qs,l.length<=N
 |[],_,h=>h
 |i::L,x,h=>OF nw L _ (WL (x:={x with st:=x.st.set i (lW (cr x i) nw)}) h)
structure Ol (f:Nat->Int) (n m:Nat):Prop where
 lt:m=0\/m<n
 le:∀j,j<n->f m<=f j
 st:∀j,j<m->f m<f j
def Ol.zero(f:Nat->Int):Ol f 0 0:=⟨.inl rfl,λj h=>by omega,λj h=>by omega⟩
def Ol.step{f:Nat->Int}{n m:Nat}(h:Ol f n m):Ol f (n+1) (if f n<f m then n else m):=by
 by_cases c:f n<f m
 ·rw[an c];refine⟨.inr (by omega),λj hj=>?_,λj hj=>?_⟩
  ·by_cases e:j=n
   ·subst e;exact sy _
   ·have:=h.le j (by omega);omega
  ·have:=h.le j (by omega);omega
 ·rw[ap c];refine⟨by rcases h.lt with e|e<;>omega,λj hj=>?_,h.st⟩;by_cases e:j=n
  ·subst e;omega
  ·exact h.le j (by omega)
structure W8 (x:cI) (nw:Int) (P D:List Nat):Prop where
 perm:(P++D).Perm (fH x nw)
 asc:D.Pairwise (· < ·)
 ord:P.Pairwise (Q0 x)
 low:∀p∈P,∀d∈D,Q0 x p d
def agf(x:cI)(nw:Int):(fH x nw).Pairwise (· < ·):=List.pairwise_lt_range.filter _
def W8.start(x:cI)(nw:Int):W8 x nw [] (fH x nw):=⟨.refl _,agf x nw,.nil,λ_ h=>by cases h⟩
def W8.lt{x:cI}{nw:Int}{P D:List Nat}(h:W8 x nw P D):∀i∈D,i<x.st.length:=λi hi=>by have:=h.perm.mem_iff.1 (List.mem_append_right P hi);unfold fH at this;rw[pj,pX]at this;exact this.1
def W8.aqX{x:cI}{nw:Int}{P D:List Nat}(h:W8 x nw P D):∀i∈D,i∉P:=λi hi hp=>by have:=h.low i hp i hi;unfold Q0 Lk at this;omega
def W8.len{x:cI}{nw:Int}{P D:List Nat}(h:W8 x nw P D):P.length+D.length=(fH x nw).length:=by have:=h.perm.length_eq;rwa [cx]at this
def W8.step{x:cI}{nw:Int}{P D:List Nat}(h:W8 x nw P D){f:Nat->Int}{m:Nat}(hm:m<D.length)(hf:∀j (hj:j<D.length),f j=(cr x D[j]).dl)(hF:Ol f D.length m):W8 x nw (P++[D[m]]) (D.take m++D.drop (m+1)):=by
 have e:D=D.take m++(D[m]::D.drop (m+1)):=by rw[<-rC hm,vu]
 have KC:∀d,d∈D.take m++D.drop (m+1)->d∈D:=λd hd=>by
  rcases lH.1 hd with hd|hd
  ·exact Dr hd
  ·exact List.mem_of_mem_drop hd
 have key:∀d∈D.take m++D.drop (m+1),Q0 x D[m] d:=λd hd=>by
  rcases lH.1 hd with hd|hd
  ·obtain⟨j,hj,rfl⟩:=Ay.1 hd;have h1:j<m:=by omega
   have:=hF.st j h1;rw[hf _ hm,hf j (by omega)]at this;exact .inl (by unfold Yn;simpa using this)
  ·obtain⟨j,hj,rfl⟩:=Ip.1 hd;have:=hF.le (j+(m+1)) (by omega);rw[hf _ hm,hf (j+(m+1)) (by omega)]at this;have lA:=List.pairwise_iff_getElem.1 h.asc m (j+(m+1)) hm (by omega) (by omega);have e2:D[m+1+j]'(by omega)=D[j+(m+1)]'(by omega):=by congr 1;omega
   rw[e2];unfold Q0 Lk Yn;simp only[vj];omega
 refine⟨?_,?_,?_,?_⟩
 ·refine List.Perm.trans ?_ h.perm;rw[iR];refine List.Perm.append_left P ?_;conv=>rhs;rw[e]
  exact(List.perm_middle (l₁:=D.take m) (l₂:=D.drop (m+1)) (a:=D[m])).symm
 ·have:=h.asc;rw[e]at this;exact this.sublist (List.Sublist.append_left (List.sublist_cons_self _ _) _)
 ·rw[List.pairwise_append];exact⟨h.ord,List.pairwise_singleton _ _,λp hp d hd=>by rw[ko.1 hd];exact h.low p hp _ (cD hm)⟩
 ·intro p hp d hd;rcases lH.1 hp with hp|hp
  ·exact h.low p hp d (KC d hd)
  ·rw[ko.1 hp];exact key d hd
def W8.done{x:cI}{nw:Int}{P:List Nat}(h:W8 x nw P []):P=KA x nw:=by have hp:=h.perm;rw[fu]at hp;exact(ym.one ⟨hp,h.ord⟩ (Wg x nw))
section
variable {Z W V U U':AW} {lo sb qb:Nat} {x x' X:cI} {sv sq qq:ad}
abbrev yz(l:List Nat):List Int:=l.map λi:Nat=>(i:Int)
def aaX{l:List Nat}{j:Nat}(h:j<l.length):(yz l)[j]'(by simpa using h)=(l[j]:Int):=by simp
def UC{l:List Nat}{v:ad}(h:EL lo V 1 fJ v (yz l)){j:Nat}(hj:j<l.length):∃p,(∀W' k,pc 1 v (.int k (j:Int)) W'=some (p,W'))/\bz p V=some (.ae (l[j]:Int),V):=by obtain⟨p,h1,h2⟩:=gG.get (h.row iE Wh) (i:=j) (by simpa using hj);refine⟨p,h1,?_⟩;have:=h2 V (Le.refl V);rwa [aaX hj]at this
def NO{l:List Nat}{v:ad}(h:EL lo V 1 fJ v (yz l))(U:AW):aV Tryz.prog .len #[28] 3 #[false] [v] U=some (.ae (l.length:Int),U):=by obtain⟨a,c,e⟩:=h.slice;rw[e,eP];exact dg vM _ _ _
def bx5{b0:Nat}(g:V.get b0=some (.cells (eT x sv sq qq))):bz (.pointer (some ⟨b0,5,none⟩)) V=some (sq,V):=aO (ao g) rfl
def VZ(h:V.get sb=some (.cells (x.st.flatMap dK))){i:Nat}(hi:i<x.st.length):dJ 5 (.pointer (some ⟨sb,i*5,none⟩)) V=some (iZ (cr x i),V):=
 FC h (show x.st[i]? =some (cr x i)by rw[bN hi];simp[cr,bN hi])
def zf(h:V.get sb=some (.cells (x.st.flatMap dK))){i j:Nat}{u:ad}(hi:i<x.st.length)(hj:(dK (cr x i))[j]? =some u):bz (.pointer (some ⟨sb,i*5+j,none⟩)) V=some (u,V):=by
 have rq:x.st[i]? =some (cr x i):=by rw[bN hi];simp[cr,bN hi]
 have e:=gO (λc:List ad=>c[j]?) (E4 ni rq);have hj5:j<5:=by have:=(dh.1 hj).1;rwa [ni]at this
 simp only[mm,p9,an hj5]at e;exact aO (ao h) (e.trans hj)
def afx{R:ai.Fr}{b0:Nat}{nw:Int}{v4:ad}{n:Nat}(hn:x.st.length=n)(hn2:n<=10000){K:LT->Option (ad×AW)}{G:ad×AW->Prop}(hs:U.get sb=some (.cells (x.st.flatMap dK)))(hsb:sb<U.next)
 (g:U.get b0=some (.cells (eT {x with now:=nw} sv (fL sb n) qq)))(S2:b0<U.next)(nh:∀y∈x.st,DE y=0)(yA:0<=nw)(r1:R 1=.ae nw)(r2:R 2=aZ b0)(r4:R 4=v4)(r5:R 5=.slice none 0 0)(r6:R 6=.ae 0)
 (hK:∀R' V v,Le U V->R' 1=.ae nw->R' 2=aZ b0->R' 4=v4->R' 5=v->EL U.next V 1 fJ v (yz (fH x nw))->Ok (K (.exit 0,R',V)) G):Ok (fb (fZ (qu ba) R U) K) G:=by
 refine bh n (by omega) (λk R V=>Le U V/\R 1=.ae nw/\R 2=aZ b0/\R 4=v4/\R 6=.ae (k:Int)/\vT U.next V 1 fJ (R 5) (yz ((List.range k).filter (sY x nw))))
  (λr=>r.1=.exit 0/\Le U r.2.2/\r.2.1 1=.ae nw/\r.2.1 2=aZ b0/\r.2.1 4=v4/\vT U.next r.2.2 1 fJ (r.2.1 5) (yz (fH x nw))) ⟨Le.refl _,r1,r2,r4,r6,by rw[r5];exact vT.nil _ _ _ _⟩ ?_ ?_ ?_
 ·rintro k R V hk ⟨aM,r1,r2,r4,r6,hL⟩;unfold qu;have t1:decide ((k:Int)<(n:Int))=true:=cK;have t2:=λW'=>bm W' k 1
  have e3:((k+1:Nat):Int)=(k:Int)+1:=by omega
  have l5:=bx5 ((aM.get _ S2).trans g);have hsV:=(aM.get _ hsb).trans hs;have hkn:k<x.st.length:=by omega
  have f2:=zf (j:=2) (u:=.ae (cr x k).dl) hsV hkn rfl;have f0:=zf (j:=0) (u:=.ae (cr x k).st) hsV hkn rfl;have KC:cr x k∈x.st:=by
   have:cr x k=x.st[k]:=by simp[cr,bN hkn]
   rw[this];exact cD _
  have hdl:0<=(cr x k).dl:=by
   have:=nh _ KC;unfold DE at this;repeat' split at this
   all_goals omega
  have d1:=aK hdl;have d2:=aK yA;have UZ:(List.range (k+1)).filter (sY x nw)=(List.range k).filter (sY x nw)++(if sY x nw k=true then [k]else []):=by
   rw[ql,rG];congr 1;by_cases c:sY x nw k=true
   ·rw[an c,List.filter_cons_of_pos c,List.filter_nil]
   ·rw[ap c,List.filter_cons_of_neg c,List.filter_nil]
  simp only[SX,r1,r2,r6,aJ,l5,dg uS,t1,rJ hk,f2,DL,d1,d2,il,f0];have hc:(decide ((cr x k).st=1)&&decide ((cr x k).dl<=nw))=sY x nw k:=by unfold sY;rw[Bool.and_comm]
  by_cases c:sY x nw k=true
  ·rw[c,bA]at hc;have dv:(yz ((List.range k).filter (sY x nw))).length<=k:=by rw[eP];exact eS (AL _ _) (by simp)
   obtain⟨v',V4,k1,k2,k3,k4⟩:=(hL.mono ((Le.refl V).add (.cells (fJ (k:Int))))).push (P:=Tryz.prog) Vu iE tj (b:=V.next) (c:=1) bF (by omega) (by omega) (by rw[AW.av];have:=aM.next;omega);simp only[SX,hc.1,hc.2,acF,k1,t2,ah];refine .inl ⟨ak,k4 _ (aM.trans ((Le.refl _).add _)) (aQ _),r1,r2,r4,by rw[e3];rfl,?_⟩;rw[UZ,an c];unfold yz;rw[rI];exact k2
  ·have c':sY x nw k=false:=ut.2 c;rw[c']at hc;have mu:vT U.next V 1 fJ (R 5) (yz ((List.range (k+1)).filter (sY x nw))):=by rw[UZ,ap c,fu];exact hL
   cases e1:decide ((cr x k).st=1)
   ·simp only[SX,t2,ah];exact .inl ⟨ak,aM,r1,r2,r4,by rw[e3];rfl,mu⟩
   ·rw[e1,il]at hc;simp only[SX,hc,t2,ah];exact .inl ⟨ak,aM,r1,r2,r4,by rw[e3];rfl,mu⟩
 ·rintro R V ⟨aM,r1,r2,r4,r6,hL⟩;unfold qu;have t1:decide ((n:Int)<(n:Int))=false:=cg;have l5:=bx5 ((aM.get _ S2).trans g);simp only[SX,r2,r6,aJ,l5,dg uS,t1,ah];exact⟨by simp,ak,aM,r1,r2,r4,by rw[fH,hn];exact hL⟩
 ·rintro⟨e,R,V⟩ ⟨rfl,h1,h2,h3,h4,h5⟩;exact hK R V _ h1 h2 h3 h4 rfl h5.el
end
def aiJ:rB Tryz.prog 28=some 1:=by kernel_rfl
def akT(W:AW):cJ Tryz.prog 28 0 [] W=some (.slice (some ⟨W.next,0,none⟩) 0 0,W.add (.cells [])):=aS (by kernel_rfl) rfl
section
variable {Z W V U U':AW} {lo sb qb:Nat} {x x' X:cI} {sv sq qq:ad}
def Zo{ρ:Type}{R:ai.Fr}{b0 n:Nat}{v1 v4 v:ad}{D:List Nat}(hn:x.st.length=n)(hD:EL lo U 1 fJ v (yz D))(hDl:D.length<=10000)(lA:∀i∈D,i<x.st.length){K:LT->Option ρ}{G:ρ->Prop}(hs:U.get sb=some (.cells (x.st.flatMap dK)))
 (g:U.get b0=some (.cells (eT X sv (fL sb n) qq)))(r1:R 1=v1)(r2:R 2=aZ b0)(r4:R 4=v4)(r5:R 5=v)(r9:R 9=.ae 0)(pi:R 10=.ae 0)
 (hK:∀R' m,Ol (λj=>(cr x (D.getD j 0)).dl) D.length m->R' 1=v1->R' 2=aZ b0->R' 4=v4->R' 5=v->R' 9=.ae (m:Int)->Ok (K (.exit 4,R',U)) G):Ok (fb (fZ (lN ba) R U) K) G:=by
 refine bh D.length (by omega) (λk R V=>V=U/\R 1=v1/\R 2=aZ b0/\R 4=v4/\R 5=v/\R 10=.ae (k:Int)/\∃m:Nat,R 9=.ae (m:Int)/\Ol (λj=>(cr x (D.getD j 0)).dl) k m)
  (λr=>r.1=.exit 4/\r.2.2=U/\r.2.1 1=v1/\r.2.1 2=aZ b0/\r.2.1 4=v4/\r.2.1 5=v/\∃m:Nat,r.2.1 9=.ae (m:Int)/\Ol (λj=>(cr x (D.getD j 0)).dl) D.length m) ⟨rfl,r1,r2,r4,r5,pi,0,r9,.zero _⟩ ?_ ?_ ?_
 ·rintro k R _ hk ⟨rfl,r1,r2,r4,r5,pi,m,r9,hF⟩;unfold lN;have t1:decide ((k:Int)<(D.length:Int))=true:=cK;have t2:=λW'=>bm W' k 1
  have e3:((k+1:Nat):Int)=(k:Int)+1:=by omega
  have l5:=bx5 g;have hm:m<D.length:=by rcases hF.lt with e|e<;>omega
  obtain⟨p,p1,p2⟩:=UC hD hk;obtain⟨q,q1,q2⟩:=UC hD hm;have hki:D[k]<x.st.length:=lA _ (cD _);have hmi:D[m]<x.st.length:=lA _ (cD _);have f2:=zf (j:=2) (u:=.ae (cr x D[k]).dl) hs hki rfl;have f3:=zf (j:=2) (u:=.ae (cr x D[m]).dl) hs hmi rfl;have hF2:=hF.step;have gk:D.getD k 0=D[k]:=by simp[List.getD,hk]
  have gm:D.getD m 0=D[m]:=by simp[List.getD,hm]
  simp only[gk,gm]at hF2;simp only[SX,r2,r5,r9,pi,NO hD,t1,aJ,l5,p1,p2,q1,q2,rJ (show D[k]<n by omega),rJ (show D[m]<n by omega),f2,f3];by_cases c:(cr x D[k]).dl<(cr x D[m]).dl
  ·rw[an c]at hF2;have d:=aK c;simp only[SX,d,t2,ah];exact .inl ⟨ak,ak,r1,r2,r4,r5,by rw[e3];rfl,k,rfl,hF2⟩
  ·rw[ap c]at hF2;have d:=aL c;simp only[SX,d,t2,ah];exact .inl ⟨ak,ak,r1,r2,r4,r5,by rw[e3];rfl,m,r9,hF2⟩
 ·rintro R _ ⟨rfl,r1,r2,r4,r5,pi,m,r9,hF⟩;unfold lN;have t1:decide ((D.length:Int)<(D.length:Int))=false:=cg;simp only[SX,r5,pi,NO hD,t1,ah];exact⟨by simp,ak,ak,r1,r2,r4,r5,m,r9,hF⟩
 ·rintro⟨e,R,V⟩ ⟨rfl,rfl,h1,h2,h4,h5,m,h9,hF⟩;exact hK R m hF h1 h2 h4 h5 h9
def ki.nw(h:ki Z W V sb qb x sv)(nw:Int):ki Z W V sb qb {x with now:=nw} sv:=⟨h.z,h.le,h.lo,h.sec,h.gs,h.gq⟩
def ki.stw(h:ki Z W V sb qb x sv)(i:Nat)(y:fx):ki Z W (V.put sb (.cells ((x.st.set i y).flatMap dK))) sb qb (S5 x i y) sv/\Fr V (V.put sb (.cells ((x.st.set i y).flatMap dK))) sb qb:=by have f1:Fr V (V.put sb (.cells ((x.st.set i y).flatMap dK))) sb qb:=⟨aQ _,λb _ h1 _=>AW.ay _ _ (bc h1)⟩;exact⟨h.step f1 rfl (AW.aW _ _ _) (aes h.gq f1 (AW.ay _ _ h.lo.2.2.2.2)),f1⟩
def ki.same(h:ki Z W V sb qb x sv){b:Nat}{c:dI}(hg:V.get b=some c):ki Z W (V.put b c) sb qb x sv:=
 h.box (aQ _) λd _=>.inl (by by_cases e:b=d;(·subst e;rw[hg];exact AW.aW _ _ _);(·exact AW.ay _ _ e))
def Fr.same(h:Fr U V sb qb){b:Nat}{c:dI}(hg:V.get b=some c):Fr U (V.put b c) sb qb:=
 h.trans ⟨aQ _,λd _ _ _=>by by_cases e:b=d;(·subst e;rw[hg];exact AW.aW _ _ _);(·exact AW.ay _ _ e)⟩
def acx{R:ai.Fr}{b0 b1:Nat}{nw:Int}{v:ad}{K:LT->Option (ad×AW)}{G:ad×AW->Prop}{c1:List ad}(h:ki Z W U sb qb x sv)(hN:x.st.length<=10000)(hk:∀i,i<x.st.length->tZ x.v i<x.qs.length)(hv:x.v.ax.length<1000)(hr:∀s∈x.v.ax,s.rows.length<1000)(hl:∀l∈x.qs,l.length<=10000)
 (h1:nw<9223372036854775808)(h2:x.v.cT<9223372036854775808)(S2:b0<U.next)(ag1:b0≠sb/\b0≠qb)(aaP:b1<U.next/\b1≠sb/\b1≠qb/\b1≠b0)(y5:sb<lo/\qb<lo/\b0<lo/\b1<lo/\lo<=U.next)(hD:EL lo U 1 fJ v (yz (fH x nw)))
 (g:U.get b0=some (.cells (eT {x with now:=nw} sv (fL sb x.st.length) (lJ qb x.qs.length))))(gb1:U.get b1=some (.cells c1))(r1:R 1=.ae nw)(r2:R 2=aZ b0)(r4:R 4=aZ b1)(r5:R 5=v)
 (hK:∀R' V,R' 2=aZ b0->R' 4=aZ b1->ki Z W V sb qb (yX x nw (KA x nw)) sv->Fr U V sb qb->V.get b0=some (.cells (eT {x with now:=nw} sv (fL sb x.st.length) (lJ qb x.qs.length)))->V.get b1=some (.cells c1)->Ok (K (.exit 2,R',V)) G):Ok (fb (fZ (qt ba) R U) K) G:=by
 have hdl:(fH x nw).length<=10000:=eS (AL _ _) (by rw[Ee];exact hN);refine bh (fH x nw).length (by omega) (λk R V=>∃P D,P.length=k/\W8 x nw P D/\R 1=.ae nw/\R 2=aZ b0/\R 4=aZ b1/\EL lo V 1 fJ (R 5) (yz D)/\V.get b0=some (.cells (eT {x with now:=nw} sv (fL sb x.st.length) (lJ qb x.qs.length)))/\V.get b1=some (.cells c1)/\ki Z W V sb qb (P.foldl (wh nw) {x with now:=nw}) sv/\Fr U V sb qb)
  (λr=>r.1=.exit 2/\r.2.1 2=aZ b0/\r.2.1 4=aZ b1/\ki Z W r.2.2 sb qb (yX x nw (KA x nw)) sv/\Fr U r.2.2 sb qb/\r.2.2.get b0=some (.cells (eT {x with now:=nw} sv (fL sb x.st.length) (lJ qb x.qs.length)))/\r.2.2.get b1=some (.cells c1))
  ⟨[],fH x nw,rfl,.start _ _,r1,r2,r4,by rw[r5];exact hD,g,gb1,h.nw nw,.refl _ _ _⟩ ?_ ?_ ?_
 ·rintro k R V hkn ⟨P,D,e1,hT,r1,r2,r4,hE,g0,g1,hR,hF⟩;unfold qt;have dv:=hT.len;have t1:decide ((0:Int)<(D.length:Int))=true:=cK;obtain⟨s1,s2,s3,s4⟩:=AG nw {x with now:=nw} P;have hql:=OF nw P {x with now:=nw} hl;have avH:∀j (hj:j<D.length),cr (P.foldl (wh nw) {x with now:=nw}) D[j]=cr x D[j]:=λj hj=>RD nw P _ (hT.aqX _ (cD hj))
  generalize hy:P.foldl (wh nw) {x with now:=nw}=y at *;have s3':y.st.length=x.st.length:=s3;have s4':y.qs.length=x.qs.length:=s4;have s1':y.v=x.v:=s1;simp only[SX,NO hE,t1];refine Zo (x:=y) (X:={x with now:=nw}) (n:=x.st.length) (D:=D) (v:=R 5) (b0:=b0) (v1:=.ae nw) (v4:=aZ b1) s3' hE (by omega) (λi hi=>by rw[s3'];exact hT.lt i hi) hR.gs g0 r1 r2 r4 rfl rfl rfl ?_;intro R' m hFm q1 q2 q4 q5 q9;have hm:m<D.length:=by rcases hFm.lt with e|e<;>omega
  have hT2:=hT.step hm (f:=λj=>(cr y (D.getD j 0)).dl) (λj hj=>by
   have:D.getD j 0=D[j]:=by simp[List.getD,hj]
   rw[this,avH j hj]) hFm;obtain⟨p,p1,p2⟩:=UC hE hm;have hDl:(yz D).length=D.length:=by simp
  obtain⟨w1,a1,a2⟩:=hE.to (P:=Tryz.prog) (t:=28) (kk:=.i64) (k:=m) aiJ (by omega) iE (by omega) (by omega);obtain⟨w2,a3,a4⟩:=hE.from (P:=Tryz.prog) (t:=28) (kk:=.i64) (k:=m+1) aiJ (by omega) iE (by omega) (by omega);rw[show((m+1:Nat):Int)=(m:Int)+1 by omega]at a3;obtain⟨u3,V3,m1,m2,m3⟩:=zB Vu iE tj a2 (by rw[cX];omega) (by rw[cX];omega);obtain⟨u4,V4,m4,m5,m6,m7⟩:=m3.app Vu iE tj (a4.keep m2) (by rw[cX,px];omega) (by rw[cX,px];omega) m2.next;have m2n:=m2.next;have le4:Le V V4:=⟨by omega,λb hb=>(m7 b hb).trans (m2.get b hb)⟩;have t3:=λW'=>bm W' m 1
  have hR4:=hR.mono le4;have azg:=hR.lo;have hFn:=hF.1;have g04:=(le4.get b0 (by omega)).trans g0;have g14:=(le4.get b1 (by omega)).trans g1;have l5:=bx5 g04;have hi:D[m]<x.st.length:=hT.lt _ (cD hm);have hiy:D[m]<y.st.length:=by omega
  have Lq:=VZ hR4.gs hiy;have Ye:y.st[D[m]]? =some (cr y D[m]):=by rw[bN hiy];simp[cr,bN hiy]
  have st:=zI (z:=lW (cr y D[m]) nw) hR4.gs Ye;obtain⟨h5,f5⟩:=hR4.stw D[m] (lW (cr y D[m]) nw);simp only[SX,q1,q2,q5,q9,p1,p2,akT,a1,t3,a3,m1,m4,aJ,l5,rJ hi,Lq,OC,dd,fQ,fN,st];generalize V4.put sb (.cells ((y.st.set D[m] (lW (cr y D[m]) nw)).flatMap dK))=V5 at *;have g05:=(f5.2 b0 (by have:=le4.next;omega) ag1.1 ag1.2).trans g04;have g15:=(f5.2 b1 (by have:=le4.next;omega) aaP.2.1 aaP.2.2.1).trans g14;have hS5:Sm {x with now:=nw} (S5 y D[m] (lW (cr y D[m]) nw)):=⟨s1,s2,by simp[S5,s3'],s4⟩;obtain⟨V6,k1,k2,k3⟩:=Na h5 (i:=D[m]) (by simpa[S5]using hiy) (by show tZ y.v D[m]<y.qs.length;rw[s1',s4'];exact hk _ hi) (by show y.v.ax.length<1000;rw[s1'];exact hv) (by show∀s∈y.v.ax,_;rw[s1'];exact hr) hql (by show y.now<_;rw[s2];exact h1) (by show y.v.cT<_;rw[s1'];exact h2);have hS6:Sm {x with now:=nw} (lG (S5 y D[m] (lW (cr y D[m]) nw)) D[m]):=by obtain⟨a,b,c,d⟩:=v8 (S5 y D[m] (lW (cr y D[m]) nw)) D[m];exact⟨a.trans hS5.v,b.trans hS5.now,c.trans hS5.st,d.trans hS5.qs⟩
  rw[hS5.rs,hS6.rs]at k1;have l7:dJ 7 (aZ b0) V5=some (kv sb qb {x with now:=nw} sv,V5):=bB (ao g05) rfl;have g06:=(k3.2 b0 (by have:=le4.next;have:=f5.1;omega) ag1.1 ag1.2).trans g05;have g16:=(k3.2 b1 (by have:=le4.next;have:=f5.1;omega) aaP.2.1 aaP.2.2.1).trans g15;have s7:=gE (W:=V6) (b:=b0) (n:=7) (vs:=(eT {x with now:=nw} sv (fL sb x.st.length) (lJ qb x.qs.length)).toArray) g06 rfl rfl (by simp[dC,row_one h.sec.1,cF,cL]);have PS:eZ 7 (aZ b0) (kv sb qb {x with now:=nw} sv) V6=some (aj,V6.put b0 (.cells (eT {x with now:=nw} sv (fL sb x.st.length) (lJ qb x.qs.length)))):=s7;simp only[SX,l7,k1,PS,ah];have hE6:EL lo V6 1 fJ u4 (yz (D.take m++D.drop (m+1))):=by
   have e:yz (D.take m++D.drop (m+1))=(yz D).take m++(yz D).drop (m+1):=by simp[yz,xp,List.map_drop]
   rw[e];refine(m5.low (Ig:=lo) (by omega)).keep (eS f5.1 k3.1) λb hb lF=>?_
   exact(k3.2 b (by have:=f5.1;omega) (by omega) (by omega)).trans (f5.2 b (by omega) (by omega) (by omega))
  refine .inl ⟨ak,P++[D[m]],D.take m++D.drop (m+1),by simp[e1],hT2,q1,q2,q4,hE6.keep (aQ _) λb hb lF=>AW.ay _ _ (by omega),AW.aW _ _ _,(AW.ay _ _ (bc aaP.2.2.2)).trans g16,?_,(((hF.trans (.of_le le4)).trans f5).trans k3).same g06⟩;rw[xJ,hy,uQ,List.foldl_nil];exact(show ki Z W V6 sb qb (wh nw y D[m]) sv from k2).same g06
 ·rintro R V ⟨P,D,e1,hT,r1,r2,r4,hE,g0,g1,hR,hF⟩;unfold qt;have dv:=hT.len;obtain rfl:D=[]:=mw.1 (by omega);simp only[SX,NO hE];have t1:decide ((0:Int)<(([]:List Nat).length:Int))=false:=rfl;simp only[SX,t1,ah];refine⟨by simp,ak,r2,r4,?_,hF,g0,g1⟩;rw[<-hT.done];exact hR
 ·rintro⟨e,R,V⟩ ⟨rfl,a2,a4,a,b,c,d⟩;exact hK R V a2 a4 a b c d
end
section
variable {Z W V U U':AW} {lo sb qb:Nat} {x x' X:cI} {sv sq qq:ad}
def MS(x:cI)(nw:Int)(L:List Nat):Sm {x with now:=nw} (yX x nw L):=by obtain⟨a,b,c,d⟩:=AG nw {x with now:=nw} L;exact⟨a,b,c,d⟩
def abE{nw:Int}(h:ki Z W V sb qb x sv)(hN:x.st.length<=10000)(hk:∀i,i<x.st.length->tZ x.v i<x.qs.length)(hv:x.v.ax.length<1000)(hr:∀s∈x.v.ax,s.rows.length<1000)(hl:∀l∈x.qs,l.length<=10000)
 (h1:nw<9223372036854775808)(h2:x.v.cT<9223372036854775808)(nh:∀y∈x.st,DE y=0)(yA:0<=nw):
 ∃V',ba (.func (.func 36) #[] #[]) [kv sb qb x sv,.ae nw] V=some (kv sb qb (yX x nw (KA x nw)) sv,V')/\ki Z W V' sb qb (yX x nw (KA x nw)) sv/\Fr V V' sb qb:=by
 have pu:Ok (Cj ba (kv sb qb x sv) (.ae nw) V) λr=>r.1=kv sb qb (yX x nw (KA x nw)) sv/\ki Z W r.2 sb qb (yX x nw (KA x nw)) sv/\Fr V r.2 sb qb:=by
  unfold Cj;have y5:=h.lo;have aM:=h.le.next;obtain⟨V1,kS⟩:∃V1,V1=(V.add (.cells (eT x sv (fL sb x.st.length) (lJ qb x.qs.length)))).add (.cells [.ae 0,.ae 0,.ae 0,.slice none 0 0,.ae 0,.slice none 0 0,.slice none 0 0]):=⟨_,rfl⟩;have le1:Le V V1:=by rw[kS];exact((Le.refl V).add _).add _
  have g0:V1.get V.next=some (.cells (eT x sv (fL sb x.st.length) (lJ qb x.qs.length))):=by rw[kS];exact(AW.aE _ _ (by rw[AW.av];omega)).trans (AW.aI _ _)
  have g1:V1.get (V.next+1)=some (.cells [.ae 0,.ae 0,.ae 0,.slice none 0 0,.ae 0,.slice none 0 0,.slice none 0 0]):=by rw[kS,<-AW.av V (.cells (eT x sv (fL sb x.st.length) (lJ qb x.qs.length)))];exact AW.aI _ _
  have n1:V1.next=V.next+2:=by rw[kS];rfl
  simp only[SX,oE,AW.av];rw[<-kS];clear kS;have s4:eZ 1 (.pointer (some ⟨V.next,4,none⟩)) (.ae nw) V1=some (aj,V1.put V.next (.cells (eT {x with now:=nw} sv (fL sb x.st.length) (lJ qb x.qs.length)))):=by rw[uZ,cR g0];rfl
  simp only[SX,aJ,s4];obtain⟨V2,yB⟩:∃V2,V2=V1.put V.next (.cells (eT {x with now:=nw} sv (fL sb x.st.length) (lJ qb x.qs.length))):=⟨_,rfl⟩;have n2:V2.next=V.next+2:=by rw[yB];exact n1
  have o2:∀b,b≠V.next->V2.get b=V1.get b:=λb hb=>by rw[yB];exact AW.ay _ _ (bc hb)
  have k0:V2.get V.next=some (.cells (eT {x with now:=nw} sv (fL sb x.st.length) (lJ qb x.qs.length))):=by rw[yB];exact AW.aW _ _ _
  rw[<-yB];clear yB s4;have QU:Le V V2:=⟨by omega,λb hb=>(o2 b (by omega)).trans (le1.get b hb)⟩;have HN:=h.mono QU;have k1:V2.get (V.next+1)=_:=(o2 _ (by omega)).trans g1;refine afx (x:=x) (nw:=nw) (n:=x.st.length) (b0:=V.next) (v4:=aZ (V.next+1)) rfl hN HN.gs (by omega) k0 (by omega) nh yA rfl rfl rfl rfl rfl ?_;intro R' V3 v l3 q1 q2 q4 q5 q6;simp only[SX];have l3n:=l3.next;refine acx (x:=x) (nw:=nw) (b0:=V.next) (b1:=V.next+1) (lo:=V2.next) (HN.mono l3) hN hk hv hr hl h1 h2 (by omega) (by omega) (by omega) (by omega) q6 ((l3.get _ (by omega)).trans k0) ((l3.get _ (by omega)).trans k1) q1 q2 q4 q5 ?_;intro R2 V4 z2 z4 hR hF y0 y1;have l7:dJ 7 (aZ V.next) V4=some (kv sb qb {x with now:=nw} sv,V4):=bB (ao y0) rfl;have s7:=gE (W:=V4) (b:=V.next+1) (n:=7) (vs:=(eT {x with now:=nw} sv (fL sb x.st.length) (lJ qb x.qs.length)).toArray) y1 rfl rfl (by simp[dC,row_one h.sec.1,cF,cL]);have PS:eZ 7 (aZ (V.next+1)) (kv sb qb {x with now:=nw} sv) V4=some (aj,V4.put (V.next+1) (.cells (eT {x with now:=nw} sv (fL sb x.st.length) (lJ qb x.qs.length)))):=s7;have l8:dJ 7 (aZ (V.next+1)) (V4.put (V.next+1) (.cells (eT {x with now:=nw} sv (fL sb x.st.length) (lJ qb x.qs.length))))=some (kv sb qb {x with now:=nw} sv,V4.put (V.next+1) (.cells (eT {x with now:=nw} sv (fL sb x.st.length) (lJ qb x.qs.length)))):=bB (ao (AW.aW _ _ _)) rfl;simp only[SX,z2,z4,l7,PS,sB,EF,l8,bJ,ah];refine⟨((MS x nw _).rs sb qb sv).symm,hR.box (by rw[AW.bG];omega) λb hb=>?_,⟨?_,λb hb e1 e2=>(AW.ay _ _ (by omega)).trans (((Fr.of_le (QU.trans l3)).trans hF).2 b hb e1 e2)⟩⟩
  ·by_cases e:b=V.next+1
   ·exact .inr ⟨by omega,by omega,by omega,_,_,by rw[e];exact y1⟩
   ·exact .inl (AW.ay _ _ (bc e))
  ·rw[AW.bG];exact((Fr.of_le (QU.trans l3)).trans hF).1
 obtain⟨⟨v,V2⟩,k1,rfl,k2⟩:=pu;exact⟨V2,by rw[L3 k1,kB (by simp[bL,eH,cC])],k2⟩
end
def xW:EZ:=λc a b d e=>cy e (I 0) λf=>gI f (yO [(I 0,none),(I 0,none),(e,none)]) (aN 4 d λg=>bV c 216 [g,a,b] λh=>aq h 0 λi=>aq h 1 λj=>aq h 2 λk=>yO [(i,none),(j,none),(k,none)])
def Nb:pD:=λc a b d=>aX a λe=>aN 4 e λf=>bV c 48 [f] λg=>aq g 0 λh=>aq g 1 λi=>lZ i (I 0) λj=>gT j (dS d) λk=>gT j (zb1 k (I 0)) λl=>aT j l (.bool false) λm=>gI m (xW c b d e (I 4)) (xW c b d e i)
def NI{x0 x1 x2 W r}(h:Nb ba x0 x1 x2 W=some r):OG 201 #[] [x0,x1,x2] W r:=oM 32 h (by kernel_rfl)
def vU(k j:Nat)(r:iI):Bool:=decide ((r.sec:Int)=k)&&decide ((r.row:Int)=j)
def fR(k j:Nat)(q:Ta):Bool:=decide ((q.1:Int)=k)&&decide ((q.2.1:Int)=j)
def A6{k j:Nat}{r:iI}:∀q∈ri r,fR k j q=vU k j r:=by intro q hq;unfold ri yH at hq;obtain⟨i,_,rfl⟩:=my.1 hq;rfl
def El{k j:Nat}:∀(L:List iI),(L.flatMap ri).filter (fR k j)=(L.filter (vU k j)).flatMap ri
 |[]=>rfl
 |r::L=>by
  rw[fy,rG,El L,Es];cases h:vU k j r with
  |true=>rw[an rfl,fy,List.filter_eq_self.2 λq hq=>by rw[A6 q hq,h]]
  |false=>rw[ap (by simp),Et.2 λq hq=>by rw[A6 q hq,h];simp,jF]
def Ni{k j:Nat}:∀{L:List iI} {s:Int} {r0:iI} {l0:List iI},mC s L->(∀r∈L,1<=r.many)->L.filter (vU k j)=r0::l0->s+((L.flatMap ri).findIdx (fR k j):Int)=r0.first
 |[],_,_,_,_,_,h=>by cases h
 |r::L,s,r0,l0,⟨hf,hF⟩,hm,h=>by
  have hr:=hm r (by simp);rw[fy];rw[Es]at h;cases hs:vU k j r with
  |true=>
   rw[hs,an rfl]at h;injection h with h1 h2;subst h1;have:((ri r++L.flatMap ri).findIdx (fR k j))=0:=by
    cases hc:ri r with
    |nil=>have:=sG r;rw[hc]at this;simp at this;omega
    |cons q l=>have:=A6 (k:=k) (j:=j) q (r:=r) (by rw[hc];simp);rw[oG,List.findIdx_cons,this,hs];rfl
   rw[this];omega
  |false=>
   rw[hs,ap (by simp)]at h;have ih:=Ni hF (λy hy=>hm y (by simp[hy])) h;have hn:(ri r).findIdx (fR k j)=(ri r).length:=by rw[List.findIdx_eq_length];intro x hx;rw[A6 x hx,hs]
   rw[If,hn,bM,sG];omega
def Q6(l:List mV)(k:Nat)(rows:List Int){j:Nat}:∀{n:Nat},n<=rows.length->(tT l k rows n).filter (vU k j)=if h:j<n then [⟨k,j,bE (l.take k)+ii (rows.take j),rows.getD j 0⟩]else []
 |0,_=>by simp[tT]
 |n+1,hn=>by
  rw[pR l k rows (by omega),rG,Q6 l k rows (by omega)];by_cases h:j<n
  ·rw[oF h,oF (by omega),Et.2,fu];intro x hx;rw[ko.1 hx];simp only[vU,bA,ip];omega
  ·rw[dif_neg h,jF];by_cases e:j=n
   ·subst e;rw[oF (by omega),List.filter_eq_self.2]
    ·rw[jt,bN (by omega),pk]
    ·intro x hx;rw[ko.1 hx];simp[vU]
   ·rw[dif_neg (by omega),Et.2];intro x hx;rw[ko.1 hx];simp only[vU,bA,ip];omega
def Uk{l:List mV}{k j:Nat}(hk:k<l.length)(hj:j<l[k].rows.length):(eY l).filter (vU k j)=[⟨k,j,bE (l.take k)+ii (l[k].rows.take j),l[k].rows[j]⟩]:=by
 have h1:=CS (l:=l) k (aQ l.length);rw[oF hk]at h1;have e:(eY l).filter (vU k j)=((rl l l.length).filter (ie (k:Int))).filter (vU k j):=by
  rw[List.filter_filter];refine List.filter_congr λx _=>?_
  simp only[vU,ie];cases decide ((x.sec:Int)=k)<;>simp
 have e2:l.getD k ⟨[],[],0⟩=l[k]:=by simp[List.getD,hk]
 rw[e,h1,e2,Q6 l k _ (aQ _),oF hj];simp[List.getD,hj]
def NW{v:fo}(he:(du v).2=0){k j:Nat}(hk:k<v.ax.length)(hj:j<v.ax[k].rows.length):
 ((jz v.ax).filter (fR k j)).length=v.ax[k].rows[j].toNat/\(Q5 (fR k j) (jz v.ax):Int)=bE (v.ax.take k)+ii (v.ax[k].rows.take j)/\0<v.ax[k].rows[j].toNat:=by
 obtain⟨hg,-⟩:=cE he;obtain⟨-,-,r3⟩:=hg.rows _ (cD hk);have hp:=(r3 _ (cD hj)).1;have hf:=Uk hk hj;have e:jz v.ax=(eY v.ax).flatMap ri:=y9 v.ax;have h1:((jz v.ax).filter (fR k j)).length=v.ax[k].rows[j].toNat:=by rw[e,El,hf,fy,A4,fu,sG]
 refine⟨h1,?_,by omega⟩;unfold Q5;rw[bM,e];have:=Ni (uE v.ax) (λr hr=>((sT hr).many hg).1) hf;rw[Int.zero_add]at this;exact this
def Uo{v:fo}{sv:ad}{W:AW}{k j:Nat}(hs:gZ W sv v.ax)(he:(du v).2=0)(hv:v.ax.length<1000)(hr:∀s∈v.ax,s.rows.length<1000)(hk:k<v.ax.length)(hj:j<v.ax[k].rows.length):
 ba (.func (.func 216) #[] #[]) [eQ v sv,.ae (k:Int),.ae (j:Int)] W=some (.tuple #[.ae (Q5 (fR k j) (jz v.ax):Int),.ae (((jz v.ax).filter (fR k j)).length:Int),.ae 0],W):=by
 refine aP rfl ?_ Mt;unfold IS;obtain⟨W1,hB,aM,hn,c4,c0,c3⟩:=jO v sv W;simp only[SX,hB,c4 _ (.refl _),E9 (hs.mono aM) hv hr];obtain⟨hg,-⟩:=cE he;obtain⟨-,-,pF⟩:=NW he hk hj;have auT:=(NW he hk hj).1;obtain⟨r,W2,q1,q2,q3⟩:=Bf (hs.mono aM) hg;have qk:=tQ hg;have htm:=At hg;simp only[SX,aK he,q1];have E2:∀(k:Nat) (W':AW),k<1000000->bO Tryz.prog .add 3 false true (.ae (k:Int)) (.ae 1) W'=some (.ae ((k+1:Nat):Int),W'):=λk W' hk=>kU (by omega) (by omega)
 generalize hl:jz v.ax=l at *;have Ll:∀i,((l.take i).filter (fR k j)).length<=l.length:=λi=>eS (AL _ _) (by rw[cX];omega)
 refine bh l.length (by omega) (λi R W'=>W'=W2/\R 1=.ae (k:Int)/\R 2=.ae (j:Int)/\R 11=.ae ((Q5 (fR k j) (l.take i):Nat):Int)/\R 12=.ae (((l.take i).filter (fR k j)).length:Int)/\R 13=r/\R 14=.ae (i:Int))
  (λq=>q.2.2=W2/\q.1=.exit 0/\q.2.1 11=.ae ((Q5 (fR k j) l:Nat):Int)/\q.2.1 12=.ae ((l.filter (fR k j)).length:Int)) ⟨rfl,rfl,rfl,rfl,rfl,rfl,rfl⟩ ?_ ?_ ?_
 ·rintro i R W' hi ⟨rfl,f1,f2,f11,Wt,f13,f14⟩;unfold vC;have e1:((i:Int)<(l.length:Int)):=by omega
  obtain⟨b,o,p1,p2⟩:=q3.get hi;obtain⟨p3,p4,p5⟩:=p2 W' (.refl _);have ht:l.take (i+1)=l.take i++[l[i]]:=by rw[List.take_add_one,bN hi];rfl
  have hti:(l.take i).length=i:=by rw[cX];omega
  have H4:=ZI (p:=fR k j) (l:=l.take i) (a:=l[i]);rw[hti,<-ht]at H4;have dj:decide ((j:Int)= -1)=false:=cg;simp only[SX,f1,f2,f13,f14,q3.len agC,e1,p1,gv,p3];have no:fR k j l[i]=false->Int->True:=λ_ _=>trivial
  have hc:=Ll i;by_cases hp:fR k j l[i]=true;case neg=>
   have hp:=ut.2 hp;have C0:=hp;rw[hp]at H4;simp only[ik,false_and,cn]at H4;unfold fR at C0;by_cases t1:(l[i].1:Int)=k
   ·rw[aK t1,il]at C0;simp only[SX,aK t1,dj,p1,p4,C0,E2 i _ (by omega),ah];exact .inl ⟨ak,ak,f1,f2,by rw[H4];exact f11,by rw[ht,sU hp];exact Wt,f13,rfl⟩
   ·simp only[SX,t1,Mz,E2 i _ (by omega),ah];exact .inl ⟨ak,ak,f1,f2,by rw[H4];exact f11,by rw[ht,sU hp];exact Wt,f13,rfl⟩
  have C0:=hp;unfold fR at C0;rw[bA]at C0;rw[hp]at H4;simp only[uL]at H4;simp only[SX,C0.1,dj,p1,p4,C0.2,Wt];by_cases t2:((l.take i).filter (fR k j)).length=0
  ·have t3:(((l.take i).filter (fR k j)).length:Int)=0:=by omega
   rw[an t2]at H4;simp only[SX,aK t3,E2 i _ (by omega),E2 ((l.take i).filter (fR k j)).length _ (by omega),ah];refine .inl ⟨ak,ak,f1,f2,by rw[H4];rfl,?_,f13,rfl⟩;rw[ht,nI hp,cx];rfl
  ·have t3:¬(((l.take i).filter (fR k j)).length:Int)=0:=by omega
   rw[ap t2]at H4;simp only[SX,t3,E2 i _ (by omega),E2 ((l.take i).filter (fR k j)).length _ (by omega),ah];refine .inl ⟨ak,ak,f1,f2,by rw[H4];exact f11,?_,f13,rfl⟩;rw[ht,nI hp,cx];rfl
 ·rintro R W' ⟨rfl,f1,f2,f11,Wt,f13,f14⟩;unfold vC;have e1:¬((l.length:Int)<(l.length:Int)):=by omega
  rw[cM]at f11 Wt;simp only[SX,f13,f14,q3.len agC,e1,ah];exact⟨by simp,ak,ak,f11,Wt⟩
 ·rintro⟨x,R,W'⟩ ⟨hW,hx,f11,Wt⟩;simp only at hW hx f11 Wt;subst hW;subst hx;have t3:¬((l.filter (fR k j)).length:Int)=0:=by omega
  simp only[SX,t3,f11,Wt,ah];exact⟨ak,aM.trans q2⟩
def Y8{v:fo}{sv:ad}{W:AW}{k j:Nat}(hs:gZ W sv v.ax)(he:(du v).2=0)(hv:v.ax.length<1000)(hr:∀s∈v.ax,s.rows.length<1000)(hk:k<v.ax.length)(hj:j<v.ax[k].rows.length):
 ba (.func (.func 201) #[] #[]) [eQ v sv,.ae (k:Int),.ae (j:Int)] W=some (.tuple #[.ae (bE (v.ax.take k)+ii (v.ax[k].rows.take j)),.ae v.ax[k].rows[j],.ae 0],W):=by
 refine aP rfl ?_ NI;unfold Nb;obtain⟨W1,hB,aM,hn,c4,c0,c3⟩:=jO v sv W;have d0:decide ((j:Int)<0)=false:=cg;have abz:=Uo (hs.mono aM) he hv hr hk hj;obtain⟨h1,h2,h3⟩:=NW he hk hj;rw[h2,h1]at abz;have e:((v.ax[k].rows[j].toNat:Nat):Int)=v.ax[k].rows[j]:=by omega
 rw[e]at abz;simp only[SX,hB,c4 _ (.refl _),E9 (hs.mono aM) hv hr,aK he,d0];unfold xW;simp only[SX,he,c4 _ (.refl _),abz,ah];exact⟨ak,aM⟩
def rz.push{W1 V:AW}{out:ad}{l:List RunT}(h:rz W1 V out l)(r:RunT)(hl:l.length<=100000):∃pQ V',dn Tryz.prog (V.add (.cells (xU r))) #[219,219] out (.slice (some ⟨V.next,0,none⟩) 1 1)=some (pQ,V')/\rz W1 V' pQ (l++[r]):=by
 obtain⟨h1,bo,h5,h6⟩:=h;have h5':=h5.keep (W':=V.add (.cells (xU r))) (by rw[AW.av];omega) λB hB=>AW.aE _ _ (by have:=h5.lt hB;omega)
 obtain⟨pQ,V',k1,k2,k3,k4⟩:=h5'.push aip wY WV (b:=V.next) (c:=1) bF (by omega) (by omega);have:=h1.next;refine⟨pQ,V',k1,⟨by rw[k3,AW.av];omega,λb hb=>?_⟩,_,k2,λB hB=>?_⟩
 ·exact(k4 b (by rw[AW.av];omega) (λe=>by have:=h6 b e;omega)).trans ((AW.aE _ _ (by omega)).trans (h1.get b hb))
 ·injection hB with hB;rw[AW.av]at hB;omega
def rz.len{W1 V:AW}{out:ad}{l:List RunT}(h:rz W1 V out l)(U:AW):aV Tryz.prog .len #[219] 3 #[false] [out] U=some (.ae (l.length:Int),U):=by obtain⟨-,bo,h5,-⟩:=h;rcases h5 with⟨rfl,rfl,-⟩|⟨-,B,-,-,rfl,-⟩<;>exact dg Pd _ _ _
def rz.last{W1 V:AW}{out:ad}{l:List RunT}{r:RunT}(h:rz W1 V out (l++[r]))(m:Int):∃p b o V',(∀U,pc 3 out (.ae (l.length:Int)) U=some (.pointer (some ⟨b,o,none⟩),U))/\bz (.pointer (some ⟨b,o+2,none⟩)) V=some (.ae r.ma,V)/\p=o+2/\
 eZ 1 (.pointer (some ⟨b,o+2,none⟩)) (.ae m) V=some (aj,V')/\rz W1 V' out (l++[⟨r.row,r.fi,m⟩]):=by
 obtain⟨h1,bo,h5,h6⟩:=h;rcases h5 with⟨e,-,-⟩|⟨h0,B,e1,e2,rfl,e4⟩
 ·simp at e
 have hn:(l++[r]).length=l.length+1:=by simp
 have hL:(l.flatMap xU).length=l.length*3:=bZ wY l;have ef:(l++[r]).flatMap xU=l.flatMap xU++xU r:=by simp
 have akX:((l++[r]).flatMap xU).set (l.length*3+2) (.ae m)=(l++[(⟨r.row,r.fi,m⟩:RunT)]).flatMap xU:=by rw[ef,iS,List.set_append_right _ _ (by omega),hL,show l.length*3+2-l.length*3=2 by omega];rfl
 refine⟨_,B,l.length*3,V.put B (.cells ((l++[(⟨r.row,r.fi,m⟩:RunT)]).flatMap xU)),λU=>?_,aO (ao e4) ?_,rfl,?_,h1.put (h6 B e1) _,bo,.inr ⟨by simp,B,e1,e2,by simp,AW.aW _ _ _⟩,h6⟩
 ·have:=oq (z:=3) (b:=B) (o:=0) (l:=(l++[r]).length) (i:=l.length) (c:=eG+3) (W:=U) (k:=.i64) (by omega);rwa [aJ]at this
 ·rw[ef,pY (by omega),hL,show l.length*3+2-l.length*3=2 by omega];rfl
 ·rw[uZ,cR e4,bJ,an (by rw[ef,cx,hL];simp),akX]
def wg(row c k:Int):List RunT:=if 0<k then [⟨row,c,k⟩]else []
def WP{row c k:Int}(h:0<k):wg row c k=[⟨row,c,k⟩]:=an h
def J7{row c:Int}:wg row c 0=[]:=bM
def ag3{R:ai.Fr}{W1 U:AW}{fv aeK v2 v3:ad}{free:List Bool}{f m:Nat}{row:Int}{l0:List RunT}{K:LT->Option LT}{G:LT->Prop}(hf:NB W1 fv free)(hm:m<=10000)(hfm:f+m<=free.length)(wU:free.length<=10000)(Ss:l0.length<=50000)
 (hO:rz W1 U aeK l0)(r1:R 1=fv)(r2:R 2=v2)(r3:R 3=v3)(r7:R 7=aeK)(r8:R 8=.ae row)(r9:R 9=.ae (f:Int))(pi:R 10=.ae (m:Int))(EI:R 12=.bool false)(NT:R 13=.ae (f:Int))
 (hK:∀R' V out,R' 1=fv->R' 2=v2->R' 3=v3->R' 7=out->R' 8=.ae row->rz W1 V out (l0++t8 row f (uU free f m) f 0)->Ok (K (.exit 2,R',V)) G):
 Ok (fb (fZ (lM ba) R U) K) G:=by
 have Ga:(uU free f m).length=m:=by unfold uU;rw[cX,px];omega
 refine bh m (by omega) (λj R V=>R 1=fv/\R 2=v2/\R 3=v3/\R 8=.ae row/\R 9=.ae (f:Int)/\R 10=.ae (m:Int)/\R 13=.ae ((f+j:Nat):Int)/\
  ∃l c k,R 12=.bool (decide (0<k))/\rz W1 V (R 7) (l++wg row c k)/\0<=k/\k<=j/\(k=0->c=f+j)/\l.length<=50000+j/\l++t8 row (f+j) ((uU free f m).drop j) c k=l0++t8 row f (uU free f m) f 0)
  (λr=>r.1=.exit 2/\r.2.1 1=fv/\r.2.1 2=v2/\r.2.1 3=v3/\r.2.1 8=.ae row/\rz W1 r.2.2 (r.2.1 7) (l0++t8 row f (uU free f m) f 0))
  ⟨r1,r2,r3,r8,r9,pi,by rw[NT];rfl,l0,f,0,EI,by rw[J7,fu,r7];exact hO,by omega,by omega,λ_=>by omega,by omega,by simp⟩ ?_ ?_ ?_
 ·rintro j R V hj ⟨r1,r2,r3,r8,r9,pi,NT,l,c,k,EI,hO,k0,kj,kc,hll,e1⟩;unfold lM;have a1:=λW'=>fd W' f m
  have a2:=λW'=>bm W' ((f+j:Nat):Int) 1
  have d1:decide (((f+j:Nat):Int)<(f:Int)+m)=true:=cK;have e14:((f+j:Nat):Int)+1=((f+(j+1):Nat):Int):=by omega
  obtain⟨b,o,g1,g2,g3⟩:=hf.get (i:=f+j) (by omega);have ld:=g3 V (hO.1.get _ g2);have hd:(uU free f m).drop j=free[f+j]'(by omega)::(uU free f m).drop (j+1):=by rw[rC (by omega)];congr 1;have:=DM free f m j;rw[an hj,bN (by omega),bN (by omega)]at this;exact AQ this
  rw[hd]at e1;have tail:∀(l':List RunT) (c' k':Int) (JR:Nat->ad) (out:ad) (V':AW),rz W1 V' out (l'++[⟨row,c',k'⟩])->l'.length<=50000+(j+1)->0<=k'->k'<=j->JR 1=fv->JR 2=v2->JR 3=v3->JR 7=out->JR 8=.ae row->JR 9=.ae (f:Int)->JR 10=.ae (m:Int)->JR 12=.bool true->
   l'++t8 row (f+j+1) ((uU free f m).drop (j+1)) c' (k'+1)=l0++t8 row f (uU free f m) f 0->
   Ok (i7 ba JR out (.ae ((f+j:Nat):Int)) V') λr=>(r.1=.normal/\(r.2.1 1=fv/\r.2.1 2=v2/\r.2.1 3=v3/\r.2.1 8=.ae row/\r.2.1 9=.ae (f:Int)/\r.2.1 10=.ae (m:Int)/\r.2.1 13=.ae ((f+(j+1):Nat):Int)/\
    ∃l c k,r.2.1 12=.bool (decide (0<k))/\rz W1 r.2.2 (r.2.1 7) (l++wg row c k)/\0<=k/\k<=((j+1:Nat):Int)/\(k=0->c=f+((j+1:Nat):Int))/\l.length<=50000+(j+1)/\l++t8 row (f+((j+1:Nat):Int)) ((uU free f m).drop (j+1)) c k=l0++t8 row f (uU free f m) f 0))\/(r.1≠ .normal/\(r.1=.exit 2/\r.2.1 1=fv/\r.2.1 2=v2/\r.2.1 3=v3/\r.2.1 8=.ae row/\rz W1 r.2.2 (r.2.1 7) (l0++t8 row f (uU free f m) f 0))):=by
   intro l' c' k' JR out V' hR Cw k0' kj' j1 j2 j3 j7 j8 j9 j10 j12 h1;unfold i7;obtain⟨p,b',o',V2,q1,q2,-,q3,q4⟩:=hR.last (k'+1);have a3:=λW'=>bm W' k' 1
   have a4:=λW'=>tJ (P:=Tryz.prog) (W:=W') (t:=3) (c:=false) (d:=true) (a:=((l'++[(⟨row,c',k'⟩:RunT)]).length:Int)) (b:=1) (by simp) (by simp;omega)
   have e5:((l'++[(⟨row,c',k'⟩:RunT)]).length:Int)-1=(l'.length:Int):=by simp
   rw[e5]at a4;simp only[SX,hR.len,a4,q1,q2,a3,q3,a2,ah];refine .inl ⟨ak,j1,j2,j3,j8,j9,j10,by rw[<-e14];rfl,l',c',k'+1,?_,?_,by omega,by omega,λh=>by omega,Cw,?_⟩
   ·rw[aK (show 0<k'+1 by omega)];exact j12
   ·rw[WP (by omega)];show rz W1 V2 (JR 7) _;rw[j7];exact q4
   ·rw[<-h1];congr 2
  simp only[SX,r1,r9,pi,NT,a1,d1,g1,ld];cases hb:free[f+j]'(by omega)with
  |false=>
   rw[hb]at e1;simp only[SX,a2,ah];refine .inl ⟨ak,r1,r2,r3,r8,r9,pi,by rw[<-e14];rfl,l++wg row c k,f+((j+1:Nat):Int),0,rfl,by rw[J7,fu];exact hO,by omega,by omega,λ_=>rfl,?_,?_⟩
   ·rw[cx];unfold wg;split<;>simp<;>omega
   ·rw[<-e1,iR];simp only[t8];unfold wg;congr 3<;>omega
  |true=>
   rw[hb]at e1;simp only[t8]at e1;simp only[SX,EI];by_cases ck:0<k
   ·rw[WP ck]at hO;simp only[SX,aK ck];exact tail l c k _ _ _ hO (by omega) k0 kj r1 r2 r3 rfl r8 r9 pi (by rw[<-aK ck];exact EI) e1
   ·obtain rfl:k=0:=by omega
    rw[J7,fu]at hO;obtain⟨pQ,V2,q1,q2⟩:=hO.push ⟨row,f+j,0⟩ (by omega);have q1':dn Tryz.prog (V.add (.cells (xU ⟨row,((f+j:Nat):Int),0⟩))) #[219,219] (R 7) (.slice (some ⟨V.next,0,none⟩) 1 1)=some (pQ,V2):=by rw[show((f+j:Nat):Int)=(f:Int)+j by omega];exact q1
    simp only[SX,ck,r8,ad1,acn,q1'];rw[kc rfl]at e1;exact tail l (f+j) 0 _ _ _ q2 (by omega) (by omega) (by omega) r1 r2 r3 rfl r8 r9 pi rfl e1
 ·rintro R V ⟨r1,r2,r3,r8,r9,pi,NT,l,c,k,EI,hO,k0,kj,kc,hll,e1⟩;unfold lM;have a1:=λW'=>fd W' f m
  have d1:decide (((f+m:Nat):Int)<(f:Int)+m)=false:=cg;rw[xB (by omega)]at e1;simp only[t8]at e1;simp only[SX,r9,pi,NT,a1,d1,ah];exact⟨by simp,ak,r1,r2,r3,r8,by rw[<-e1];exact hO⟩
 ·rintro⟨e,R,V⟩ ⟨rfl,h1,h2,h3,h8,h7⟩;exact hK R V _ h1 h2 h3 rfl h8 h7
def YK(l:List Nat)(m:Nat):fG (l++[m])=fG l+m:=by
 induction l with
 |nil=>simp[fG]
 |cons a l ih=>have e1:fG (a::l++[m])=a+fG (l++[m]):=rfl;have e2:fG (a::l)=a+fG l:=rfl;omega
def Em:∀(l:List Nat) (j:Nat),fG (l.take j)<=fG l
 |[],j=>by simp
 |a::l,0=>by simp[fG]
 |a::l,j+1=>by have:=Em l j;have e1:fG ((a::l).take (j+1))=a+fG (l.take j):=rfl;have e2:fG (a::l)=a+fG l:=rfl;omega
def Z9{v:fo}(he:(du v).2=0){k j:Nat}(hk:k<v.ax.length)(hj:j<v.ax[k].rows.length):bE (v.ax.take k)+ii (v.ax[k].rows.take j)=((CE v k+fG ((vW v k).take j):Nat):Int):=by
 obtain⟨s1,s2,s3,s4,s5,s6,s7,s8⟩:=BE he hk;have h0:0<v.ax[k].rows.length:=by omega
 have h1:=(NW he hk h0).2.1;rw[pd]at h1;have e0:ii ([]:List Int)=0:=rfl;have hf:(CE v k:Int)=bE (v.ax.take k):=by unfold CE;omega
 have h2:=Ce (v.ax[k].rows.take j) (λn hn=>(s3 n (Dr hn)).1);rw[s2,<-xp];omega
def SS{W:AW}{v:fo}{sv fv:ad}{free:List Bool}{k:Nat}(hs:eW W sv v.ax)(he:(du v).2=0)(hv:v.ax.length<1000)(Ga:∀s∈v.ax,s.rows.length<1000)(hk:k<v.ax.length)(hf:NB W fv free)(wU:(free.length:Int)=bE v.ax):
 ∃u W',ba (.func (.func 171) #[] #[]) [eQ v sv,fv,.ae (k:Int)] W=some (u,W')/\Le W W'/\ZR W' u (dD v k free):=by
 refine GJ (Q:=λu W'=>Le W W'/\ZR W' u (dD v k free)) ?_ L6 λu W' hq _ hp=>⟨Le.refl _,?_⟩
 case refine_2=>
  obtain⟨a,c,rfl,h⟩:=hq.2;rcases h with h|⟨b,o,cs,rfl,-⟩
  ·exact⟨a,c,rfl,.inl h⟩
  ·cases hp
 unfold Ja;obtain⟨s1,s2,s3,s4,s5,s6,s7,s8⟩:=BE he hk;obtain⟨W1,hB,aM,hn,c4,c0,c3⟩:=jO v sv W;obtain⟨b,i,rv,g1,g2,-,-,g4,-⟩:=gZ.get hs.1 hk;simp only[SX,hB];have aaS:dD v k free=rN free 0 (CE v k) ((vW v k).take v.ax[k].rows.length):=by unfold dD;rw[oz (by rw[s2,eP];exact aQ _)]
 have hml:(vW v k).length=v.ax[k].rows.length:=by rw[s2,eP]
 have ala:∀j,((CE v k+fG ((vW v k).take j):Nat):Int)<=free.length:=λj=>by have e:=Em (vW v k) j;have e2:=Ce v.ax[k].rows (λn hn=>(s3 n hn).1);rw[<-s2]at e2;omega
 have hll:∀j,(rN free 0 (CE v k) ((vW v k).take j)).length<=65*16:=λj=>by have h1:=ze free ((vW v k).take j) 0 (CE v k) (λm hm=>by have:=Dr hm;rw[s2]at this;obtain⟨n,hn,rfl⟩:=my.1 this;have:=(s3 n hn).2;omega);rw[cX]at h1;omega
 refine bh v.ax[k].rows.length (by omega) (λj R V=>R 1=fv/\R 2=.ae (k:Int)/\R 3=aZ W.next/\R 8=.ae (j:Int)/\rz W1 V (R 7) (rN free 0 (CE v k) ((vW v k).take j)))
  (λr=>r.1=.exit 0/\rz W1 r.2.2 (r.2.1 7) (dD v k free)) ⟨rfl,rfl,rfl,rfl,⟨Le.refl _,none,.inl ⟨rfl,rfl,rfl⟩,λB hB=>by cases hB⟩⟩ ?_ ?_ ?_
 ·rintro j R V hj ⟨r1,r2,r3,r8,hO⟩;unfold vI;have t1:decide ((j:Int)<(v.ax[k].rows.length:Int))=true:=cK;have t2:=λW'=>bm W' j 1
  have e3:((j+1:Nat):Int)=(j:Int)+1:=by omega
  have hr:=s3 _ (cD hj);have hm:(v.ax[k].rows[j]:Int)=((v.ax[k].rows[j].toNat:Nat):Int):=by omega
  have hjm:j<(vW v k).length:=by omega
  have emj:(vW v k)[j]=v.ax[k].rows[j].toNat:=by simp[s2]
  have Jm:(vW v k).take (j+1)=(vW v k).take j++[v.ax[k].rows[j].toNat]:=by rw[jv hjm,emj]
  have hZ:=aM.trans hO.1;have SC:=Y8 (W:=V) (gZ.mono hs.1 hZ) he hv Ga hk hj;rw[Z9 he hk hj,hm]at SC;have wS:=ala (j+1);rw[Jm,YK]at wS;simp only[SX,r2,r3,r8,aJ,c3 _ hO.1,g1,g4 _ hZ,g2.len yY,t1,c4 _ hO.1,SC];refine ag3 (W1:=W1) (fv:=fv) (v2:=.ae (k:Int)) (v3:=aZ W.next) (free:=free) (f:=CE v k+fG ((vW v k).take j)) (m:=v.ax[k].rows[j].toNat) (row:=(j:Int)) (hf.keep aM) (by omega) (by omega) (by omega) (by have:=hll j;omega) hO r1 r2 r3 rfl r8 rfl rfl rfl rfl ?_;intro R' V' out q1 q2 q3 q7 q8 hO';simp only[SX,q8,t2,ah];refine .inl ⟨ak,q1,q2,q3,by rw[e3];rfl,?_⟩;have CP:=F8 free ((vW v k).take j) 0 (CE v k) v.ax[k].rows[j].toNat;have e4:((0+((vW v k).take j).length:Nat):Int)=(j:Int):=by rw[cX];omega
  rw[e4]at CP;rw[Jm,CP];show rz W1 V' (R' 7) _;rw[q7];exact hO'
 ·rintro R V ⟨r1,r2,r3,r8,hO⟩;unfold vI;have t1:decide ((v.ax[k].rows.length:Int)<(v.ax[k].rows.length:Int))=false:=cg;have hZ:=aM.trans hO.1;simp only[SX,r2,r3,r8,aJ,c3 _ hO.1,g1,g4 _ hZ,g2.len yY,t1,ah];exact⟨by simp,ak,by rw[aaS];exact hO⟩
 ·rintro⟨e,R,V⟩ ⟨rfl,BB,bo,h5,h6⟩;simp only[SX,ah];exact⟨aM.trans BB,h5.gJ.el.rd wY⟩
def Fo{v:fo}(he:(du v).2=0){k:Nat}(hk:k<v.ax.length)(free:List Bool):(dD v k free).length<=1040:=by obtain⟨s1,s2,s3,s4,s5,s6,s7,s8⟩:=BE he hk;have h1:=ze free (vW v k) 0 (CE v k) (λm hm=>by rw[s2]at hm;obtain⟨n,hn,rfl⟩:=my.1 hm;have:=(s3 n hn).2;omega);rw[s2,eP,<-s2]at h1;unfold dD;omega
def ZR.ma{W:AW}{v:ad}{l:List RunT}(h:ZR W v l){i:Nat}(hi:i<l.length):∃b o,(∀W' k,pc 3 v (.int k (i:Int)) W'=some (.pointer (some ⟨b,o,none⟩),W'))/\bz (.pointer (some ⟨b,o+1,none⟩)) W=some (.ae l[i].fi,W)/\bz (.pointer (some ⟨b,o+2,none⟩)) W=some (.ae l[i].ma,W):=by obtain⟨b,o,cs,h1,h2,h3,h4⟩:=(Fs wY h).elem hi;exact⟨b,o,h1,aO h3 (gf h4 (j:=1) (by omega)),aO h3 (gf h4 (j:=2) (by omega))⟩
def aeb:∀(l:List RunT),0<=Dm l/\Dm l<=l.length
 |[]=>⟨sy _,sy _⟩
 |r::l=>by have:=aeb l;have h:=JX r.ma;simp only[Dm,cQ];omega
def Yp{W:AW}{v:fo}{sv fv:ad}{free:List Bool}{k:Nat}(hs:eW W sv v.ax)(he:(du v).2=0)(hv:v.ax.length<1000)(Ga:∀s∈v.ax,s.rows.length<1000)(hk:k<v.ax.length)(hf:NB W fv free)(wU:(free.length:Int)=bE v.ax):
 ba (.func (.func 139) #[] #[]) [eQ v sv,fv,.ae (k:Int)] W=some (.ae (Dm (dD v k free)),W):=by
 refine aP rfl ?_ IX;unfold Hl;obtain⟨W1,hB,aM,hn,c4,c0,c3⟩:=jO v sv W;obtain⟨u,W2,k1,k2,k3⟩:=SS (W:=W1) (hs.mono aM) he hv Ga hk (hf.keep aM) wU;have dv:=Fo he hk free;simp only[SX,hB,c4 _ (Le.refl _),k1];generalize hl:dD v k free=l at *;have QB:∀U:AW,aV Tryz.prog .len #[219] 3 #[false] [u] U=some (.ae (l.length:Int),U):=λU=>by obtain⟨a,c,rfl,-⟩:=k3;exact dg Pd _ _ _
 refine bh l.length (by omega) (λj R V=>V=W2/\R 7=u/\R 9=.ae (j:Int)/\R 8=.ae (Dm (l.take j)))
  (λr=>r.1=.exit 0/\r.2.2=W2/\r.2.1 8=.ae (Dm l)) ⟨rfl,rfl,rfl,rfl⟩ ?_ ?_ ?_
 ·rintro j R _ hj ⟨rfl,r7,r9,r8⟩;unfold tV;have t1:decide ((j:Int)<(l.length:Int))=true:=cK;have t2:=λW'=>bm W' j 1
  have e3:((j+1:Nat):Int)=(j:Int)+1:=by omega
  have Ll:=aeb (l.take j);have HA:(l.take j).length<=1040:=by rw[cX];omega
  have t3:=λW'=>bm W' (Dm (l.take j)) 1
  obtain⟨b,o,g1,-,g3⟩:=k3.ma hj;have Jm:Dm (l.take (j+1))=Dm (l.take j)+BG l[j].ma:=by rw[jv hj,Iz];simp[Dm]
  simp only[SX,r7,r9,QB,t1,g1,g3];by_cases c:l[j].ma=1
  ·have d:=aK c;simp only[SX,d,r8,t3,t2,ah];refine .inl ⟨ak,ak,r7,by rw[e3];rfl,?_⟩;rw[Jm,BG,an c];rfl
  ·have d:=aL c;simp only[SX,d,t2,ah];refine .inl ⟨ak,ak,r7,by rw[e3];rfl,?_⟩;rw[Jm,BG,ap c,uI];exact r8
 ·rintro R _ ⟨rfl,r7,r9,r8⟩;unfold tV;have t1:decide ((l.length:Int)<(l.length:Int))=false:=cg;rw[cM]at r8;simp only[SX,r7,r9,QB,t1,ah];exact⟨by simp,ak,ak,r8⟩
 ·rintro⟨e,R,V⟩ ⟨rfl,rfl,h8⟩;simp only[SX,ah];exact⟨h8,aM.trans k2⟩
def Pk(n:Int)(l:List RunT):List Int:=(rW n l).map λc=>c.r.fi+c.b
def kR(n:Int)(r:RunT):Nat:=(max (r.ma-n+1) 0).toNat
def HZ(r:RunT)(k:Nat):List Int:=(List.range k).map λi:Nat=>r.fi+(i:Int)
def abf(n:Int)(l:List RunT)(r:RunT):Pk n (l++[r])=Pk n l++HZ r (kR n r):=by unfold Pk rW;rw[iS,rI];congr 1;simp[chR,HZ,kR,List.map_map,Function.comp_def]
def Zt(r:RunT)(k:Nat):HZ r (k+1)=HZ r k++[r.fi+(k:Int)]:=by simp[HZ,ql]
def GC{W:AW}{v:fo}{sv fv:ad}{free:List Bool}{k:Nat}{n:Int}(hs:eW W sv v.ax)(he:(du v).2=0)(hv:v.ax.length<1000)(Ga:∀s∈v.ax,s.rows.length<1000)(hk:k<v.ax.length)(hf:NB W fv free)(wU:(free.length:Int)=bE v.ax)(hn:1<=n/\n<=8):
 ∃u W',ba (.func (.func 138) #[] #[]) [eQ v sv,fv,.ae (k:Int),.ae n] W=some (u,W')/\Le W W'/\Rd W' 1 fJ u (Pk n (dD v k free)):=by
 refine GJ (Q:=λu W'=>Le W W'/\Rd W' 1 fJ u (Pk n (dD v k free))) ?_ EW λu W' hq _ hp=>⟨Le.refl _,?_⟩
 case refine_2=>
  obtain⟨a,c,rfl,h⟩:=hq.2;rcases h with h|⟨b,o,cs,rfl,-⟩
  ·exact⟨a,c,rfl,.inl h⟩
  ·cases hp
 unfold BR;obtain⟨W1,hB,aM,Mh,c4,c0,c3⟩:=jO v sv W;obtain⟨u,W2,k1,k2,k3⟩:=SS (W:=W1) (hs.mono aM) he hv Ga hk (hf.keep aM) wU;have dv:=Fo he hk free;have nP:∀r∈dD v k free,0<r.ma/\r.ma<=64/\0<=r.fi/\r.fi<=5000:=λr hr=>by have:=qH he hk hr;have:=(BE he hk).2.2.2.2.2.1;omega
 simp only[SX,hB,c4 _ (Le.refl _),k1];generalize hl:dD v k free=l at *;have QB:∀U:AW,aV Tryz.prog .len #[219] 3 #[false] [u] U=some (.ae (l.length:Int),U):=λU=>by obtain⟨a,c,rfl,-⟩:=k3;exact dg Pd _ _ _
 refine bh l.length (by omega) (λj R V=>Le W2 V/\R 3=.ae n/\R 9=u/\R 11=.ae (j:Int)/\vT W2.next V 1 fJ (R 10) (Pk n (l.take j))/\(Pk n (l.take j)).length<=64*j)
  (λr=>r.1=.exit 0/\Le W2 r.2.2/\vT W2.next r.2.2 1 fJ (r.2.1 10) (Pk n l)) ⟨Le.refl _,rfl,rfl,rfl,vT.nil _ _ _ _,by simp[Pk,rW]⟩ ?_ ?_ ?_
 ·rintro j R V hj ⟨wR,r3,r9,od,hL,hLl⟩;unfold pU;have t1:decide ((j:Int)<(l.length:Int))=true:=cK;have t2:=λW'=>bm W' j 1
  have e3:((j+1:Nat):Int)=(j:Int)+1:=by omega
  have hr:=nP _ (cD hj);have hkR:kR n l[j]<=64:=by unfold kR;omega
  simp only[SX,r9,od,QB,t1];refine bh (kR n l[j]) (by omega) (λt R' V'=>Le W2 V'/\R' 3=.ae n/\R' 9=u/\R' 11=.ae (j:Int)/\R' 12=.ae (t:Int)/\vT W2.next V' 1 fJ (R' 10) (Pk n (l.take j)++HZ l[j] t))
   (λr=>r.1=.exit 2/\Le W2 r.2.2/\r.2.1 3=.ae n/\r.2.1 9=u/\r.2.1 11=.ae (j:Int)/\vT W2.next r.2.2 1 fJ (r.2.1 10) (Pk n (l.take j)++HZ l[j] (kR n l[j]))) ⟨wR,r3,r9,od,rfl,by simp only[HZ,List.range_zero,mS,fu];exact hL⟩ ?_ ?_ ?_
  ·rintro t R' V' ht ⟨Rw,r3,r9,od,EI,hL'⟩;unfold mz;obtain⟨b,o,g1,g2,g3⟩:=ZR.ma (k3.keep Rw) hj;have a1:=λW'=>fd W' t n
   have a2:=λW'=>fd W' (l[j].fi) t
   have a3:=λW'=>bm W' t 1
   have d1:decide ((t:Int)+n<=l[j].ma)=true:=aK (by unfold kR at ht;omega);have axI:(Pk n (l.take j)++HZ l[j] t).length<=70000:=by rw[cx];unfold HZ;simp;omega
   obtain⟨v',V4,p1,p2,p3,p4⟩:=(hL'.mono ((Le.refl V').add (.cells (fJ (l[j].fi+(t:Int)))))).push (P:=Tryz.prog) Vu iE tj (b:=V'.next) (c:=1) bF (by omega) (by omega) (by rw[AW.av];have:=Rw.next;omega);simp only[SX,r3,r9,od,EI,a1,g1,g3,d1,g2,a2,acF,p1,a3,ah];refine .inl ⟨ak,p4 _ (Rw.trans ((Le.refl _).add _)) (aQ _),r3,r9,od,by rw[show((t+1:Nat):Int)=(t:Int)+1 by omega];rfl,?_⟩;rw[Zt,<-iR];exact p2
  ·rintro R' V' ⟨Rw,r3,r9,od,EI,hL'⟩;unfold mz;obtain⟨b,o,g1,g2,g3⟩:=ZR.ma (k3.keep Rw) hj;have a1:=λW'=>fd W' ((kR n l[j]:Nat):Int) n
   have d1:decide (((kR n l[j]:Nat):Int)+n<=l[j].ma)=false:=aL (by unfold kR;omega);simp only[SX,r3,r9,od,EI,a1,g1,g3,d1,ah];exact⟨by simp,ak,Rw,r3,r9,od,hL'⟩
  ·rintro⟨e,R',V'⟩ ⟨rfl,Rw,q3,q9,q11,hL'⟩;have avg:R' 11=.ae (j:Int):=q11;simp only[SX,avg,t2,ah];have Jm:Pk n (l.take (j+1))=Pk n (l.take j)++HZ l[j] (kR n l[j]):=by rw[jv hj,abf]
   refine .inl ⟨ak,Rw,q3,q9,by rw[e3];rfl,by rw[Jm];exact hL',?_⟩;rw[Jm,cx];unfold HZ;simp;omega
 ·rintro R V ⟨wR,r3,r9,od,hL,hLl⟩;unfold pU;have t1:decide ((l.length:Int)<(l.length:Int))=false:=cg;rw[cM]at hL;simp only[SX,r9,od,QB,t1,ah];exact⟨by simp,ak,wR,hL⟩
 ·rintro⟨e,R,V⟩ ⟨rfl,wR,hL⟩;simp only[SX,ah];exact⟨(aM.trans k2).trans wR,hL.el.rd iE⟩
def aiO:kZ Tryz.prog #[135,135] 1 1=true:=by kernel_rfl
def ahR(W:AW):cJ Tryz.prog 135 0 [] W=some (.slice (some ⟨W.next,0,none⟩) 0 0,W.add (.cells [])):=aS (by kernel_rfl) rfl
def WI(b:Bool):(blC b).all Eng.one=true:=rfl
def NN:∀l:List Bool,l.flatMap blC=l.map (Value.bool)
 |[]=>rfl
 |a::l=>by rw[fy,lj,NN l];rfl
def abd{l:List Bool}{f j:Nat}(h:f+j<l.length):HU l f (j+1)=(HU l f j).set (f+j) false:=by
 apply oJ;intro i;rw[AF,uM,AF,Ic];by_cases e:f+j=i
 ·subst e;rw[an rfl,an h,bN h];simp
 ·rw[ap e];congr 1;funext b;by_cases c:f<=i/\i<f+j
  ·rw[an c,kJ]
  ·rw[ap c,bM]
def acT(l:List Bool)(f:Nat):HU l f 0=l:=by
 apply oJ;intro i;rw[AF];cases l[i]? with
 |none=>rfl
 |some b=>simp;omega
def SK{W:AW}{fv:ad}{free:List Bool}{f n:Nat}(hf:NB W fv free)(wU:free.length<=10000)(h0:0<free.length)(hn:f+n<=free.length):
 ∃u W',ba (.func (.func 140) #[] #[]) [fv,.ae (f:Int),.ae (n:Int)] W=some (u,W')/\Le W W'/\NB W' u (HU free f n):=by
 refine GJ (Q:=λu W'=>Le W W'/\NB W' u (HU free f n)) ?_ Fy λu W' hq _ hp=>⟨Le.refl _,?_⟩
 case refine_2=>
  obtain⟨a,c,rfl,h⟩:=hq.2;rcases h with h|⟨b,o,cs,rfl,-⟩
  ·exact⟨a,c,rfl,.inl h⟩
  ·cases hp
 unfold B0;obtain⟨u,W1,k1,k2,k3⟩:=zB aiO IK WI hf (by omega) (by omega);rcases k3 with⟨rfl,-⟩|⟨-,B,c,i1,i2,rfl,ic,i4⟩
 ·cases h0
 simp only[SX,ahR,k1];rw[NN]at i4;refine bh n (by omega) (λj R V=>Le W V/\V.next=W1.next/\R 1=.ae (f:Int)/\R 2=.ae (n:Int)/\R 7=.slice (some ⟨B,0,none⟩) free.length c/\R 8=.ae ((f+j:Nat):Int)/\V.get B=some (.cells ((HU free f j).map Value.bool)))
  (λr=>r.1=.exit 0/\Le W r.2.2/\r.2.2.next=W1.next/\r.2.1 7=.slice (some ⟨B,0,none⟩) free.length c/\r.2.2.get B=some (.cells ((HU free f n).map Value.bool))) ⟨k2,rfl,rfl,rfl,rfl,rfl,by rw[acT];exact i4⟩ ?_ ?_ ?_
 ·rintro j R V hj ⟨aM,Mh,r1,r2,r7,r8,hg⟩;unfold qj;have a1:=λW'=>fd W' f n
  have a2:=λW'=>bm W' ((f+j:Nat):Int) 1
  have d1:decide (((f+j:Nat):Int)<(f:Int)+(n:Int))=true:=cK;have ix:=oq (z:=1) (b:=B) (o:=0) (l:=free.length) (i:=f+j) (c:=c) (W:=V) (k:=.i64) (by omega);rw[aJ,gK]at ix;have st:eZ 1 (.pointer (some ⟨B,f+j,none⟩)) (.bool false) V=some (aj,V.put B (.cells (((HU free f j).map Value.bool).set (f+j) (.bool false)))):=by rw[Ap,cR hg,bJ,an (by rw[eP,Ic];omega)]
  simp only[SX,r1,r2,r7,r8,a1,d1,ix,st,a2,ah];refine .inl ⟨ak,aM.put i1 _,Mh,r1,r2,r7,by rw[show((f+(j+1):Nat):Int)=((f+j:Nat):Int)+1 by omega];rfl,?_⟩;rw[AW.aW,abd (by omega),List.map_set]
 ·rintro R V ⟨aM,Mh,r1,r2,r7,r8,hg⟩;unfold qj;have a1:=λW'=>fd W' f n
  have d1:decide (((f+n:Nat):Int)<(f:Int)+(n:Int))=false:=cg;simp only[SX,r1,r2,r8,a1,d1,ah];exact⟨by simp,ak,aM,Mh,r7,hg⟩
 ·rintro⟨e,R,V⟩ ⟨rfl,aM,Mh,h7,hg⟩;have h7':R 7=.slice (some ⟨B,0,none⟩) free.length c:=h7;simp only[SX,h7',ah];refine⟨aM,some ⟨B,0,none⟩,c,by rw[Ic],.inr ⟨B,0,_,rfl,by rw[Mh];exact i2,ao hg,?_⟩⟩;rw[jj,gK,NN];exact oz (by simp)
def aaN{v:fo}(he:(du v).2=0){k:Nat}(hk:k<v.ax.length){free:List Bool}{n:Int}(hn:1<=n/\n<=8){c:yW}(h:c∈rW n (dD v k free)):
 Dm (dD v k (HU free (c.r.fi+c.b).toNat n.toNat))=Dm (dD v k free)+ke c:=by
 obtain⟨h1,h2,h3,h4⟩:=KJ h;have h5:=qH he hk h1;unfold dD at h1|-;rw[JZ (n:=n.toNat) (by omega) (vW v k) 0 (CE v k) c.r c.b.toNat (c.r.fi+c.b).toNat h1 (by omega) (by omega)];unfold ke;have e1:((c.b.toNat:Nat):Int)=c.b:=by omega
 have e2:((n.toNat:Nat):Int)=n:=by omega
 rw[e1,e2,h4]
def atB(A:Int)(b:Option yW):Int×Int:=match b with
 |none=>(-1,0)
 |some c=>(c.r.fi+c.b,A+ke c)
def afr(c:yW): -1<=ke c/\ke c<=2:=by have h1:=JX c.b;have h2:=JX c.a;have h3:=JX c.r.ma;unfold ke;omega
def ab6{V V2:AW}{b o:Nat}{u:ad}{W2:AW}(h:bz (.pointer (some ⟨b,o,none⟩)) V=some (u,V))(aM:Le V V2)(hb:b<W2.next)(h2:Le W2 V):bz (.pointer (some ⟨b,o,none⟩)) V2=some (u,V2):=by
 rw[Tf]at h|-;rw[aM.aH (ff hb h2.next)];cases hc:aH V b with
 |none=>rw[hc]at h;cases h
 |some cs=>
  rw[hc]at h;simp only[bJ]at h|-;cases ho:cs[o]? with
  |none=>rw[ho]at h;cases h
  |some w=>rw[ho]at h;simp only[dA,jd,DK,and_true]at h|-;exact h
def YS{W:AW}{v:fo}{sv fv:ad}{free:List Bool}{k:Nat}{n:Int}(hs:eW W sv v.ax)(he:(du v).2=0)(hv:v.ax.length<1000)(Ga:∀s∈v.ax,s.rows.length<1000)(hk:k<v.ax.length)(hf:NB W fv free)(wU:(free.length:Int)=bE v.ax)(hn:1<=n/\n<=8):
 ba (.func (.func 109) #[] #[]) [eQ v sv,fv,.ae (k:Int),.ae n] W=some (.ae (atB (Dm (dD v k free)) (xI (rW n (dD v k free)))).1,W):=by
 refine aP rfl ?_ Mi;unfold K5;obtain⟨W1,hB,aM,Mh,c4,c0,c3⟩:=jO v sv W;obtain⟨u,W2,k1,k2,k3⟩:=GC (W:=W1) (hs.mono aM) he hv Ga hk (hf.keep aM) wU hn;have ht:=(BE he hk).2.2.2.2.2.1;have pF:=(BE he hk).2.2.2.2;have nP:∀c∈rW n (dD v k free),0<=c.r.fi+c.b/\c.r.fi+c.b+n<=free.length:=λc hc=>by obtain⟨h1,h2,h3,h4⟩:=KJ hc;have:=qH he hk h1;omega
 have hal:∀c∈rW n (dD v k free),Dm (dD v k (HU free (c.r.fi+c.b).toNat n.toNat))=Dm (dD v k free)+ke c:=λc hc=>aaN he hk hn hc
 have hAb:=aeb (dD v k free);have hAl:=Fo he hk free;have HA:(rW n (dD v k free)).length<=100000:=by
  have:∀l:List RunT,(∀r∈l,0<r.ma/\r.ma<=64)->(rW n l).length<=64*l.length:=by
   intro l;induction l with
   |nil=>intro _;simp[rW]
   |cons r l ih=>
    intro h;have h1:=ih λx hx=>h x (List.mem_cons_of_mem _ hx)
    have h2:=h r (List.mem_cons_self ..);have e:rW n (r::l)=chR n r (max (r.ma-n+1) 0).toNat++rW n l:=by simp[rW]
    rw[e,cx,cQ];unfold chR;simp;omega
  have:=this (dD v k free) λr hr=>by have:=qH he hk hr;omega
  omega
 have hvs:zG sv sv=true:=by obtain⟨a,c,rfl,-,h⟩:=hs.2;obtain⟨b,o,rfl⟩:=h (λe=>by rw[e]at hk;cases hk);exact AV _ _ _ _
 have hvv:iD (eQ v sv) (eQ v sv)=true:=pV (by simp[Y5,hvs,NH]);simp only[SX,hB,c4 _ (Le.refl _),k1];generalize sW:rW n (dD v k free)=cs at *;generalize hA:Dm (dD v k free)=A at *;have auK:(Pk n (dD v k free)).length=cs.length:=by unfold Pk;rw[sW,eP]
 have QB:∀U:AW,aV Tryz.prog .len #[28] 3 #[false] [u] U=some (.ae (cs.length:Int),U):=λU=>by obtain⟨a,c,rfl,-⟩:=k3;rw[auK];exact dg vM _ _ _
 refine bh cs.length (by omega) (λj R V=>Le W2 V/\R 1=fv/\R 2=.ae (k:Int)/\R 3=.ae n/\R 4=aZ W.next/\R 9=u/\R 12=.ae (j:Int)/\R 10=.ae (atB A (xI (cs.take j))).1/\R 11=.ae (atB A (xI (cs.take j))).2)
  (λr=>r.1=.exit 0/\Le W2 r.2.2/\r.2.1 10=.ae (atB A (xI cs)).1) ⟨Le.refl _,rfl,rfl,rfl,rfl,rfl,rfl,rfl,rfl⟩ ?_ ?_ ?_
 ·rintro j R V hj ⟨wR,r1,r2,r3,r4,r9,EI,pi,od⟩;unfold vh;have t1:decide ((j:Int)<(cs.length:Int))=true:=cK;have t2:=λW'=>bm W' j 1
  have e3:((j+1:Nat):Int)=(j:Int)+1:=by omega
  have hc:=nP _ (cD hj);have LZ:=aM.trans (k2.trans wR);have hju:j<(Pk n (dD v k free)).length:=by omega
  obtain⟨b,o,bs,p1,p2,p3,p4⟩:=(Fs iE k3).elem hju;have L7:(Pk n (dD v k free))[j]=cs[j].r.fi+cs[j].b:=by simp[Pk,sW]
  have lp:bz (.pointer (some ⟨b,o,none⟩)) V=some (.ae (cs[j].r.fi+cs[j].b),V):=by refine aO ((wR.aH p2).trans p3) ?_;have:=gf p4 (j:=0) (by omega);rw[gv]at this;rw[this,L7];rfl
  have eF:cs[j].r.fi+cs[j].b=(((cs[j].r.fi+cs[j].b).toNat:Nat):Int):=by omega
  have eN:n=((n.toNat:Nat):Int):=by omega
  obtain⟨u2,V2,w1,w2,w3⟩:=SK (W:=V) (f:=(cs[j].r.fi+cs[j].b).toNat) (n:=n.toNat) (hf.keep LZ) (by omega) (by omega) (by omega);rw[<-eF,<-eN]at w1;have hlw:((HU free (cs[j].r.fi+cs[j].b).toNat n.toNat).length:Int)=bE v.ax:=by rw[Ic];exact wU
  have aoj:=Yp (W:=V2) (hs.mono (LZ.trans w2)) he hv Ga hk w3 hlw;rw[hal _ (cD hj)]at aoj;have l4:∀U:AW,Le W1 U->dJ 4 (aZ W.next) U=some (eQ v sv,U):=λU hU=>c4 U hU
  have VM:=k2.trans wR;have hbt:xI (cs.take (j+1))=Qd (xI (cs.take j)) cs[j]:=by unfold xI;rw[jv hj,xJ];rfl
  have KC:∀c,xI (cs.take j)=some c->0<=c.r.fi+c.b:=λc hc=>(nP c (Dr (OM hc))).1
  have d0:=afr cs[j];simp only[SX,r1,r2,r3,r4,r9,EI,QB,t1,l4 V VM,p1,lp,w1,dd,l4 V2 (VM.trans w2),hvv,fN,aoj,pi,od];rw[hbt];cases e:xI (cs.take j)with
  |none=>have d1:decide ((atB A none).1<0)=true:=rfl;simp only[SX,d1,ab6 lp w2 p2 wR,t2,ah];exact .inl ⟨ak,wR.trans w2,r1,r2,r3,r4,r9,by rw[e3];rfl,rfl,rfl⟩
  |some c=>
   have h0:=KC c e;have d1:decide ((atB A (some c)).1<0)=false:=aL (show¬(c.r.fi+c.b<0)by omega);by_cases c2:ke cs[j]<ke c
   ·have d2:decide (A+ke cs[j]<(atB A (some c)).2)=true:=aK (show A+ke cs[j]<A+ke c by omega);have eb:Qd (some c) cs[j]=some cs[j]:=an c2;simp only[SX,d1,d2,ab6 lp w2 p2 wR,t2,ah,eb];exact .inl ⟨ak,wR.trans w2,r1,r2,r3,r4,r9,by rw[e3];rfl,rfl,rfl⟩
   ·have d2:decide (A+ke cs[j]<(atB A (some c)).2)=false:=aL (show¬(A+ke cs[j]<A+ke c)by omega);have eb:Qd (some c) cs[j]=some c:=ap c2;rw[e]at pi od;simp only[SX,d1,d2,t2,ah,eb];exact .inl ⟨ak,wR.trans w2,r1,r2,r3,r4,r9,by rw[e3];rfl,pi,od⟩
 ·rintro R V ⟨wR,r1,r2,r3,r4,r9,EI,pi,od⟩;unfold vh;have t1:decide ((cs.length:Int)<(cs.length:Int))=false:=cg;rw[cM]at pi;simp only[SX,r9,EI,QB,t1,ah];exact⟨by simp,ak,wR,pi⟩
 ·rintro⟨e,R,V⟩ ⟨rfl,wR,Ks⟩;simp only[SX,ah];exact⟨Ks,(aM.trans k2).trans wR⟩
def PZ{W:AW}{v:fo}{sv fv:ad}{free:List Bool}{k:Nat}(hs:eW W sv v.ax)(he:(du v).2=0)(hv:v.ax.length<1000)(Ga:∀s∈v.ax,s.rows.length<1000)(hk:k<v.ax.length)(hf:NB W fv free)(wU:(free.length:Int)=bE v.ax):
 ba (.func (.func 137) #[] #[]) [eQ v sv,fv,.ae (k:Int)] W=some (.ae 0,W):=by
 refine aP rfl ?_ Kj;unfold Gz;obtain⟨W1,hB,aM,hn,c4,c0,c3⟩:=jO v sv W;have nh:=qT (W:=W1) (hs.1.mono aM) hv Ga;have e1:(b9 v).2=0:=by unfold b9;rw[an he]
 have e2:(b9 v).1=bE v.ax:=by unfold b9;rw[an he]
 rw[e1,e2]at nh;have d1:decide ((free.length:Int)=bE v.ax)=true:=aK wU;have d2:decide ((k:Int)<0)=false:=cg;have d3:decide ((v.ax.length:Int)<=(k:Int))=false:=cg;have d0:decide ((0:Int)=0)=true:=rfl;simp only[SX,hB,c4 _ (Le.refl _),nh,jk hf acM,d1];unfold tu;simp only[SX,d2,aJ,c3 _ (Le.refl _),Row.len hs.1 zq,d3,ah];exact⟨ak,aM⟩
def Md{W:AW}{v:fo}{sv fv:ad}{free:List Bool}{k:Nat}{n:Int}(hs:eW W sv v.ax)(he:(du v).2=0)(hv:v.ax.length<1000)(Ga:∀s∈v.ax,s.rows.length<1000)(hk:k<v.ax.length)(hf:NB W fv free)(wU:(free.length:Int)=bE v.ax)(hn:1<=n/\n<=8):
 ∃u W',ba (.func (.func 108) #[] #[]) [eQ v sv,fv,.ae (k:Int),.ae n] W=some (u,W')/\Le W W'/\∃w,u=.tuple #[w,.ae 0]:=by
 refine GJ (Q:=λu W'=>Le W W'/\∃w,u=.tuple #[w,.ae 0]) ?_ FY λu W' hq _ hp=>⟨Le.refl _,hq.2⟩
 unfold B1;obtain⟨W1,hB,aM,Mh,c4,c0,c3⟩:=jO v sv W;obtain⟨u,W2,k1,k2,k3⟩:=GC (W:=W1) (hs.mono aM) he hv Ga hk (hf.keep aM) wU hn;have d0:decide ((0:Int)=0)=true:=rfl;have d1:decide (n<1)=false:=cg;have d2:decide (8<n)=false:=cg;simp only[SX,hB,c4 _ (Le.refl _),PZ (hs.mono aM) he hv Ga hk (hf.keep aM) wU,d1,d2];unfold qf;simp only[SX,c4 _ (Le.refl _),k1,ah];exact⟨aM.trans k2,_,rfl⟩
def abv{W:AW}{v:fo}{sv fv:ad}{free:List Bool}{k:Nat}{n:Int}(hs:eW W sv v.ax)(he:(du v).2=0)(hv:v.ax.length<1000)(Ga:∀s∈v.ax,s.rows.length<1000)(hk:k<v.ax.length)(hf:NB W fv free)(wU:(free.length:Int)=bE v.ax)(hn:1<=n/\n<=8):
 ba (.func (.func 71) #[] #[]) [eQ v sv,fv,.ae (k:Int),.ae n] W=some (.tuple #[.ae (qY v k n free).1,.ae (qY v k n free).2],W):=by
 refine aP rfl ?_ LC;unfold Lj;obtain⟨W1,hB,aM,Mh,c4,c0,c3⟩:=jO v sv W;obtain⟨u,W2,k1,k2,w,rfl⟩:=Md (W:=W1) (hs.mono aM) he hv Ga hk (hf.keep aM) wU hn;have hb:=YS (W:=W2) (hs.mono (aM.trans k2)) he hv Ga hk (hf.keep (aM.trans k2)) wU hn;have d0:decide ((0:Int)=0)=true:=rfl;simp only[SX,hB,c4 _ (Le.refl _),k1,c4 _ k2,hb];unfold qY;cases e:xI (rW n (dD v k free))with
 |none=>have d1:decide ((atB (Dm (dD v k free)) none).1<0)=true:=rfl;simp only[SX,d1,ah];exact⟨ak,aM.trans k2⟩
 |some c=>obtain⟨h1,h2,h3,-⟩:=KJ (OM e);have h4:=qH he hk h1;have d1:decide ((atB (Dm (dD v k free)) (some c)).1<0)=false:=aL (show¬(c.r.fi+c.b<0)by omega);simp only[SX,d1,ah];exact⟨rfl,aM.trans k2⟩
def aoq(b:Bool)(W:AW):cJ Tryz.prog 135 1 [(0,.bool b)] W=some (.slice (some ⟨W.next,0,none⟩) 1 1,W.add (.cells (blC b))):=aS (by kernel_rfl) rfl
section
variable {Z W V U U':AW} {lo sb qb:Nat} {x x' X:cI} {sv sq qq:ad} {o:jC}
def anS{b2 b3:Nat}{r0:mK}(hR:ki Z W U sb qb X sv)(hW:W.next<=b2/\W.next<=b3)(fp:b2≠sb/\b2≠qb/\b3≠sb/\b3≠qb/\b2≠b3){c:Int}{cs:List ad}(g2:U.get b2=some (.cells (.ae c::cs)))(hc:cs.length=6)(g3:U.get b3=some (.cells (ig r0)))(hF:Fr V U sb qb)(hV:V.next<=b2/\V.next<=b3)(hS:Sm x X)(r:mK):
 ∃V8 V9,eZ 7 (aZ b2) (kv sb qb x sv) U=some (aj,V8)/\(∀b,b≠b2->V8.get b=U.get b)/\eZ 9 (aZ b3) (gt r) V8=some (aj,V9)/\iX Tryz.prog [(aZ b2,some 34),(aZ b3,some 50)] V9=some (.tuple #[kv sb qb X sv,gt r],V9)/\ki Z W V9 sb qb X sv/\Fr V V9 sb qb:=by
 obtain⟨V8,V9,p1,p0,Rx,p2,p3,p4,p5⟩:=ahB (x:=x) (sq:=fL sb x.st.length) (qq:=lJ qb x.qs.length) (row_one hR.sec.1) (cL _ _ _) (cL _ _ _) g2 (by simp[hc]) g3 fp.2.2.2.2 r;have:=hF.1;refine⟨V8,V9,p1,Rx,p2,by rw[hS.rs];exact p3,hR.box (by omega) λb hb=>?_,⟨by omega,λb hb h1 h2=>(p5 b (by omega) (by omega)).trans (hF.2 b hb h1 h2)⟩⟩;by_cases e2:b=b2
 ·exact .inr ⟨by omega,by omega,by omega,_,_,by rw[e2];exact g2⟩
 by_cases e3:b=b3
 ·exact .inr ⟨by omega,by omega,by omega,_,_,by rw[e3];exact g3⟩
 ·exact .inl (p5 b e2 e3)
def acr{R:ai.Fr}{b0:Nat}{v3 v4 v5:ad}{n:Nat}(hn:x.st.length=n)(hn2:n<=10000){K:LT->Option (ad×AW)}{G:ad×AW->Prop}(hs:U.get sb=some (.cells (x.st.flatMap dK)))(hsb:sb<U.next)
 (g:U.get b0=some (.cells (eT x sv (fL sb n) qq)))(S2:b0<U.next)(r2:R 2=aZ b0)(r3:R 3=v3)(r4:R 4=v4)(r5:R 5=v5)(r6:R 6=.slice none 0 0)(r7:R 7=.ae 0)
 (hK:∀R' V v,Le U V->R' 2=aZ b0->R' 3=v3->R' 4=v4->R' 5=v5->R' 6=v->NB V v (yS x)->Ok (K (.exit 0,R',V)) G):Ok (fb (fZ (oI ba) R U) K) G:=by
 refine bh n (by omega) (λk R V=>Le U V/\R 2=aZ b0/\R 3=v3/\R 4=v4/\R 5=v5/\R 7=.ae (k:Int)/\vT U.next V 1 blC (R 6) ((yS x).take k))
  (λr=>r.1=.exit 0/\Le U r.2.2/\r.2.1 2=aZ b0/\r.2.1 3=v3/\r.2.1 4=v4/\r.2.1 5=v5/\vT U.next r.2.2 1 blC (r.2.1 6) (yS x)) ⟨Le.refl _,r2,r3,r4,r5,r7,by rw[r6];exact vT.nil _ _ _ _⟩ ?_ ?_ ?_
 ·rintro k R V hk ⟨aM,r2,r3,r4,r5,r7,hL⟩;unfold oI;have t1:decide ((k:Int)<(n:Int))=true:=cK;have t2:=λW'=>bm W' k 1
  have e3:((k+1:Nat):Int)=(k:Int)+1:=by omega
  have l5:=bx5 ((aM.get _ S2).trans g);have hkn:k<x.st.length:=by omega
  have f0:=zf (j:=0) (u:=.ae (cr x k).st) ((aM.get _ hsb).trans hs) hkn rfl;have wU:(yS x).length=n:=by unfold yS;rw[eP,hn]
  have Jm:(yS x).take (k+1)=(yS x).take k++[decide ((cr x k).st=0)]:=by rw[jv (by omega)];simp[yS,cr,hkn]
  have dv:((yS x).take k).length<=k:=by rw[cX];omega
  obtain⟨v',V4,k1,k2,k3,k4⟩:=(hL.mono ((Le.refl V).add (.cells (blC (decide ((cr x k).st=0)))))).push (P:=Tryz.prog) aiO IK WI (b:=V.next) (c:=1) bF (by omega) (by omega) (by rw[AW.av];have:=aM.next;omega);simp only[SX,r2,r7,aJ,l5,dg uS,t1,rJ hk,f0,aoq,k1,t2,ah];refine .inl ⟨ak,k4 _ (aM.trans ((Le.refl _).add _)) (aQ _),r2,r3,r4,r5,by rw[e3];rfl,?_⟩;rw[Jm];exact k2
 ·rintro R V ⟨aM,r2,r3,r4,r5,r7,hL⟩;unfold oI;have t1:decide ((n:Int)<(n:Int))=false:=cg;have l5:=bx5 ((aM.get _ S2).trans g);rw[oz (by unfold yS;rw[eP];omega)]at hL;simp only[SX,r2,r7,aJ,l5,dg uS,t1,ah];exact⟨by simp,ak,aM,r2,r3,r4,r5,hL⟩
 ·rintro⟨e,R,V⟩ ⟨rfl,h1,h2,h3,h4,h5,h6⟩;exact hK R V _ h1 h2 h3 h4 h5 rfl (h6.el.rd IK)
def Zs{R:ai.Fr}{b0 b1 a n:Nat}{t:Int}{v4 v5:ad}{K:LT->Option (ad×AW)}{G:ad×AW->Prop}(h:ki Z W U sb qb x sv)(hx:a+n<=x.st.length)(hx2:x.st.length<=10000)(S2:b0<U.next/\b0≠sb/\b0≠qb)(CU:b1<U.next/\b1≠sb/\b1≠qb)
 (g0:U.get b0=some (.cells (eT x sv (fL sb x.st.length) (lJ qb x.qs.length))))(g1:U.get b1=some (.cells (AJ o)))(hn:o.n=(n:Int))(r2:R 2=aZ b0)(r3:R 3=aZ b1)(r4:R 4=v4)(r5:R 5=v5)(r8:R 8=.ae (a:Int))(pi:R 10=.ae t)(od:R 11=.ae (a:Int))
 (hK:∀R' V,R' 2=aZ b0->R' 3=aZ b1->R' 4=v4->R' 5=v5->R' 8=.ae (a:Int)->R' 10=.ae t->ki Z W V sb qb (Rs x a n o.ow t) sv->Fr U V sb qb->Ok (K (.exit 2,R',V)) G):Ok (fb (fZ (po ba) R U) K) G:=by
 refine bh n (by omega) (λj R V=>R 2=aZ b0/\R 3=aZ b1/\R 4=v4/\R 5=v5/\R 8=.ae (a:Int)/\R 10=.ae t/\R 11=.ae ((a+j:Nat):Int)/\ki Z W V sb qb ((List.range j).foldl (qS o.ow t a) x) sv/\Fr U V sb qb)
  (λr=>r.1=.exit 2/\r.2.1 2=aZ b0/\r.2.1 3=aZ b1/\r.2.1 4=v4/\r.2.1 5=v5/\r.2.1 8=.ae (a:Int)/\r.2.1 10=.ae t/\ki Z W r.2.2 sb qb (Rs x a n o.ow t) sv/\Fr U r.2.2 sb qb) ⟨r2,r3,r4,r5,r8,pi,od,h,.refl _ _ _⟩ ?_ ?_ ?_
 ·rintro j R V hj ⟨r2,r3,r4,r5,r8,pi,od,hR,hF⟩;unfold po;obtain⟨s1,s2,s3,s4⟩:=As o.ow t a x (List.range j);have a1:=λW'=>fd W' a n
  have a2:=λW'=>bm W' ((a+j:Nat):Int) 1
  have d1:decide (((a+j:Nat):Int)<(a:Int)+(n:Int))=true:=cK;have k0:=(hF.2 b0 S2.1 S2.2.1 S2.2.2).trans g0;have k1:=(hF.2 b1 CU.1 CU.2.1 CU.2.2).trans g1;have l5:=bx5 k0;have ln:bz (.pointer (some ⟨b1,5,none⟩)) V=some (.ae (n:Int),V):=by rw[<-hn];exact aO (ao k1) rfl
  have low:bz (.pointer (some ⟨b1,1,none⟩)) V=some (.int .u32 o.ow,V):=aO (ao k1) rfl;have t7:(List.range (j+1)).foldl (qS o.ow t a) x=qS o.ow t a ((List.range j).foldl (qS o.ow t a) x) j:=by rw[ql,xJ];rfl
  generalize(List.range j).foldl (qS o.ow t a) x=y at *;have hi:a+j<y.st.length:=by rw[s3];omega
  have Lq:=VZ hR.gs hi;have Ye:y.st[a+j]? =some (cr y (a+j)):=by rw[bN hi];simp[cr,bN hi]
  have st:=zI (z:=ML (cr y (a+j)) o.ow t) hR.gs Ye;obtain⟨h5,f5⟩:=hR.stw (a+j) (ML (cr y (a+j)) o.ow t);simp only[SX,r2,r3,r8,pi,od,aJ,ln,a1,d1,l5,rJ (show a+j<x.st.length by omega),Lq,low,Cv,dd,fQ,fN,st,a2,ah];refine .inl ⟨ak,r2,r3,r4,r5,r8,pi,by rw[show((a+(j+1):Nat):Int)=((a+j:Nat):Int)+1 by omega];rfl,?_,hF.trans f5⟩;rw[t7];exact h5
 ·rintro R V ⟨r2,r3,r4,r5,r8,pi,od,hR,hF⟩;unfold po;have a1:=λW'=>fd W' a n
  have d1:decide (((a+n:Nat):Int)<(a:Int)+(n:Int))=false:=cg;have k1:=(hF.2 b1 CU.1 CU.2.1 CU.2.2).trans g1;have ln:bz (.pointer (some ⟨b1,5,none⟩)) V=some (.ae (n:Int),V):=by rw[<-hn];exact aO (ao k1) rfl
  simp only[SX,r3,r8,od,aJ,ln,a1,d1,ah];exact⟨by simp,ak,r2,r3,r4,r5,r8,pi,hR,hF⟩
 ·rintro⟨e,R,V⟩ ⟨rfl,q2,q3,q4,q5,q8,q10,a,b⟩;exact hK R V q2 q3 q4 q5 q8 q10 a b
def X7(h:ki Z W V sb qb x sv)(he:(du x.v).2=0)(hv:x.v.ax.length<1000)(Ga:∀s∈x.v.ax,s.rows.length<1000){k:Nat}(N9:o.sc=(k:Int))(hk:k<x.v.ax.length)(t7:(x.st.length:Int)=bE x.v.ax)(hn:1<=o.n/\o.n<=8)(yA:x.now<9223372036854775808)(ak2:x.v.cT<9223372036854775808):
 ∃V',ba (.func (.func 37) #[] #[]) [kv sb qb x sv,wa o] V=some (.tuple #[kv sb qb (oC x k o.n o.ow) sv,gt (zp x k o.n)],V')/\ki Z W V' sb qb (oC x k o.n o.ow) sv/\Fr V V' sb qb:=by
 have pu:Ok (zD ba (kv sb qb x sv) (wa o) V) λr=>r.1=.tuple #[kv sb qb (oC x k o.n o.ow) sv,gt (zp x k o.n)]/\ki Z W r.2 sb qb (oC x k o.n o.ow) sv/\Fr V r.2 sb qb:=by
  unfold zD;have y5:=h.lo;have aM:=h.le.next;obtain⟨V1,kS⟩:∃V1,V1=((((V.add (.cells (eT x sv (fL sb x.st.length) (lJ qb x.qs.length)))).add (.cells (AJ o))).add (.cells [.ae 0,.ae 0,.ae 0,.slice none 0 0,.ae 0,.slice none 0 0,.slice none 0 0])).add (.cells (ig fw))):=⟨_,rfl⟩;have F:=f4 V x sv (fL sb x.st.length) (lJ qb x.qs.length) o;rw[<-kS]at F;simp only[SX,oE,B9,AW.av,iq,Nat.reduceAdd];rw[<-kS];clear kS;have h1:=h.mono F.le;have n1:=F.n;have ht:=(BE he hk).2.2.2.2.2.1;refine acr (n:=x.st.length) (v3:=aZ (V.next+1)) (v4:=aZ (V.next+2)) (v5:=aZ (V.next+3)) rfl (by omega) h1.gs (by omega) F.g0 (by omega) rfl rfl rfl rfl rfl rfl ?_;intro R2 V2 fv l2 q2 q3 q4 q5 q6 q7;have h2:=h1.mono l2;have n2:=l2.next;have QU:Le V V2:=F.le.trans l2;have g0:=(l2.get _ (by omega)).trans F.g0;have g1:=(l2.get _ (by omega)).trans F.g1;have g2:=(l2.get _ (by omega)).trans F.g2;have g3:=(l2.get _ (by omega)).trans F.g3;have l4:dJ 4 (aZ V.next) V2=some (eQ x.v sv,V2):=bB (ao g0) rfl;have lsc:bz (.pointer (some ⟨V.next+1,4,none⟩)) V2=some (.ae (k:Int),V2):=by rw[<-N9];exact aO (ao g1) rfl
  have ln:bz (.pointer (some ⟨V.next+1,5,none⟩)) V2=some (.ae o.n,V2):=aO (ao g1) rfl;have l7:dJ 7 (aZ V.next) V2=some (kv sb qb x sv,V2):=bB (ao g0) rfl;have alV:bz (.pointer (some ⟨V.next,1,none⟩)) V2=some (.ae x.v.cT,V2):=aO (ao g0) rfl;have wU:((yS x).length:Int)=bE x.v.ax:=by unfold yS;rw[eP];exact t7
  have Jy:=abv (n:=o.n) h2.ax he hv Ga hk q7 wU hn;rw[show qY x.v k o.n (yS x)=nu x k o.n from rfl]at Jy;by_cases c:(nu x k o.n).2=0
  ·have e1:oC x k o.n o.ow=Rs x (nu x k o.n).1.toNat o.n.toNat o.ow (dY x.now x.v.cT):=an c;have e2:zp x k o.n=rpB (nu x k o.n).1 o.n (dY x.now x.v.cT):=an c;rw[e1,e2];have nP:=PW he hk (show(qY x.v k o.n (yS x)).2=0 from c);rw[show qY x.v k o.n (yS x)=nu x k o.n from rfl]at nP;have d:=aK c;have ea:(nu x k o.n).1=(((nu x k o.n).1.toNat:Nat):Int):=by omega
   have en:o.n=((o.n.toNat:Nat):Int):=by omega
   have lun:=A0 (W:=V2) (val:=kv sb qb x sv) (more:=x.v.cT) rfl yA ak2 (cF _ _) (cF _ _) (cF _ _) (row_one h.sec.1) (cL _ _ _) (cL _ _ _);simp only[SX,q2,q3,q6,aJ,l4,lsc,ln,Jy,d,l7,alV,lun];refine Zs (o:=o) (a:=(nu x k o.n).1.toNat) (n:=o.n.toNat) (t:=dY x.now x.v.cT) (b0:=V.next) (b1:=V.next+1) (v4:=aZ (V.next+2)) (v5:=aZ (V.next+3)) h2 (by omega) (by omega) (by omega) (by omega) g0 g1 en q2 q3 q4 q5 (by rw[<-ea];rfl) rfl (by rw[<-ea];rfl) ?_;intro R3 V3 z2 z3 z4 z5 z8 QK zR zF;obtain⟨s1,s2,s3,s4⟩:=As o.ow (dY x.now x.v.cT) (nu x k o.n).1.toNat x (List.range o.n.toNat);have hS:Sm x (Rs x (nu x k o.n).1.toNat o.n.toNat o.ow (dY x.now x.v.cT)):=⟨s1,s2,s3,gO List.length s4⟩;have k0:=(zF.2 _ (by omega) (by omega) (by omega)).trans g0;have k1:=(zF.2 _ (by omega) (by omega) (by omega)).trans g1;have k2:=(zF.2 _ (by omega) (by omega) (by omega)).trans g2;have k3:=(zF.2 _ (by omega) (by omega) (by omega)).trans g3;obtain⟨V8,V9,p1,p0,p2,p3,p4,p5⟩:=anS (b2:=V.next+2) (b3:=V.next+3) (V:=V) zR (by omega) (by omega) k2 rfl k3 ((Fr.of_le QU).trans zF) (by omega) hS (rpB (nu x k o.n).1 o.n (dY x.now x.v.cT));have m7:dJ 7 (aZ V.next) V3=some (kv sb qb x sv,V3):=bB (ao k0) rfl;have mn:bz (.pointer (some ⟨V.next+1,5,none⟩)) V3=some (.ae o.n,V3):=aO (ao k1) rfl;have mn8:bz (.pointer (some ⟨V.next+1,5,none⟩)) V8=some (.ae o.n,V8):=aO (ao ((p0 _ (by omega)).trans k1)) rfl;rw[<-ea]at z8;simp only[SX,z2,z3,z4,z5,z8,QK,aJ,m7,mn,abx,p1,mn8,dd,lK,fN,p2,p3,ah];exact⟨ak,p4,p5⟩
  ·have e1:oC x k o.n o.ow=x:=ap c;have e2:zp x k o.n=pW (nu x k o.n).2:=ap c;rw[e1,e2];have d:=aL c;obtain⟨V8,V9,p1,p0,p2,p3,p4,p5⟩:=anS (b2:=V.next+2) (b3:=V.next+3) (V:=V) (x:=x) h2 (by omega) (by omega) g2 rfl g3 (.of_le QU) (by omega) ⟨rfl,rfl,rfl,rfl⟩ (pW (nu x k o.n).2);simp only[SX,q2,q3,q4,q5,q6,aJ,l4,lsc,ln,Jy,d,l7,ks,p1,p2,p3,ah];exact⟨ak,p4,p5⟩
 obtain⟨⟨v,V2⟩,k1,rfl,k2⟩:=pu;exact⟨V2,by rw[K3 k1,kB (by simp[bL,eH,cC])],k2⟩
end
section
variable {Z W V V1 U U':AW} {lo sb qb b4 b5:Nat} {x x' X X' Y:cI} {sv sq qq:ad} {o:jC} {R R':mK}
def ajD(h:ki Z W V sb qb X sv):MdK Z W V (kv sb qb X sv) X:=by
 intro U hn hu;have y5:=h.lo;refine⟨sv,_,_,rfl,h.sec,⟨_,_,rfl,.inr ⟨sb,0,_,rfl,by omega,ao ((hu _ (.inr (by omega)) (by omega)).trans h.gs),?_⟩⟩,?_⟩
 ·rw[jj,<-bZ ni X.st,cM]
 ·obtain⟨qv,q1,q2,q3⟩:=h.gq;refine⟨_,_,rfl,.inr ⟨qb,0,qv,rfl,by omega,ao ((hu _ (.inr (by omega)) (by omega)).trans q1),λi hi=>?_⟩⟩;obtain⟨u,u1,u2⟩:=q3 i hi;refine⟨u,by rw[aJ,gK];exact u1,?_⟩;have hs:LS W.next sb qb U u X.qs[i]:=by
   rcases u2 with u2|⟨z0,B,c,z1,z2,z3,z4,z5,z6,z7⟩
   ·exact .inl u2
   ·exact .inr ⟨z0,B,c,z1,by omega,z3,z4,z5,z6,(hu _ (.inr z1) z2).trans z7⟩
  exact hs.rd
def ki.base(h:ki Z V1 U sb qb X sv)(hw:Le W V1)(hz:Le Z W):ki Z W U sb qb X sv:=by
 have y5:=h.lo;have hn:=hw.next;refine⟨hz,hw.trans h.le,by omega,h.sec,h.gs,?_⟩;obtain⟨qv,q1,q2,q3⟩:=h.gq;refine⟨qv,q1,q2,λk hk=>?_⟩;obtain⟨u,u1,u2⟩:=q3 k hk;refine⟨u,u1,?_⟩;rcases u2 with u2|⟨z0,B,c,z1,z2⟩
 ·exact .inl u2
 ·exact .inr ⟨z0,B,c,by omega,z2⟩
abbrev mdX(sb qb:Nat)(X:cI)(sv:ad):List ad:=eT X sv (fL sb X.st.length) (lJ qb X.qs.length)
structure DB (Z W V1 U:AW) (sb qb b4 b5:Nat) (x X Y:cI) (sv sq qq:ad) (o:jC) (R:mK):Prop where
 F:F4 W V1 x sv sq qq o
 r:ki Z V1 U sb qb X sv
 b:V1.next<=b4/\V1.next<=b5/\b4≠sb/\b4≠qb/\b5≠sb/\b5≠qb/\b4≠b5/\b4<U.next/\b5<U.next
 g4:U.get b4=some (.cells (mdX sb qb Y sv))
 g5:U.get b5=some (.cells (ig R))
def DB.step(h:DB Z W V1 U sb qb b4 b5 x X Y sv sq qq o R)(hr:ki Z V1 U' sb qb X' sv)(hf:Fr U U' sb qb):DB Z W V1 U' sb qb b4 b5 x X' Y sv sq qq o R:=by have hb:=h.b;have:=hf.1;exact⟨h.F,hr,by omega,(hf.2 _ (by omega) (by omega) (by omega)).trans h.g4,(hf.2 _ (by omega) (by omega) (by omega)).trans h.g5⟩
def DB.w4(h:DB Z W V1 U sb qb b4 b5 x X Y sv sq qq o R)(Y':cI):eZ 7 (aZ b4) (kv sb qb Y' sv) U=some (aj,U.put b4 (.cells (mdX sb qb Y' sv)))/\DB Z W V1 (U.put b4 (.cells (mdX sb qb Y' sv))) sb qb b4 b5 x X Y' sv sq qq o R:=by
 have hb:=h.b;have s7:=gE (W:=U) (b:=b4) (n:=7) (vs:=(mdX sb qb Y' sv).toArray) h.g4 rfl rfl (by simp[dC,row_one h.r.sec.1,cF,cL]);refine⟨s7,h.F,h.r.box (aQ _) λb Kf=>?_,hb,AW.aW _ _ _,(AW.ay _ _ (by omega)).trans h.g5⟩;by_cases e:b=b4
 ·exact .inr ⟨by omega,by omega,by omega,_,_,by rw[e];exact h.g4⟩
 ·exact .inl (AW.ay _ _ (bc e))
def DB.w5(h:DB Z W V1 U sb qb b4 b5 x X Y sv sq qq o R)(R':mK):eZ 9 (aZ b5) (gt R') U=some (aj,U.put b5 (.cells (ig R')))/\DB Z W V1 (U.put b5 (.cells (ig R'))) sb qb b4 b5 x X Y sv sq qq o R':=by
 have hb:=h.b;have s9:=gE (W:=U) (b:=b5) (n:=9) (vs:=(ig R').toArray) h.g5 rfl rfl rfl;refine⟨s9,h.F,h.r.box (aQ _) λb Kf=>?_,hb,(AW.ay _ _ (by omega)).trans h.g4,AW.aW _ _ _⟩;by_cases e:b=b5
 ·exact .inr ⟨by omega,by omega,by omega,_,_,by rw[e];exact h.g5⟩
 ·exact .inl (AW.ay _ _ (bc e))
def DB.box(h:DB Z W V1 U sb qb b4 b5 x X Y sv sq qq o R){j:Nat}(hj:j<4):U.get (W.next+j)=V1.get (W.next+j):=h.r.le.get _ (by have:=h.F.n;omega)
def DB.l0(h:DB Z W V1 U sb qb b4 b5 x X Y sv sq qq o R):dJ 7 (aZ W.next) U=some (ka x sv sq qq,U):=bB (ao ((h.box (j:=0) (by omega)).trans h.F.g0)) rfl
def DB.l1(h:DB Z W V1 U sb qb b4 b5 x X Y sv sq qq o R):dJ 12 (aZ (W.next+1)) U=some (wa o,U):=bB (ao ((h.box (j:=1) (by omega)).trans h.F.g1)) rfl
def DB.l4(h:DB Z W V1 U sb qb b4 b5 x X Y sv sq qq o R):dJ 7 (aZ b4) U=some (kv sb qb Y sv,U):=bB (ao h.g4) rfl
def DB.l5(h:DB Z W V1 U sb qb b4 b5 x X Y sv sq qq o R):dJ 9 (aZ b5) U=some (gt R,U):=bB (ao h.g5) rfl
def JL(F:F4 W V1 x sv sq qq o)(h1:Eng.one sv=true)(h2:Eng.one sq=true)(h3:Eng.one qq=true)(aM:Le V1 U)(r:mK)(e:Int):
 ∃V8 V9,eZ 7 (aZ (W.next+2)) (ka x sv sq qq) U=some (aj,V8)/\(∀b,b≠W.next+2->V8.get b=U.get b)/\eZ 9 (aZ (W.next+3)) (gt r) V8=some (aj,V9)/\iX Tryz.prog [(aZ (W.next+2),some 34),(aZ (W.next+3),some 50),(.ae e,none)] V9=some (.tuple #[ka x sv sq qq,gt r,.ae e],V9)/\Le W V9:=by
 have n1:=F.n;have nU:=aM.next;obtain⟨V8,V9,p1,p0,Rx,p2,p3,p4,p5⟩:=Cq (x:=x) h1 h2 h3 ((aM.get _ (by omega)).trans F.g2) rfl ((aM.get _ (by omega)).trans F.g3) (by omega) r (.ae e);have le9:Le W V9:=⟨by omega,λb hb=>(p5 b (by omega) (by omega)).trans ((aM.get b (by omega)).trans (F.le.get b hb))⟩;exact⟨V8,V9,p1,Rx,p2,p3,le9⟩
def alX(h:DB Z W V1 U sb qb b4 b5 x X X sv sq qq o R)(h2:Eng.one sq=true)(h3:Eng.one qq=true)(hz:Le Z W):
 Ok (jE ba (aZ W.next) (aZ (W.next+2)) (aZ (W.next+3)) (aZ b4) (aZ b5) U) λr=>∃eK,r.1=.tuple #[eK,gt R,.ae 0]/\Le W r.2/\Xa Z W r.2 (ka x sv sq qq) x eK (if R.er=0 then X else x):=by
 unfold jE;have hb:=h.b;have n1:=h.F.n;have h1:=row_one h.r.sec.1;have ler:bz (aZ b5) U=some (.ae R.er,U):=aO (ao h.g5) rfl;have l9:∀V8,(∀b,b≠W.next+2->V8.get b=U.get b)->dJ 9 (aZ b5) V8=some (gt R,V8):=λV8 h8=>bB (ao ((h8 _ (by omega)).trans h.g5)) rfl
 by_cases c:R.er=0
 ·have d:=aK c;rw[an c];have aM:=h.r.le;have nU:=aM.next;obtain⟨V8,V9,p1,p0,Rx,p2,p3,p4,p5⟩:=Cq (x:=X) (sq:=fL sb X.st.length) (qq:=lJ qb X.qs.length) h1 (cL _ _ _) (cL _ _ _) ((aM.get _ (by omega)).trans h.F.g2) rfl ((aM.get _ (by omega)).trans h.F.g3) (by omega) R (.ae 0);have y5:=h.r.lo;have hr9:ki Z W V9 sb qb X sv:=(h.r.base h.F.le hz).box (by omega) λb Kf=>by
   by_cases e2:b=W.next+2
   ·exact .inr ⟨by omega,by omega,by omega,_,_,by rw[e2];exact(aM.get _ (by omega)).trans h.F.g2⟩
   by_cases e3:b=W.next+3
   ·exact .inr ⟨by omega,by omega,by omega,_,_,by rw[e3];exact(aM.get _ (by omega)).trans h.F.g3⟩
   ·exact .inl (p5 b e2 e3)
  simp only[SX,aJ,ler,d,h.l4,h.l5,p1,l9 V8 Rx,dd,wQ,fN,p2,p3,ah];exact⟨_,rfl,hr9.le,.inr (ajD hr9)⟩
 ·have d:=aL c;rw[ap c];obtain⟨V8,V9,p1,Rx,p2,p3,p4⟩:=JL h.F h1 h2 h3 h.r.le R 0;simp only[SX,aJ,ler,d,h.l0,h.l5,p1,l9 V8 Rx,dd,wQ,fN,p2,p3,ah];exact⟨_,rfl,p4,.inl ⟨rfl,rfl⟩⟩
end
section
variable {Z W V V1 U U':AW} {lo sb qb b4 b5:Nat} {x x' X X' Y:cI} {sv sq qq:ad} {o:jC} {R R':mK}
def Iy{v:fo}(h:(du v).2=0):∀s∈v.ax,s.rows.length<1000:=λs hs=>by obtain⟨hg,-⟩:=cE h;have:=(hg.rows s hs).2.1;omega
def afM(h:DB Z W V1 U sb qb b4 b5 x x x sv sq qq o fw)(hg:MdG x)(ho:Bp o=0)(hw:PN x o=0)(yA:x.now<9223372036854775808)(ES:o.nw<9223372036854775808):
 (o.k=12->¬o.nw<x.now->∃U',ba (.func (.func 36) #[] #[]) [kv sb qb x sv,.ae o.nw] U=some (kv sb qb (bX x o).1 sv,U')/\DB Z W V1 U' sb qb b4 b5 x (bX x o).1 x sv sq qq o fw/\(bX x o).2=fw)/\
 (o.k=3->∃U',ba (.func (.func 37) #[] #[]) [kv sb qb x sv,wa o] U=some (.tuple #[kv sb qb (bX x o).1 sv,gt (bX x o).2],U')/\DB Z W V1 U' sb qb b4 b5 x (bX x o).1 x sv sq qq o fw)/\
 (o.k=10\/o.k=11->∃U',ba (.func (.func 38) #[] #[]) [kv sb qb x sv,wa o] U=some (.tuple #[kv sb qb (bX x o).1 sv,gt (bX x o).2],U')/\DB Z W V1 U' sb qb b4 b5 x (bX x o).1 x sv sq qq o fw)/\
 (o.k=2\/o.k=4\/o.k=5\/o.k=6\/o.k=7\/o.k=8\/o.k=9->∃U',ba (.func (.func 39) #[] #[]) [kv sb qb x sv,wa o] U=some (.tuple #[kv sb qb (bX x o).1 sv,gt (bX x o).2],U')/\DB Z W V1 U' sb qb b4 b5 x (bX x o).1 x sv sq qq o fw):=by
 have hvb:=acI hg.EO;have Ga:=Iy hg.EO;obtain⟨GM,-,SY,-,aqY,-⟩:=cE hg.EO;have dv:=GM.len;have t7:=hg.st;have hqs:=hg.qs;have hl:∀l∈x.qs,l.length<=64:=λl hl=>by obtain⟨k,hk,rfl⟩:=Bk hl;have:=(hg.q k hk).1;simpa[gJ,List.getD,bN hk]using this
 have Cw:∀l∈x.qs,l.length<=10000:=λl CK=>by have:=hl l CK;omega
 have hkp:∀i,i<x.st.length->tZ x.v i<x.qs.length:=λi hi=>by rw[hqs];exact aa8 hg.EO (by omega)
 refine⟨λk hp=>?_,λk=>?_,λk=>?_,λk=>?_⟩
 ·obtain⟨U',k1,k2,k3⟩:=abE (nw:=o.nw) h.r (by omega) hkp (by omega) Ga Cw ES (by omega) hg.se (by have:=hg.now;omega);have e:=bX.eq_1 x o;simp only[k,Int.reduceEq,cn]at e;rw[ap hp]at e;rw[e];exact⟨U',k1,h.step k2 k3,rfl⟩
 ·obtain⟨e1,e2,e3,e4⟩:=Jx (by omega) hw;have e5:o.sc=(((py o).toNat:Nat):Int):=by omega
  obtain⟨U',k1,k2,k3⟩:=X7 (o:=o) h.r hg.EO (by omega) Ga e5 (by omega) t7 (e3 k) yA (by omega);have e:=bX.eq_1 x o;simp only[k,Int.reduceEq,bi,cn]at e;rw[e];exact⟨U',k1,h.step k2 k3⟩
 ·obtain⟨e1,e2,e3,e4⟩:=Jx (by omega) hw;have e5:o.sc=(((py o).toNat:Nat):Int):=by omega
  obtain⟨U',k1,k2,k3⟩:=XF (o:=o) h.r (k:=(py o).toNat) (by omega) (by omega) e5 (by have:=(hg.q (py o).toNat (by omega)).1;omega) k;have e:=bX.eq_1 x o;rcases k with k|k
  ·simp only[k,Int.reduceEq,bi,cn]at e k1 k2;rw[e];exact⟨U',k1,h.step k2 k3⟩
  ·simp only[k,Int.reduceEq,bi,cn]at e k1 k2;rw[e];exact⟨U',k1,h.step k2 k3⟩
 ·obtain⟨e1,e2⟩:=Xn k hw;obtain⟨U',k1,k2,k3⟩:=acC (o:=o) h.r ho k (i:=(cO o).toNat) (by omega) ⟨by omega,hkp _ (by omega),by omega,yA,by omega,by omega⟩ (by omega) Ga Cw;exact⟨U',k1,h.step k2 k3⟩
def aag(h:DB Z W V1 U sb qb b4 b5 x X x sv sq qq o fw)(h2:Eng.one sq=true)(h3:Eng.one qq=true)(hz:Le Z W)(R:mK):
 ∃U1 U2,eZ 7 (aZ b4) (kv sb qb X sv) U=some (aj,U1)/\eZ 9 (aZ b5) (gt R) U1=some (aj,U2)/\Ok (jE ba (aZ W.next) (aZ (W.next+2)) (aZ (W.next+3)) (aZ b4) (aZ b5) U2) λr=>∃eK,r.1=.tuple #[eK,gt R,.ae 0]/\Le W r.2/\Xa Z W r.2 (ka x sv sq qq) x eK (if R.er=0 then X else x):=by
 obtain⟨p1,p2⟩:=h.w4 X;obtain⟨p3,p4⟩:=p2.w5 R;exact⟨_,_,p1,p3,alX p4 h2 h3 hz⟩
end
section
variable {Z W V V1 U U':AW} {lo sb qb b4 b5:Nat} {x x' X X' Y:cI} {sv sq qq:ad} {o:jC} {R R':mK}
def amD(ho:Bp o=0)(hw:PN x o=0):yw x o=(if(bX x o).2.er=0 then(bX x o).1 else x,(bX x o).2,0):=by unfold yw;rw[an ho,an hw];split<;>rfl
def avJ(F:F4 W V1 x sv sq qq o)(Hd:eW Z sv x.v.ax)(hz:Le Z W)(nh:PL W sq x.st)(hq:PF W qq x.qs)(hx:PK x=0)(hb:Bnd x)(ES:o.nw<9223372036854775808){e:Int}(he:e=Bp o):
 Ok (qR ba (aZ W.next) (aZ (W.next+1)) (aZ (W.next+2)) (aZ (W.next+3)) (.ae e) V1) λr=>∃eK,r.1=.tuple #[eK,gt (yw x o).2.1,.ae (yw x o).2.2]/\Le W r.2/\Xa Z W r.2 (ka x sv sq qq) x eK (yw x o).1:=by
 subst he;unfold qR;have hs:=Hd.mono hz;have C1:=row_one hs.1;have DA:=CR nh;have C3:=row_one hq;have hg:=abt hx;have n1:=F.n;have d0:decide ((0:Int)=0)=true:=rfl;have l0:dJ 7 (aZ W.next) V1=some (ka x sv sq qq,V1):=bB (ao F.g0) rfl;have l1:dJ 12 (aZ (W.next+1)) V1=some (wa o,V1):=bB (ao F.g1) rfl;by_cases d1:Bp o=0;case neg=>
  have d:=aL d1;have eD:yw x o=(x,fw,Bp o):=by unfold yw;rw[ap d1]
  rw[eD];obtain⟨V8,V9,p1,Rx,p2,p3,p4⟩:=JL F C1 DA C3 (.refl _) fw (Bp o);simp only[SX,d,l0,Co,p1,p2,p3,ah];exact⟨_,rfl,p4,.inl ⟨rfl,rfl⟩⟩
 have hwr:=X9 (W:=V1) (x:=x) (sv:=sv) (qq:=qq) d1 (hs.mono F.le) (nh.keep F.le) hg.qs;by_cases d2:PN x o=0;case neg=>
  have d:=aL d2;have eD:yw x o=(x,pW (PN x o),0):=by unfold yw;rw[an d1,ap d2]
  rw[eD];obtain⟨V8,V9,p1,Rx,p2,p3,p4⟩:=JL F C1 DA C3 (.refl _) (pW (PN x o)) 0;simp only[SX,d1,l0,l1,hwr,d,ks,p1,p2,p3,ah];exact⟨_,rfl,p4,.inl ⟨rfl,rfl⟩⟩
 rw[amD d1 d2];have hk:=Ko d1;have hvb:=acI hg.EO;obtain⟨GM,-,SY,-,aqY,-⟩:=cE hg.EO;have akV:x.st≠[]:=λe=>by
  have h8:=(BE hg.EO SY).2.2.2.2.1;have h9:=(BE hg.EO SY).2.2.2.2.2.2.2;have:=hg.st;rw[e]at this;simp at this;have:(0:Int)<=CE x.v 0:=by omega
  omega
 have hq0:x.qs≠[]:=λe=>by have:=hg.qs;rw[e]at this;simp at this;rw[<-this]at SY;cases SY
 obtain⟨V2,sb,qb,c1,c2⟩:=Z8 (Z:=Z) (W:=V1) (sv:=sv) (hz.trans F.le) Hd (nh.keep F.le) (hq.mono F.le) akV hq0 hb.st hb.qs hb.q;have y5:=c2.lo;have hln:=c2.le.next;have a4:=gE (W:=V2.add (.cells [.ae 0,.ae 0,.ae 0,.slice none 0 0,.ae 0,.slice none 0 0,.slice none 0 0])) (b:=V2.next) (n:=7) (vs:=(mdX sb qb x sv).toArray) (AW.aI _ _) rfl rfl (by simp[dC,C1,cF,cL]);rw[i8]at a4;have a4':eZ 7 (aZ V2.next) (kv sb qb x sv) (V2.add (.cells [.ae 0,.ae 0,.ae 0,.slice none 0 0,.ae 0,.slice none 0 0,.slice none 0 0]))=some (aj,V2.add (.cells (mdX sb qb x sv))):=a4;have hD:DB Z W V1 ((V2.add (.cells (mdX sb qb x sv))).add (.cells (ig fw))) sb qb V2.next (V2.next+1) x x x sv sq qq o fw:=by refine⟨F,c2.mono (((Le.refl _).add _).add _),by simp only[AW.av];omega,(AW.aE _ _ (by rw[AW.av];omega)).trans (AW.aI _ _),?_⟩;rw[<-AW.av V2 (.cells (mdX sb qb x sv))];exact AW.aI _ _
 simp only[SX,d1,l0,l1,hwr,d2,c1,oE,a4',B9,AW.av];generalize(V2.add (.cells (mdX sb qb x sv))).add (.cells (ig fw))=U at hD|-;have lk:bz (aZ (W.next+1)) U=some (.ae o.k,U):=aO (ao ((hD.box (j:=1) (by omega)).trans F.g1)) rfl;obtain⟨k12,k3,k10,k2⟩:=afM hD hg d1 d2 hb.now ES;simp only[SX,lk];by_cases e1:o.k=1
 ·have d:=aK e1;have e:=bX.eq_1 x o;rw[an e1]at e;rw[e];have aua:bz (.pointer (some ⟨W.next,2,none⟩)) U=some (.ae x.v.fm,U):=aO (ao ((hD.box (j:=0) (by omega)).trans F.g0)) rfl;have lun:=A0 (W:=U) (val:=ka x sv sq qq) (more:=x.v.fm) rfl hb.now (by omega) (cF _ _) (cF _ _) (cF _ _) C1 DA C3;have s13:=aqT hD.g5 (dY x.now x.v.fm);have J:=alX (hD.w5 (T6 (dY x.now x.v.fm))).2 DA C3 hz;have akv:eZ 1 (.pointer (some ⟨V2.next+1,3,none⟩)) (.ae (dY x.now x.v.fm)) U=some (aj,U.put (V2.next+1) (.cells (ig (T6 (dY x.now x.v.fm))))):=s13;simp only[SX,d,aJ,hD.l0,aua,lun,akv];exact J
 have f1:=aL e1;by_cases e12:o.k=12
 ·have d:=aK e12;have lnw:bz (.pointer (some ⟨W.next+1,11,none⟩)) U=some (.ae o.nw,U):=aO (ao ((hD.box (j:=1) (by omega)).trans F.g1)) rfl;have UT:bz (.pointer (some ⟨W.next,4,none⟩)) U=some (.ae x.now,U):=aO (ao ((hD.box (j:=0) (by omega)).trans F.g0)) rfl;by_cases hp:o.nw<x.now
  ·have dp:=aK hp;have e:=bX.eq_1 x o;simp only[e12,Int.reduceEq,cn,an hp]at e;rw[e];obtain⟨V8,V9,p1,Rx,p2,p3,p4⟩:=JL F C1 DA C3 hD.r.le (pW 18) 0;simp only[SX,f1,d,aJ,lnw,UT,dp,hD.l0,ks,p1,p2,p3,ah];exact⟨_,rfl,p4,.inl ⟨rfl,by simp[pW]⟩⟩
  ·have dp:=aL hp;obtain⟨U',m1,m2,m3⟩:=k12 e12 hp;obtain⟨p1,p2⟩:=m2.w4 (bX x o).1;have J:=alX p2 DA C3 hz;rw[m3];simp only[SX,f1,d,aJ,lnw,UT,dp,hD.l4,m1,p1];exact J
 have Wt:=aL e12;by_cases e3:o.k=3
 ·have d:=aK e3;obtain⟨U',m1,m2⟩:=k3 e3;obtain⟨U1,U2,p1,p2,J⟩:=aag m2 DA C3 hz (bX x o).2;simp only[SX,f1,Wt,d,hD.l4,hD.l1,m1,p1,p2];exact J
 have f3:=aL e3;have aiB:o.k=10\/o.k=11->Ok (qK ba (aZ W.next) (aZ (W.next+1)) (aZ (W.next+2)) (aZ (W.next+3)) (aZ V2.next) (aZ (V2.next+1)) (.bool true) U) λr=>∃eK,r.1=.tuple #[eK,gt (bX x o).2,.ae 0]/\Le W r.2/\Xa Z W r.2 (ka x sv sq qq) x eK (if(bX x o).2.er=0 then(bX x o).1 else x):=λhk=>by unfold qK;obtain⟨U',m1,m2⟩:=k10 hk;obtain⟨U1,U2,p1,p2,J⟩:=aag m2 DA C3 hz (bX x o).2;simp only[SX,hD.l4,hD.l1,m1,p1,p2];exact J
 by_cases e10:o.k=10
 ·have d:=aK e10;simp only[SX,f1,Wt,f3,d];exact aiB (.inl e10)
 have f10:=aL e10;by_cases e11:o.k=11
 ·have d:=aK e11;simp only[SX,f1,Wt,f3,f10,d];exact aiB (.inr e11)
 have f11:=aL e11;simp only[SX,f1,Wt,f3,f10,f11];unfold qK;obtain⟨U',m1,m2⟩:=k2 (by omega);obtain⟨U1,U2,p1,p2,J⟩:=aag m2 DA C3 hz (bX x o).2;simp only[SX,hD.l4,hD.l1,m1,p1,p2];exact J
def amZ{val:ad}(hm:Hu Z W val x)(hz:Le Z W)(hr:∀s∈x.v.ax,s.rows.length<1000)(hb:Bnd x)(ES:o.nw<9223372036854775808):
 ∃eK W',ba (.func (.func 13) #[] #[]) [val,wa o] W=some (.tuple #[eK,gt (rZ x o).2.1,.ae (rZ x o).2.2],W')/\Le W W'/\Xa Z W W' val x eK (rZ x o).1:=by
 obtain⟨sv,sq,qq,rfl,Hd,nh,hq⟩:=id hm;have hs:=Hd.mono hz;have C1:=row_one hs.1;have DA:=CR nh;have C3:=row_one hq;have pu:Ok (JM ba (ka x sv sq qq) (wa o) W) λr=>∃eK,r.1=.tuple #[eK,gt (rZ x o).2.1,.ae (rZ x o).2.2]/\Le W r.2/\Xa Z W r.2 (ka x sv sq qq) x eK (rZ x o).1:=by
  unfold JM;obtain⟨V1,kS⟩:∃V1,V1=((((W.add (.cells (eT x sv sq qq))).add (.cells (AJ o))).add (.cells [.ae 0,.ae 0,.ae 0,.slice none 0 0,.ae 0,.slice none 0 0,.slice none 0 0])).add (.cells (ig fw))):=⟨_,rfl⟩;have F:=f4 W x sv sq qq o;rw[<-kS]at F;simp only[SX,oE,B9,AW.av,iq,Nat.reduceAdd];rw[<-kS];clear kS;have n1:=F.n;have hck:=Tc (W:=V1) (x:=x) (sv:=sv) (hs.mono F.le) hb.v hr (nh.keep F.le) (hq.mono F.le) hb.st hb.qs hb.q;have l0:dJ 7 (aZ W.next) V1=some (ka x sv sq qq,V1):=bB (ao F.g0) rfl;have l1:dJ 12 (aZ (W.next+1)) V1=some (wa o,V1):=bB (ao F.g1) rfl;simp only[SX,l0,hck];by_cases c:PK x=0
  ·have d:=aK c;have eM:rZ x o=yw x o:=an c;rw[eM];simp only[SX,d,l1,ZD];exact avJ F Hd hz nh hq c hb ES rfl
  ·have d:=aL c;have eM:rZ x o=(x,fw,PK x):=ap c;rw[eM];obtain⟨V8,V9,p1,Rx,p2,p3,p4⟩:=JL F C1 DA C3 (.refl _) fw (PK x);simp only[SX,d];unfold qR;simp only[SX,d,l0,Co,p1,p2,p3,ah];exact⟨_,rfl,p4,.inl ⟨rfl,rfl⟩⟩
 obtain⟨⟨v,V⟩,h1,eK,rfl,h2,h3⟩:=pu;have rX:=QL h1;unfold OG at rX;unfold gc at rX;by_cases hp:(bL (.tuple #[eK,gt (rZ x o).2.1,.ae (rZ x o).2.2])&& !Za (.tuple #[eK,gt (rZ x o).2.1,.ae (rZ x o).2.2]))=true/\Le W V
 ·rw[an hp]at rX;refine⟨_,W,rX,.refl _,?_⟩;obtain⟨Zx,sq',qq',rfl,m1,m2,m3⟩:=h3.at (hm.mono h2);exact .inr λU hUn hU=>Hu.flat hp.1 m1 m2 m3
 ·rw[ap hp]at rX;exact⟨_,V,rX,h2,h3⟩
end
def agu(s:ByteArray)(W:AW):∃n:Int,aV Tryz.prog .len #[9] 3 #[false] [.string s] W=some (.ae n,W):=⟨_,rfl⟩
end Go.Proofs.YtmaoneengdafhaaGreatDoor
namespace Go.Proofs.YtmaoneengdafhaaGreatDoor
open Go Go.Eng Go.RowKit
structure HiR (W:AW) (v:fo) (sv ev:ad) (l:List lD):Prop where
 ax:eW W sv v.ax
 ZT:EvL W ev l
 nw:∀e∈l,e.op.nw<9223372036854775808
def HiR.mono{W W':AW}{v:fo}{sv ev:ad}{l:List lD}(h:HiR W v sv ev l)(aM:Le W W'):HiR W' v sv ev l:=⟨h.ax.mono aM,h.ZT.mono aM,h.nw⟩
def afI{W:AW}{v:fo}{sv ev:ad}{l:List lD}(h:HiR W v sv ev l)(n:Int):∃c:Bool,ba (.func (.func 6) #[] #[]) [P5 v sv ev,.ae n] W=some (.bool c,W)/\(c=false->HiA W v sv ev l/\l.length<=410/\((l.length:Int)<=n\/400<l.length)):=by
 have pu:Ok (Fl ba (P5 v sv ev) (.ae n) W) λr=>∃c:Bool,r.1=.bool c/\Le W r.2/\(c=false->v.ax.length<=10/\(∀s∈v.ax,s.rows.length<=20)/\l.length<=410/\((l.length:Int)<=n\/400<l.length)):=by
  unfold Fl;have aM:Le W (W.add (.cells [.ae v.sh,.ae v.cT,.ae v.fm,sv,ev])):=(Le.refl W).add _;have hg:(W.add (.cells [.ae v.sh,.ae v.cT,.ae v.fm,sv,ev])).get W.next=some (.cells [.ae v.sh,.ae v.cT,.ae v.fm,sv,ev]):=AW.aI _ _;simp only[SX];generalize W.add (.cells [.ae v.sh,.ae v.cT,.ae v.fm,sv,ev])=W1 at *;have h1:=h.mono aM;have c3:bz (.pointer (some ⟨W.next,3,none⟩)) W1=some (sv,W1):=BJ hg rfl;have c4:bz (.pointer (some ⟨W.next,4,none⟩)) W1=some (ev,W1):=BJ hg rfl;refine bh (min v.ax.length 20) (by omega) (λi R V=>V=W1/\R 1=.ae n/\R 2=.pointer (some ⟨W.next,0,none⟩)/\R 5=.ae (i:Int)/\∀j (hj:j<v.ax.length),j<i->v.ax[j].rows.length<=20)
   (λr=>r.2.2=W1/\((r.1=.exit 0/\r.2.1 1=.ae n/\r.2.1 2=.pointer (some ⟨W.next,0,none⟩)/\∀j (hj:j<v.ax.length),j<20->v.ax[j].rows.length<=20)\/(r.1=.ret/\r.2.1 4=.bool true))) ⟨rfl,rfl,rfl,rfl,λj hj h=>by omega⟩ ?_ ?_ ?_
  ·rintro i R V hi ⟨rfl,r1,r2,r5,hj⟩;unfold xw;have rq:i<v.ax.length:=by omega
   have t1:((i:Int)<(v.ax.length:Int)):=by omega
   have t0:((i:Int)<20):=by omega
   have t2:=λW'=>bm W' i 1
   have e3:((i+1:Nat):Int)=(i:Int)+1:=by omega
   obtain⟨b,o,rv,i1,i2,-,i4,i5,-⟩:=gZ.get h1.ax.1 rq;obtain⟨m,hm⟩:=agu (bf v.ax[i].name) V;cases d2:decide (100<m)
   ·by_cases c3':v.ax[i].rows.length<=20
    ·have d3:decide ((20:Int)<(v.ax[i].rows.length:Int))=false:=cg;simp only[SX,r2,r5,aJ,gv,c3,h1.ax.1.len ug,t1,t0,i1,i4 _ (Le.refl _),hm,d2,i5 _ (Le.refl _),i2.len yY,d3,t2,ah];exact .inl ⟨ak,ak,r1,r2,by rw[e3];rfl,λj hj' lA=>by
      by_cases e:j=i
      ·subst e;exact c3'
      ·exact hj j hj' (by omega)⟩
    ·have d3:decide ((20:Int)<(v.ax[i].rows.length:Int))=true:=cK;simp only[SX,r2,r5,aJ,gv,c3,h1.ax.1.len ug,t1,t0,i1,i4 _ (Le.refl _),hm,d2,i5 _ (Le.refl _),i2.len yY,d3,t2,ah];exact .inr ⟨by simp,ak,.inr ⟨ak,rfl⟩⟩
   ·simp only[SX,r2,r5,aJ,gv,c3,h1.ax.1.len ug,t1,t0,i1,i4 _ (Le.refl _),hm,d2,t2,ah];exact .inr ⟨by simp,ak,.inr ⟨ak,rfl⟩⟩
  ·rintro R V ⟨rfl,r1,r2,r5,hj⟩;unfold xw;by_cases c:v.ax.length<=20
   ·have t1:¬(((min v.ax.length 20:Nat):Int)<(v.ax.length:Int)):=by omega
    simp only[SX,r2,r5,aJ,c3,h1.ax.1.len ug,t1,ah];exact⟨by simp,ak,.inl ⟨ak,r1,r2,λj h1 h2=>hj j h1 (by omega)⟩⟩
   ·have t1:(((min v.ax.length 20:Nat):Int)<(v.ax.length:Int)):=by omega
    have t0:¬(((min v.ax.length 20:Nat):Int)<20):=by omega
    simp only[SX,r2,r5,aJ,c3,h1.ax.1.len ug,t1,t0,ah];exact⟨by simp,ak,.inl ⟨ak,r1,r2,λj h1 h2=>hj j h1 (by omega)⟩⟩
  ·rintro⟨q,R,V⟩ ⟨rfl,hq⟩;simp only at hq;rcases hq with⟨rfl,r1,r2,hj⟩|⟨rfl,r4⟩
   ·have hsm:v.ax.length<=10->∀s∈v.ax,s.rows.length<=20:=λhl s hs=>by obtain⟨j,hj',rfl⟩:=List.mem_iff_getElem.1 hs;exact hj j hj' (by omega)
    by_cases k1:v.ax.length<=10
    ·have d1:decide ((10:Int)<(v.ax.length:Int))=false:=cg;by_cases k4:l.length<=410
     ·have d4:decide ((410:Int)<(l.length:Int))=false:=cg;by_cases k2:n<(l.length:Int)
      ·have d2:decide (n<(l.length:Int))=true:=aK k2;by_cases k3:(l.length:Int)<=400
       ·have d3:decide ((l.length:Int)<=400)=true:=aK k3;simp only[SX,r1,r2,aJ,c3,c4,h1.ax.1.len ug,h1.ZT.len MG,d1,d2,d3,ah];exact⟨true,rfl,aM,λh=>by cases h⟩
       ·have d3:decide ((l.length:Int)<=400)=false:=aL k3;simp only[SX,r1,r2,aJ,c3,c4,h1.ax.1.len ug,h1.ZT.len MG,d1,d2,d3,d4,ah];exact⟨false,rfl,aM,λ_=>⟨k1,hsm k1,k4,.inr (by omega)⟩⟩
      ·have d2:decide (n<(l.length:Int))=false:=aL k2;simp only[SX,r1,r2,aJ,c3,c4,h1.ax.1.len ug,h1.ZT.len MG,d1,d2,d4,ah];exact⟨false,rfl,aM,λ_=>⟨k1,hsm k1,k4,.inl (by omega)⟩⟩
     ·have d4:decide ((410:Int)<(l.length:Int))=true:=cK;cases d2:decide (n<(l.length:Int))<;>cases d3:decide ((l.length:Int)<=400)<;>
       (simp only[SX,r1,r2,aJ,c3,c4,h1.ax.1.len ug,h1.ZT.len MG,d1,d2,d3,d4,ah];exact⟨true,rfl,aM,λh=>by cases h⟩)
    ·have d1:decide ((10:Int)<(v.ax.length:Int))=true:=cK;simp only[SX,wu2,r2,aJ,c3,h1.ax.1.len ug,d1,ah];exact⟨true,rfl,aM,λh=>by cases h⟩
   ·simp only[SX,r4,ah];exact⟨true,rfl,aM,λh=>by cases h⟩
 obtain⟨⟨q,W'⟩,h1,c,h2,h3,h4⟩:=pu;simp only at h2;subst h2;refine⟨c,aP rfl ⟨_,h1,rfl,h3⟩ Px,λhc=>?_⟩;obtain⟨k1,k2,k3⟩:=h4 hc;exact⟨⟨h.ax,by omega,λs hs=>by have:=k2 s hs;omega,h.ZT⟩,k3⟩
end Go.Proofs.YtmaoneengdafhaaGreatDoor
namespace Go.Proofs.YtmaoneengdafhaaGreatDoor
open Go Go.Eng
def gZ.ao7{W:AW}{v:ad}{l:List mV}(h:gZ W v l){i:Nat}(hi:i<l.length):∃b o rv,(∀W' k,pc 3 v (.int k (i:Int)) W'=some (.pointer (some ⟨b,o,none⟩),W'))/\gG W rv l[i].rows/\
 (∀W',Le W W'->dJ 3 (.pointer (some ⟨b,o,none⟩)) W'=some (KN l[i] rv,W'))/\zG rv rv=true/\Eng.one rv=true:=by
 obtain⟨b,o,cs,h1,h2,h3,h4,h5,rv,h6,h7,h8⟩:=h.elem hi;refine⟨b,o,rv,h1,h7,λW' aM=>?_,h8⟩;rw[JV,aM.aH h2,h3];simp only[bJ,adp h4 h6 h5,cQ,qB,bi]
def gZ.vs{W:AW}{v:ad}{l:List mV}(h:gZ W v l){i:Nat}(hi:i<l.length):iD v v=true:=by
 obtain⟨a,c,rfl,h⟩:=h;rcases h with h|⟨b,o,cs,rfl,-⟩
 ·rw[h]at hi;simp at hi
 ·exact fQ _ _ _ _
def ao2(W:AW):dm Tryz.prog 63 W=some (.pointer (some ⟨W.next,0,none⟩),W.add (.cells [.string ⟨#[]⟩,.slice none 0 0,.ae 0])):=aS (by kernel_rfl) rfl
def arx(v:fo)(sv:ad)(W:AW):pP (eQ v sv) W=some (.pointer (some ⟨W.next,0,none⟩),W.add (.cells [.ae v.sh,.ae v.cT,.ae v.fm,sv])):=iB _
def Vv{W:AW}{v:fo}{sv su:ad}(h:gZ W sv v.ax)(k:gZ W su v.ax)(hl:v.ax.length<1000)(hr:∀s∈v.ax,s.rows.length<1000):ba (.func (.func 29) #[] #[]) [eQ v sv,eQ v su] W=some (.bool true,W):=by
 refine aP rfl ?_ L5;unfold Jf;obtain⟨W2,hW2⟩:∃W2,W2=(W.add (.cells [.ae v.sh,.ae v.cT,.ae v.fm,sv])).add (.cells [.ae v.sh,.ae v.cT,.ae v.fm,su]):=⟨_,rfl⟩;have aM:Le W W2:=by rw[hW2];exact((Le.refl _).add _).add _
 have g1:W2.get W.next=some (.cells [.ae v.sh,.ae v.cT,.ae v.fm,sv]):=by rw[hW2,AW.aE _ _ (by rw[AW.av];omega),AW.aI]
 have g2:W2.get (W.next+1)=some (.cells [.ae v.sh,.ae v.cT,.ae v.fm,su]):=by rw[hW2,<-AW.av W (.cells [.ae v.sh,.ae v.cT,.ae v.fm,sv]),AW.aI]
 have n2:W2.next=W.next+2:=by rw[hW2,AW.av,AW.av]
 simp only[SX,AW.av,aJ];rw[<-hW2];clear hW2;have a0:bz (.pointer (some ⟨W.next,0,none⟩)) W2=some (.ae v.sh,W2):=BJ g1 rfl;have a1:bz (.pointer (some ⟨W.next,1,none⟩)) W2=some (.ae v.cT,W2):=BJ g1 rfl;have a2:bz (.pointer (some ⟨W.next,2,none⟩)) W2=some (.ae v.fm,W2):=BJ g1 rfl;have a3:∀{V:AW},Le W2 V->bz (.pointer (some ⟨W.next,3,none⟩)) V=some (sv,V):=λ{V} hv=>BJ ((hv.get _ (by omega)).trans g1) rfl
 have b0:bz (.pointer (some ⟨W.next+1,0,none⟩)) W2=some (.ae v.sh,W2):=BJ g2 rfl;have b1:bz (.pointer (some ⟨W.next+1,1,none⟩)) W2=some (.ae v.cT,W2):=BJ g2 rfl;have b2:bz (.pointer (some ⟨W.next+1,2,none⟩)) W2=some (.ae v.fm,W2):=BJ g2 rfl;have b3:∀{V:AW},Le W2 V->bz (.pointer (some ⟨W.next+1,3,none⟩)) V=some (su,V):=λ{V} hv=>BJ ((hv.get _ (by omega)).trans g2) rfl
 have q0:decide (v.sh=v.sh)=true:=aK rfl;have q1:decide (v.cT=v.cT)=true:=aK rfl;have q2:decide (v.fm=v.fm)=true:=aK rfl;have q3:decide ((v.ax.length:Int)=(v.ax.length:Int))=true:=aK rfl;have h2:=gZ.mono h aM;have k2:=gZ.mono k aM;simp only[SX,a0,a1,a2,a3 (Le.refl _),b0,b1,b2,b3 (Le.refl _),Row.len h2 ug,Row.len k2 ug];refine bh v.ax.length (by omega) (λi R V=>Le W2 V/\R 2=.pointer (some ⟨W.next,0,none⟩)/\R 3=.pointer (some ⟨W.next+1,0,none⟩)/\R 5=.ae (i:Int)) (λr=>r.1=.exit 0/\Le W2 r.2.2) ⟨Le.refl _,rfl,rfl,rfl⟩ ?_ ?_ ?_
 ·rintro i R V hi ⟨g,r2,r3,r5⟩;unfold vJ;have t1:((i:Int)<(v.ax.length:Int)):=by omega
  have t2:=λW'=>bm W' i 1
  have e3:((i+1:Nat):Int)=(i:Int)+1:=by omega
  have hV:=gZ.mono h2 g;have kV:=gZ.mono k2 g;have hvs:=gZ.vs kV hi;obtain⟨b,o,rv,i1,i2,i3,hvr,Jj⟩:=gZ.ao7 hV hi;obtain⟨d,p,ru,j1,j2,j3,kvr,atz⟩:=gZ.ao7 kV hi;have Ga:=hr _ (cD hi);generalize v.ax[i]=s at i2 i3 j2 j3 Ga;have wM:iD (KN s ru) (KN s ru)=true:=pV (by simp[Y5,kvr,K8,NH]);have sa1:eZ 3 (.pointer (some ⟨V.next,0,none⟩)) (KN s rv) ((V.add (.cells [.string ⟨#[]⟩,.slice none 0 0,.ae 0])).add (.cells [.string ⟨#[]⟩,.slice none 0 0,.ae 0]))=some (aj,((V.add (.cells [.string ⟨#[]⟩,.slice none 0 0,.ae 0])).add (.cells [.string ⟨#[]⟩,.slice none 0 0,.ae 0])).put V.next (.cells [.string (bf s.name),rv,.ae s.q])):=
   gE (by rw[AW.aE _ _ (by rw[AW.av];omega),AW.aI]) rfl rfl (by simp[Jj,qc,cF])
  obtain⟨V1,kS⟩:∃V1,V1=((V.add (.cells [.string ⟨#[]⟩,.slice none 0 0,.ae 0])).add (.cells [.string ⟨#[]⟩,.slice none 0 0,.ae 0])).put V.next (.cells [.string (bf s.name),rv,.ae s.q]):=⟨_,rfl⟩;rw[<-kS]at sa1;have l1:Le V V1:=by rw[kS];exact(((Le.refl _).add _).add _).put (aQ _) _
  have n1:V1.next=V.next+2:=by rw[kS,AW.bG,AW.av,AW.av]
  have x1:V1.get V.next=some (.cells [.string (bf s.name),rv,.ae s.q]):=by rw[kS,AW.aW]
  have x2:V1.get (V.next+1)=some (.cells [.string ⟨#[]⟩,.slice none 0 0,.ae 0]):=by rw[kS,AW.ay _ _ (by omega),<-AW.av V (.cells [.string ⟨#[]⟩,.slice none 0 0,.ae 0]),AW.aI]
  have sa2:eZ 3 (.pointer (some ⟨V.next+1,0,none⟩)) (KN s ru) V1=some (aj,V1.put (V.next+1) (.cells [.string (bf s.name),ru,.ae s.q])):=gE x2 rfl rfl (by simp[atz,qc,cF]);obtain⟨V2,yB⟩:∃V2,V2=V1.put (V.next+1) (.cells [.string (bf s.name),ru,.ae s.q]):=⟨_,rfl⟩;rw[<-yB]at sa2;have l2:Le V V2:=by rw[yB];exact l1.put (by omega) _
  have z1:V2.get V.next=some (.cells [.string (bf s.name),rv,.ae s.q]):=by rw[yB,AW.ay _ _ (by omega)];exact x1
  have z2:V2.get (V.next+1)=some (.cells [.string (bf s.name),ru,.ae s.q]):=by rw[yB,AW.aW]
  clear kS yB;have w0:bz (.pointer (some ⟨V.next,0,none⟩)) V2=some (.string (bf s.name),V2):=BJ z1 rfl;have w1:bz (.pointer (some ⟨V.next,1,none⟩)) V2=some (rv,V2):=BJ z1 rfl;have w2:bz (.pointer (some ⟨V.next,2,none⟩)) V2=some (.ae s.q,V2):=BJ z1 rfl;have y0:bz (.pointer (some ⟨V.next+1,0,none⟩)) V2=some (.string (bf s.name),V2):=BJ z2 rfl;have y1:bz (.pointer (some ⟨V.next+1,1,none⟩)) V2=some (ru,V2):=BJ z2 rfl;have y2:bz (.pointer (some ⟨V.next+1,2,none⟩)) V2=some (.ae s.q,V2):=BJ z2 rfl;have hi2:=agy (i2.mono l2) (j2.mono l2) (by omega);rw[aK rfl]at hi2;have p0:decide (s.q=s.q)=true:=aK rfl;have av5:∀(n:ByteArray) (c d:Bool) (W:AW),bO Tryz.prog .neq 9 c d (.string n) (.string n) W=some (.bool false,W):=λn c d W=>by rw[F9,beq_self_eq_true];rfl
  simp only[SX,r2,r3,r5,aJ,a3 g,b3 g,Row.len hV ug,t1,i1,i3 _ (Le.refl _),j1,j3 _ (Le.refl _),ao2,AW.av,sa1,j3 _ l1,dd,wM,b3 (g.trans l1),hvs,mZ,sa2,w0,y0,av5,w2,y2,w1,y1,hi2,t2,ah];exact .inl ⟨ak,g.trans l2,r2,r3,by rw[e3];rfl⟩
 ·rintro R V ⟨g,r2,r3,r5⟩;unfold vJ;have t1:¬((v.ax.length:Int)<(v.ax.length:Int)):=by omega
  simp only[SX,r2,r5,aJ,a3 g,Row.len (gZ.mono h2 g) ug,t1,ah];exact⟨by simp,ak,g⟩
 ·rintro⟨q,R,V⟩ ⟨rfl,g⟩;simp only[SX,ah];exact⟨ak,aM.trans g⟩
structure KpX (x X:cI) (o:jC):Prop where
 v:X.v=x.v
 st:X.st.length=x.st.length
 qs:X.qs.length=x.qs.length
 q:(∀l∈x.qs,l.length<=64)->∀l∈X.qs,l.length<=65
 now:X.now=x.now\/X.now=o.nw
def KpX.refl(x:cI)(o:jC):KpX x x o:=⟨rfl,rfl,rfl,λh l hl=>by have:=h l hl;omega,.inl rfl⟩
def KpX.off(x y:cI)(o:jC)(i:Nat)(h1:y.v=x.v)(h2:y.st.length=x.st.length)(h3:y.qs=x.qs)(h4:y.now=x.now\/y.now=o.nw):KpX x (lG y i) o:=by obtain⟨a,b,c,d⟩:=v8 y i;refine⟨a.trans h1,c.trans h2,d.trans (by rw[h3]),λh=>?_,by rw[b];exact h4⟩;have:=WL (x:=y) (i:=i) (N:=65) (λl hl=>by rw[h3]at hl;have:=h l hl;omega);exact this
def Vj(x:cI)(o:jC)(s:Nat)(y:fx)(e:Int):KpX x (Nu x s y e) o:=by
 unfold Nu;split
 ·exact⟨rfl,by simp,rfl,λh l hl=>by have:=h l hl;omega,.inl rfl⟩
 ·exact .refl _ _
def Uq(x:cI)(o:jC)(s:Nat)(y:fx)(e:Int):KpX x (S1 x s y e) o:=by
 unfold S1;split
 ·exact .off _ _ _ _ rfl (by simp) rfl (.inl rfl)
 ·exact .refl _ _
def Mu{qs:List (List Int)}{k:Nat}{l:List Int}(h:∀l∈qs,l.length<=64)(hl:l.length<=65):∀a∈qs.set k l,a.length<=65:=λa ha=>by
 rcases List.mem_or_eq_of_mem_set ha with h1|rfl
 ·have:=h a h1;omega
 ·exact hl
def Wu{x:cI}{k:Nat}(h:∀l∈x.qs,l.length<=64):(gJ x k).length<=64:=by
 unfold gJ;by_cases hk:k<x.qs.length
 ·simp only[List.getD,bN hk,pk];exact h _ (cD hk)
 ·simp[List.getD,kF (by omega:x.qs.length<=k)]
def ahX(x:cI)(o:jC):KpX x (bX x o).1 o:=by
 have e:=bX.eq_1 x o;by_cases k1:o.k=1
 ·rw[an k1]at e;rw[e];exact .refl _ _
 rw[ap k1]at e;by_cases k2:o.k=2
 ·rw[an k2]at e;rw[e];exact Vj _ _ _ _ _
 rw[ap k2]at e;by_cases k3:o.k=3
 ·rw[an k3]at e;rw[e];show KpX x (oC x _ _ _) o;unfold oC;split
  ·obtain⟨a,b,c,d⟩:=As o.ow (dY x.now x.v.cT) (nu x (py o).toNat o.n).1.toNat x (List.range o.n.toNat);exact⟨a,c,gO List.length d,λh l hl=>by have Cw:l∈((List.range o.n.toNat).foldl (qS o.ow (dY x.now x.v.cT) (nu x (py o).toNat o.n).1.toNat) x).qs:=hl;rw[d]at Cw;have:=h l Cw;omega,.inl b⟩
  ·exact .refl _ _
 rw[ap k3]at e;by_cases k4:o.k=4
 ·rw[an k4]at e;rw[e];exact Uq _ _ _ _ _
 rw[ap k4]at e;by_cases k5:o.k=5
 ·rw[an k5]at e;rw[e];exact Vj _ _ _ _ _
 rw[ap k5]at e;by_cases k6:o.k=6
 ·rw[an k6]at e;rw[e];exact Vj _ _ _ _ _
 rw[ap k6]at e;by_cases k7:o.k=7
 ·rw[an k7]at e;rw[e];exact Uq _ _ _ _ _
 rw[ap k7]at e;by_cases k8:o.k=8
 ·rw[an k8]at e;rw[e];exact Uq _ _ _ _ _
 rw[ap k8]at e;by_cases k9:o.k=9
 ·rw[an k9]at e;rw[e];exact .refl _ _
 rw[ap k9]at e;by_cases k10:o.k=10
 ·rw[an k10]at e;rw[e];show KpX x (yb x _ _) o;unfold yb;split
  ·exact⟨rfl,rfl,by simp,λh=>Mu h (by have:=Wu (k:=(py o).toNat) h;rw[cx,Eu];omega),.inl rfl⟩
  ·exact .refl _ _
 rw[ap k10]at e;by_cases k11:o.k=11
 ·rw[an k11]at e;rw[e];show KpX x (tD x _ _) o;unfold tD;split
  ·exact .refl _ _
  ·exact⟨rfl,rfl,by simp,λh=>Mu h (by have:=Wu (k:=(py o).toNat) h;unfold XC;rw[cx,cX,px];omega),.inl rfl⟩
 rw[ap k11]at e;by_cases kp:o.nw<x.now
 ·rw[an kp]at e;rw[e];exact .refl _ _
 ·rw[ap kp]at e;rw[e];obtain⟨a,b,c,d⟩:=MS x o.nw (KA x o.nw);exact⟨a,c,d,λh=>OF o.nw (KA x o.nw) {x with now:=o.nw} (λl hl=>by have:=h l hl;omega),.inr b⟩
def Bnd.do{x:cI}(h:Bnd x)(o:jC)(ES:o.nw<9223372036854775808):Bnd (rZ x o).1/\(rZ x o).1.v=x.v:=by
 unfold rZ;by_cases c:PK x=0;case neg=>rw[ap c];exact⟨h,rfl⟩
 rw[an c];have hg:=abt c;have hl:∀l∈x.qs,l.length<=64:=λl hl=>by obtain⟨k,hk,rfl⟩:=Bk hl;have:=(hg.q k hk).1;simpa[gJ,List.getD,bN hk]using this
 have hk:=ahX x o;have hn:=h.now;have:Bnd (bX x o).1/\(bX x o).1.v=x.v:=⟨⟨by rw[hk.v];exact h.v,by rw[hk.st];exact h.st,by rw[hk.qs];exact h.qs,λl CK=>by have:=hk.q hl l CK;omega,by rcases hk.now with e|e<;>omega⟩,hk.v⟩;unfold yw;split
 ·split
  ·split
   ·exact this
   ·exact⟨h,rfl⟩
  ·exact⟨h,rfl⟩
 ·exact⟨h,rfl⟩
def g87:Tryz.prog.eqGuardType Tryz.prog.depth 87=false:=by kernel_rfl
def q87(x y:fx):NC Tryz.prog 8 87 (iZ x) (iZ y)=yl [(x.st,y.st),(x.ow,y.ow),(x.dl,y.dl),(x.se,y.se),(x.ep,y.ep)]:=by kernel_rfl
def UM(x:fx)(c d:Bool)(W:AW):bO Tryz.prog .neq 87 c d (iZ x) (iZ x) W=some (.bool false,W):=by refine sA g87 (r:=true) ((q87 ..).trans ?_);simp only[tS,dC,xy,beq_self_eq_true,mZ]
def adv{W:AW}{a b:ad}{x:cI}(ha:aka W a x)(hb:aka W b x)(hv:x.v.ax.length<1000)(hr:∀s∈x.v.ax,s.rows.length<1000)(hn:x.st.length<=10000)(hq:x.qs.length<=10000)(hl:∀l∈x.qs,l.length<=10000):
 ba (.func (.func 10) #[] #[]) [a,b] W=some (.bool true,W):=by
 obtain⟨sv,sq,qq,rfl,hs,nh,hqs⟩:=ha;obtain⟨tv,tq,pq,rfl,ht,hte,hqt⟩:=hb;refine aP rfl ?_ Lx;unfold KR;obtain⟨V,hV⟩:∃V,V=(W.add (.cells (eT x sv sq qq))).add (.cells (eT x tv tq pq)):=⟨_,rfl⟩;have aM:Le W V:=by rw[hV];exact((Le.refl W).add _).add _
 have g0:V.get W.next=some (.cells (eT x sv sq qq)):=by rw[hV];exact(AW.aE _ _ (by rw[AW.av];omega)).trans (AW.aI _ _)
 have g1:V.get (W.next+1)=some (.cells (eT x tv tq pq)):=by rw[hV,<-AW.av W (.cells (eT x sv sq qq))];exact AW.aI _ _
 simp only[SX,AW.av];rw[<-hV];clear hV;have l0:∀{i:Nat} {u:ad},(eT x sv sq qq)[i]? =some u->bz (.pointer (some ⟨W.next,i,none⟩)) V=some (u,V):=λhi=>aO (ao g0) hi
 have l1:∀{i:Nat} {u:ad},(eT x tv tq pq)[i]? =some u->bz (.pointer (some ⟨W.next+1,i,none⟩)) V=some (u,V):=λhi=>aO (ao g1) hi
 have a0:dJ 4 (aZ W.next) V=some (eQ x.v sv,V):=bB (ao g0) rfl;have b0:dJ 4 (aZ (W.next+1)) V=some (eQ x.v tv,V):=bB (ao g1) rfl;have a4:=l0 (i:=4) rfl;have a5:=l0 (i:=5) rfl;have a6:=l0 (i:=6) rfl;have b4:=l1 (i:=4) rfl;have b5:=l1 (i:=5) rfl;have b6:=l1 (i:=6) rfl;have amC:=nh.keep aM;have auJ:=hte.keep aM;have auX:=hqs.mono aM;have au4:=hqt.mono aM;have d0:decide (x.now=x.now)=true:=aK rfl;have d1:decide ((x.st.length:Int)=(x.st.length:Int))=true:=aK rfl;have d2:decide ((x.qs.length:Int)=(x.qs.length:Int))=true:=aK rfl;have alD:=λU=>jk nh uS U 3 #[false]
 have atn:=λU=>jk hte uS U 3 #[false]
 have lqA:=λU=>Row.len hqs zg U 3 #[false]
 have lqB:=λU=>Row.len hqt zg U 3 #[false]
 simp only[SX,aJ,a0,b0,Vv (gZ.mono hs.1 aM) (gZ.mono ht.1 aM) hv hr,a4,b4,a5,b5,alD,atn,a6,b6,lqA,lqB];refine bh x.st.length (by omega) (λk R U=>U=V/\R 2=aZ W.next/\R 3=aZ (W.next+1)/\R 5=.ae (k:Int)) (λr=>r.1=.exit 0/\r.2.2=V/\r.2.1 2=aZ W.next/\r.2.1 3=aZ (W.next+1)) ⟨rfl,rfl,rfl,rfl⟩ ?_ ?_ ?_
 ·rintro k R _ hk ⟨rfl,r2,r3,r5⟩;unfold vt;have t1:decide ((k:Int)<(x.st.length:Int))=true:=cK;have t2:=λW'=>bm W' k 1
  have e3:((k+1:Nat):Int)=(k:Int)+1:=by omega
  obtain⟨p,o,c1,c2,c3⟩:=PL.get amC hk;obtain⟨q,m,c4,c5,c6⟩:=PL.get auJ hk;simp only[SX,r2,r3,r5,aJ,a5,b5,alD,t1,c1,c3 _ rfl,c4,c6 _ rfl,UM,t2,ah];exact .inl ⟨ak,ak,r2,r3,by rw[e3];rfl⟩
 ·rintro R _ ⟨rfl,r2,r3,r5⟩;unfold vt;have t1:decide ((x.st.length:Int)<(x.st.length:Int))=false:=cg;simp only[SX,r2,r5,aJ,a5,alD,t1,ah];exact⟨by simp,ak,ak,r2,r3⟩
 rintro⟨e,R,U⟩ ⟨rfl,hU,r2,r3⟩;have hU:V=U:=Eq.symm hU;subst hU;simp only[SX];refine bh x.qs.length (by omega) (λk R U=>U=V/\R 2=aZ W.next/\R 3=aZ (W.next+1)/\R 6=.ae (k:Int)) (λr=>r.1=.exit 2/\r.2.2=V) ⟨rfl,r2,r3,rfl⟩ ?_ ?_ ?_
 ·rintro k R U hk ⟨hU,r2,r3,r6⟩;have hU:V=U:=Eq.symm hU;subst hU;unfold vf;have t1:decide ((k:Int)<(x.qs.length:Int))=true:=cK;have t2:=λW'=>bm W' k 1
  have e3:((k+1:Nat):Int)=(k:Int)+1:=by omega
  obtain⟨p,o,u,c1,c2,c3,c4⟩:=PF.get auX hk;obtain⟨q,m,w,c5,c6,c7,c8⟩:=PF.get au4 hk;have hlk:=hl _ (cD hk);have d3:decide ((x.qs[k].length:Int)=(x.qs[k].length:Int))=true:=aK rfl;have luA:=λU=>jk c3 ph U 3 #[false]
  have luB:=λU=>jk c7 ph U 3 #[false]
  simp only[SX,r2,r3,r6,aJ,a6,b6,lqA,t1,c1,c4 _ rfl,luA,c5,c8 _ rfl,luB];refine bh x.qs[k].length (by omega) (λj R U=>U=V/\R 2=aZ W.next/\R 3=aZ (W.next+1)/\R 6=.ae (k:Int)/\R 7=.ae (j:Int)) (λr=>r.1=.exit 4/\r.2.2=V/\r.2.1 2=aZ W.next/\r.2.1 3=aZ (W.next+1)/\r.2.1 6=.ae (k:Int)) ⟨rfl,r2,r3,r6,rfl⟩ ?_ ?_ ?_
  ·rintro j R _ hj ⟨rfl,r2,r3,r6,r7⟩;unfold qe;have t1:decide ((j:Int)<(x.qs[k].length:Int))=true:=cK;have t2:=λW'=>bm W' j 1
   have e3:((j+1:Nat):Int)=(j:Int)+1:=by omega
   obtain⟨s,i,y1,y2,y3⟩:=PH.get c3 hj;obtain⟨s',i',z1,z2,z3⟩:=PH.get c7 hj;have d4:decide ((x.qs[k])[j]=(x.qs[k])[j])=true:=aK rfl;simp only[SX,r2,r3,r6,r7,aJ,a6,b6,c1,c4 _ rfl,luA,t1,c5,c8 _ rfl,y1,y3 _ rfl,z1,z3 _ rfl,t2,ah];exact .inl ⟨ak,ak,r2,r3,r6,by rw[e3];rfl⟩
  ·rintro R _ ⟨rfl,r2,r3,r6,r7⟩;unfold qe;have t1:decide ((x.qs[k].length:Int)<(x.qs[k].length:Int))=false:=cg;simp only[SX,r2,r6,r7,aJ,a6,c1,c4 _ rfl,luA,t1,ah];exact⟨by simp,ak,ak,r2,r3,r6⟩
  ·rintro⟨e,R,_⟩ ⟨rfl,rfl,r2,r3,r6⟩;have r6':R 6=.ae (k:Int):=r6;simp only[SX,r6',t2,ah];exact .inl ⟨ak,ak,r2,r3,by rw[e3];rfl⟩
 ·rintro R _ ⟨rfl,r2,r3,r6⟩;unfold vf;have t1:decide ((x.qs.length:Int)<(x.qs.length:Int))=false:=cg;simp only[SX,r2,r6,aJ,a6,lqA,t1,ah];exact⟨by simp,ak,ak⟩
 ·rintro⟨e,R,_⟩ ⟨rfl,rfl⟩;simp only[SX,ah];exact⟨ak,aM⟩
def pL(v:fo):cI:=⟨v,0,List.replicate (bE v.ax).toNat CO,List.replicate v.ax.length []⟩
abbrev dq:ad:=.slice none 0 0
def b87:(Tryz.prog.info? 87).map (·.bytes)=some 40:=by kernel_rfl
def t87:oD Tryz.prog 87=some 5:=by kernel_rfl
def z87:kN Tryz.prog 87=some (iZ CO):=by kernel_rfl
def b88:(Tryz.prog.info? 88).map (·.bytes)=some 24:=by kernel_rfl
def t88:oD Tryz.prog 88=some 1:=by kernel_rfl
def z88:kN Tryz.prog 88=some dq:=by kernel_rfl
def u31:Tryz.prog.underlying 31=some (.slice 87):=by kernel_rfl
def ath:Tryz.prog.underlying 32=some (.slice 88):=by kernel_rfl
def VU(n:Nat):yP (dK CO) n=(List.replicate n CO).flatMap dK:=by
 induction n with
 |zero=>rfl
 |succ n ih=>show dK CO++yP (dK CO) n=_;rw[ih,uv,fy]
def No(n:Nat):yP [dq] n=List.replicate n dq:=by
 induction n with
 |zero=>rfl
 |succ n ih=>show [dq]++yP [dq] n=_;rw[ih,uv];rfl
def ap0{n:Nat}(h:n<=10000)(W:AW):gh Tryz.prog 31 (.ae (n:Int)) (.ae (n:Int)) W=some (oh W.next n,W.add (.cells ((List.replicate n CO).flatMap dK))):=by
 show gh Tryz.prog 31 (.ae (Int.ofNat n)) (.ae (Int.ofNat n)) W=_;unfold gh;have e:=yU (z:=iZ CO) (len:=n) (n:=5) rfl;have e2:(kI (iZ CO) (n*5)).toList=(List.replicate n CO).flatMap dK:=by rw[e];exact VU n
 have e3:((List.replicate n CO).flatMap dK).all cC=true:=by rw[<-VU];exact wq _ _ rfl n
 simp only[u31,t87,z87,b87];rw[e2,an ⟨aQ _,by omega,by omega,e3⟩]
def at3{n:Nat}(h:n<=10000)(W:AW):gh Tryz.prog 32 (.ae (n:Int)) (.ae (n:Int)) W=some (oh W.next n,W.add (.cells (List.replicate n dq))):=by
 show gh Tryz.prog 32 (.ae (Int.ofNat n)) (.ae (Int.ofNat n)) W=_;unfold gh;have e:=yU (z:=dq) (len:=n) (n:=1) rfl;have e2:(kI dq (n*1)).toList=List.replicate n dq:=by rw[e];exact No n
 have e3:(List.replicate n dq).all cC=true:=by rw[<-No];exact wq _ _ rfl n
 simp only[ath,t88,z88,b88];rw[e2,an ⟨aQ _,by omega,by omega,e3⟩]
def amG(v:fo)(sv:ad)(hs:Eng.one sv=true)(a n b k:Nat)(W:AW):dU Tryz.prog 34 [(0,eQ v sv),(2,oh a n),(3,oh b k)] W=some (ka (pL v) sv (oh a n) (oh b k),W):=aS (by kernel_rfl) rfl
def ajg(v:fo)(sv:ad)(hs:Eng.one sv=true)(a n:Nat)(W:AW):dU Tryz.prog 34 [(0,eQ v sv),(2,oh a n)] W=some (ka (pL v) sv (oh a n) dq,W):=aS (by kernel_rfl) rfl
def aa7{W:AW}{b n:Nat}(hb:b<W.next)(h:W.get b=some (.cells ((List.replicate n CO).flatMap dK))):PL W (oh b n) (List.replicate n CO):=by refine⟨_,_,by rw[mq],.inr ⟨b,0,_,rfl,hb,ao h,?_⟩⟩;rw[jj,<-bZ ni,cM]
def abP{W:AW}{b n:Nat}{c:Nat}(hb:b<W.next)(h:W.get b=some (.cells (List.replicate n dq))):PF W (.slice (some ⟨b,0,none⟩) n c) (List.replicate n []):=by refine⟨_,_,by rw[mq],.inr ⟨b,0,_,rfl,hb,ao h,λi hi=>?_⟩⟩;rw[mq]at hi;rw[List.getElem_replicate];exact⟨dq,by simp[hi],_,_,rfl,.inl rfl⟩
abbrev iV:List ad:=[.ae 0,.ae 0,.ae 0,.slice none 0 0,.ae 0,.slice none 0 0,.slice none 0 0]
def Tv{W:AW}{b:Nat}{x:cI}{sv sq qq e:ad}(h1:Eng.one sv=true)(h2:Eng.one sq=true)(h3:Eng.one qq=true)(g:W.get b=some (.cells iV)):∃V,eZ 7 (aZ b) (ka x sv sq qq) W=some (aj,V)/\iX Tryz.prog [(aZ b,some 34),(e,none)] V=some (.tuple #[ka x sv sq qq,e],V)/\V.next=W.next/\∀d,d≠b->V.get d=W.get d:=by have s7:=gE (W:=W) (b:=b) (n:=7) (vs:=(eT x sv sq qq).toArray) g rfl rfl (by simp[dC,h1,h2,h3,cF]);refine⟨W.put b (.cells (eT x sv sq qq)),s7,?_,AW.bG _ _ _,λd hd=>AW.ay _ _ (bc hd)⟩;rw[bC,EF,bB (n:=7) (o:=0) (ao (AW.aW _ _ _)) rfl];rfl
def agT{Z W:AW}{v:fo}{sv:ad}(Hd:eW Z sv v.ax)(hz:Le Z W)(he:(du v).2=0)(hv:v.ax.length<1000):
 ∃u W',ba (.func (.func 24) #[] #[]) [eQ v sv] W=some (.tuple #[u,.ae 0],W')/\Le W W'/\MdK Z W W' u (pL v):=by
 have hs:=Hd.mono hz;have h1:=row_one hs.1;obtain⟨GM,-,-,-,ht,-⟩:=cE he;have ht0:=At GM;have pu:Ok (Gq ba (eQ v sv) W) λr=>∃u,r.1=.tuple #[u,.ae 0]/\Le W r.2/\MdK Z W r.2 u (pL v):=by
  unfold Gq;have nh:=JS (W:=(W.add (.cells [.ae v.sh,.ae v.cT,.ae v.fm,sv])).add (.cells iV)) (hs.mono (((Le.refl W).add _).add _)) hv;have e2:(b9 v).2=0:=by unfold b9;rw[an he]
  have e1:(b9 v).1=(((bE v.ax).toNat:Nat):Int):=by unfold b9;rw[an he];show bE v.ax=_;omega
  rw[e1,e2]at nh;obtain⟨V,hV⟩:∃V,V=(W.add (.cells [.ae v.sh,.ae v.cT,.ae v.fm,sv])).add (.cells iV):=⟨_,rfl⟩;have n1:V.next=W.next+2:=by rw[hV];rfl
  have aM:Le W V:=by rw[hV];exact((Le.refl W).add _).add _
  have g0:V.get W.next=some (.cells [.ae v.sh,.ae v.cT,.ae v.fm,sv]):=by rw[hV];exact(AW.aE _ _ (by rw[AW.av];omega)).trans (AW.aI _ _)
  have g1:V.get (W.next+1)=some (.cells iV):=by rw[hV,<-AW.av W (.cells [.ae v.sh,.ae v.cT,.ae v.fm,sv])];exact AW.aI _ _
  have l4:∀U,U.get W.next=V.get W.next->dJ 4 (aZ W.next) U=some (eQ v sv,U):=λU hU=>bB (ao (hU.trans g0)) rfl
  have l3:∀U,U.get W.next=V.get W.next->bz (.pointer (some ⟨W.next,3,none⟩)) U=some (sv,U):=λU hU=>aO (ao (hU.trans g0)) rfl
  have d0:decide ((0:Int)=0)=true:=rfl;have bx:pP (eQ v sv) W=some (aZ W.next,W.add (.cells [.ae v.sh,.ae v.cT,.ae v.fm,sv])):=iB _;rw[<-hV]at nh;simp only[SX,bx,oE,AW.av];rw[<-hV];clear hV;obtain⟨V1,kS⟩:∃V1,V1=V.add (.cells ((List.replicate (bE v.ax).toNat CO).flatMap dK)):=⟨_,rfl⟩;have q1:∀d,d<V.next->V1.get d=V.get d:=λd hd=>by rw[kS];exact AW.aE _ _ (by omega)
  have nV1:V1.next=V.next+1:=by rw[kS];rfl
  have gs:V1.get V.next=some (.cells ((List.replicate (bE v.ax).toNat CO).flatMap dK)):=by rw[kS];exact AW.aI _ _
  obtain⟨V2,yB⟩:∃V2,V2=V1.add (.cells (List.replicate v.ax.length dq)):=⟨_,rfl⟩;have q2:∀d,d<V1.next->V2.get d=V1.get d:=λd hd=>by rw[yB];exact AW.aE _ _ (by omega)
  have nV2:V2.next=V1.next+1:=by rw[yB];rfl
  have gq:V2.get V1.next=some (.cells (List.replicate v.ax.length dq)):=by rw[yB];exact AW.aI _ _
  obtain⟨V3,p1,p2,p3,p4⟩:=Tv (W:=V2) (b:=W.next+1) (x:=pL v) (sv:=sv) (sq:=oh V.next (bE v.ax).toNat) (qq:=oh V1.next v.ax.length) (e:=.ae 0) h1 rfl rfl (((q2 _ (by omega)).trans (q1 _ (by omega))).trans g1);have m1:=ap0 (n:=(bE v.ax).toNat) (by omega) V;rw[<-kS]at m1;have m2:=at3 (n:=v.ax.length) (by omega) V1;rw[<-yB]at m2;simp only[SX,l4 V rfl,nh,m1,aJ,l3 V1 (q1 _ (by omega)),Row.len hs.1 zq,m2,amG v sv h1,p1,p2,ah];have BB:Le W V3:=⟨by omega,λd hd=>(p4 d (by omega)).trans ((q2 d (by omega)).trans ((q1 d (by omega)).trans (aM.get d hd)))⟩;exact⟨_,rfl,BB,λU hn hu=>⟨sv,_,_,rfl,Hd,aa7 (by omega) ((hu _ (.inr (by omega)) (by omega)).trans ((p4 _ (by omega)).trans ((q2 _ (by omega)).trans gs))),abP (by omega) ((hu _ (.inr (by omega)) (by omega)).trans ((p4 _ (by omega)).trans gq))⟩⟩
 obtain⟨⟨u,V⟩,k1,w,rfl,k2,k3⟩:=pu;have rX:=OY k1;unfold OG at rX;unfold gc at rX;by_cases hp:(bL (.tuple #[w,.ae 0])&& !Za (.tuple #[w,.ae 0]))=true/\Le W V
 ·exfalso;obtain⟨Zx,sq',qq',rfl,m1,m2,m3⟩:=k3.at;obtain⟨-,a,c,rfl,-,h4⟩:=m1;obtain⟨b,o,rfl⟩:=h4 (λe=>by have:=(cE he).2.2.1;rw[show(pL v).v.ax=v.ax from rfl]at e;rw[e]at this;exact absurd this (by simp));simp[bL,eH,cC]at hp
 ·rw[ap hp]at rX;exact⟨_,V,rX,k2,k3⟩
def n1V:UN:=⟨dq,rfl⟩
def ace:Eng.Mb dq:=.inr ⟨_,_,rfl⟩
def CY:cI:=⟨⟨0,0,0,[]⟩,0,[],[]⟩
def alU(W:AW):dU Tryz.prog 34 [] W=some (ka CY dq dq dq,W):=aS (by kernel_rfl) rfl
def akF{W:AW}{u:ad}{n:Nat}{bo:Option Nat}(h:fE W 1 Cu u (List.replicate n n1V) bo):PF W u (List.replicate n []):=by
 rcases h with⟨e,rfl,-⟩|⟨h0,B,-,h2,rfl,h4⟩
 ·have:n=0:=by have:=gO List.length e;simpa using this
  subst this;exact⟨none,0,rfl,.inl rfl⟩
 ·rw[mq];refine abP h2 (h4.trans ?_);congr 2;clear h0 h4;induction n with
  |zero=>rfl
  |succ n ih=>rw[uv,fy,ih,uv];rfl
def ahe{W:AW}{u:ad}{l:List UN}{bo:Option Nat}(h:fE W 1 Cu u l bo):Eng.one u=true:=by rcases h with⟨-,rfl,-⟩|⟨-,B,-,-,rfl,-⟩<;>rfl
def agl{Z W:AW}{v:fo}{sv:ad}(Hd:eW Z sv v.ax)(hz:Le Z W)(he:(du v).2=0)(hv:v.ax.length<1000):
 ∃u W',ba (.func (.func 12) #[] #[]) [eQ v sv] W=some (.tuple #[u,.ae 0],W')/\Le W W'/\MdK Z W W' u (pL v):=by
 have hs:=Hd.mono hz;have h1:=row_one hs.1;obtain⟨GM,-,-,-,ht,-⟩:=cE he;have ht0:=At GM;have pu:Ok (Az ba (eQ v sv) W) λr=>∃u,r.1=.tuple #[u,.ae 0]/\Le W r.2/\MdK Z W r.2 u (pL v):=by
  unfold Az;have nh:=qT (W:=(W.add (.cells [.ae v.sh,.ae v.cT,.ae v.fm,sv])).add (.cells iV)) (gZ.mono hs.1 (((Le.refl W).add _).add _)) hv (Iy he);have e2:(b9 v).2=0:=by unfold b9;rw[an he]
  have e1:(b9 v).1=(((bE v.ax).toNat:Nat):Int):=by unfold b9;rw[an he];show bE v.ax=_;omega
  rw[e1,e2]at nh;obtain⟨V,hV⟩:∃V,V=(W.add (.cells [.ae v.sh,.ae v.cT,.ae v.fm,sv])).add (.cells iV):=⟨_,rfl⟩;have n1:V.next=W.next+2:=by rw[hV];rfl
  have aM:Le W V:=by rw[hV];exact((Le.refl W).add _).add _
  have g0:V.get W.next=some (.cells [.ae v.sh,.ae v.cT,.ae v.fm,sv]):=by rw[hV];exact(AW.aE _ _ (by rw[AW.av];omega)).trans (AW.aI _ _)
  have g1:V.get (W.next+1)=some (.cells iV):=by rw[hV,<-AW.av W (.cells [.ae v.sh,.ae v.cT,.ae v.fm,sv])];exact AW.aI _ _
  have l4:∀U,U.get W.next=V.get W.next->dJ 4 (aZ W.next) U=some (eQ v sv,U):=λU hU=>bB (ao (hU.trans g0)) rfl
  have l3:∀U,U.get W.next=V.get W.next->bz (.pointer (some ⟨W.next,3,none⟩)) U=some (sv,U):=λU hU=>aO (ao (hU.trans g0)) rfl
  have d0:decide ((0:Int)=0)=true:=rfl;have bx:pP (eQ v sv) W=some (aZ W.next,W.add (.cells [.ae v.sh,.ae v.cT,.ae v.fm,sv])):=iB _;rw[<-hV]at nh;simp only[SX,bx,oE,AW.av];rw[<-hV];clear hV;obtain⟨V1,kS⟩:∃V1,V1=V.add (.cells ((List.replicate (bE v.ax).toNat CO).flatMap dK)):=⟨_,rfl⟩;have q1:∀d,d<V.next->V1.get d=V.get d:=λd hd=>by rw[kS];exact AW.aE _ _ (by omega)
  have nV1:V1.next=V.next+1:=by rw[kS];rfl
  have gs:V1.get V.next=some (.cells ((List.replicate (bE v.ax).toNat CO).flatMap dK)):=by rw[kS];exact AW.aI _ _
  have m1:=ap0 (n:=(bE v.ax).toNat) (by omega) V;rw[<-kS]at m1;have s7:=gE (W:=V1.add (.cells iV)) (b:=V1.next) (n:=7) (vs:=(eT (pL v) sv (oh V.next (bE v.ax).toNat) dq).toArray) (AW.aI _ _) rfl rfl (by simp[dC,h1,cF];exact⟨rfl,rfl⟩);rw[i8]at s7;have PS:eZ 7 (aZ V1.next) (ka (pL v) sv (oh V.next (bE v.ax).toNat) dq) (V1.add (.cells iV))=some (aj,V1.add (.cells (eT (pL v) sv (oh V.next (bE v.ax).toNat) dq))):=s7;simp only[SX,l4 V rfl,nh,m1,ajg v sv h1,PS]
  refine bh v.ax.length (by omega) (λk R U=>R 1=aZ W.next/\R 2=aZ (W.next+1)/\R 6=aZ V1.next/\R 7=.ae (k:Int)/\V1.next<U.next/\(∀d,d<V1.next->U.get d=V1.get d)/\
   ∃u bo,U.get V1.next=some (.cells (eT (pL v) sv (oh V.next (bE v.ax).toNat) u))/\fE U 1 Cu u (List.replicate k n1V) bo/\∀B,bo=some B->V1.next<B)
   (λr=>r.1=.exit 0/\r.2.1 2=aZ (W.next+1)/\r.2.1 6=aZ V1.next/\V1.next<r.2.2.next/\(∀d,d<V1.next->r.2.2.get d=V1.get d)/\
     ∃u bo,r.2.2.get V1.next=some (.cells (eT (pL v) sv (oh V.next (bE v.ax).toNat) u))/\fE r.2.2 1 Cu u (List.replicate v.ax.length n1V) bo/\∀B,bo=some B->V1.next<B)
   ⟨rfl,rfl,rfl,rfl,by rw[AW.av];omega,λd hd=>AW.aE _ _ (by omega),dq,none,AW.aI _ _,.inl ⟨rfl,rfl,rfl⟩,λB hB=>by cases hB⟩ ?_ ?_ ?_
  ·rintro k R U hk ⟨r1,r2,r6,r7,hn,hg,u,bo,gb,hL,hB⟩;unfold xC;have t1:decide ((k:Int)<(v.ax.length:Int))=true:=cK;have t2:=λW'=>bm W' k 1
   have e3:((k+1:Nat):Int)=(k:Int)+1:=by omega
   have l6:bz (.pointer (some ⟨V1.next,6,none⟩)) U=some (u,U):=aO (ao gb) rfl;have hL':fE (U.add (.cells (Cu n1V))) 1 Cu u (List.replicate k n1V) bo:=hL.keep (by rw[AW.av];omega) λB hB=>AW.aE _ _ (by have:=hL.lt hB;omega)
   obtain⟨u',U2,k1,k2,k3,k4⟩:=hL'.push aih Kh QN (a:=n1V) (b:=U.next) (c:=1) bF (by rw[mq];omega) (by rw[mq];omega);have k1':dn Tryz.prog (U.add (.cells [dq])) #[32,32] u (.slice (some ⟨U.next,0,none⟩) 1 1)=some (u',U2):=k1;rw[AW.av]at k2 k3 k4;have keep:∀d,d<=V1.next->U2.get d=U.get d:=λd hd=>(k4 d (by omega) (λe=>by have:=hB d e;omega)).trans (AW.aE _ _ (by omega))
   have gb2:U2.get V1.next=some (.cells (eT (pL v) sv (oh V.next (bE v.ax).toNat) u)):=(keep _ (aQ _)).trans gb;have su:Mb u':=by
    rcases k2 with⟨-,rfl,-⟩|⟨-,B,-,-,rfl,-⟩
    ·exact ace
    ·exact .inl ⟨_,_,_,rfl⟩
   have s6:eZ 1 (.pointer (some ⟨V1.next,6,none⟩)) u' U2=some (aj,U2.put V1.next (.cells (eT (pL v) sv (oh V.next (bE v.ax).toNat) u'))):=by rcases su with⟨b,l,c,rfl⟩|⟨l,c,rfl⟩<;>(rw[js,cR gb2];rfl)
   simp only[SX,r1,r6,r7,aJ,l3 U ((hg _ (by omega)).trans (q1 _ (by omega))),Row.len hs.1 zq,t1,l6,aiG ace,k1',s6,t2,ah];refine .inl ⟨ak,r1,r2,r6,by rw[e3];rfl,by rw[AW.bG];omega,λd hd=>(AW.ay _ _ (by omega)).trans ((keep d (by omega)).trans (hg d hd)),u',some (U.next+1),AW.aW _ _ _,?_,λB hB=>by injection hB with hB;omega⟩;rw[List.replicate_succ'];exact k2.keep (by rw[AW.bG];omega) λB hB=>by injection hB with hB;exact AW.ay _ _ (by omega)
  ·rintro R U ⟨r1,r2,r6,r7,hn,hg,u,bo,gb,hL,hB⟩;unfold xC;have t1:decide ((v.ax.length:Int)<(v.ax.length:Int))=false:=cg;simp only[SX,r1,r7,aJ,l3 U ((hg _ (by omega)).trans (q1 _ (by omega))),Row.len hs.1 zq,t1,ah];exact⟨by simp,ak,r2,r6,hn,hg,u,bo,gb,hL,hB⟩
  ·rintro⟨e,R,U⟩ ⟨rfl,r2,r6,hn,hg,u,bo,gb,hL,hB⟩;have r2':R 2=aZ (W.next+1):=r2;have r6':R 6=aZ V1.next:=r6;simp only at hn hg gb hL;have l7:dJ 7 (aZ V1.next) U=some (ka (pL v) sv (oh V.next (bE v.ax).toNat) u,U):=bB (ao gb) rfl;obtain⟨V3,p1,p2,p3,p4⟩:=Tv (W:=U) (b:=W.next+1) (x:=pL v) (sv:=sv) (sq:=oh V.next (bE v.ax).toNat) (qq:=u) (e:=.ae 0) h1 rfl (ahe hL) (((hg _ (by omega)).trans (q1 _ (by omega))).trans g1);simp only[SX,r2',r6',l7,p1,p2,ah];have BB:Le W V3:=⟨by omega,λd hd=>(p4 d (by omega)).trans ((hg d (by omega)).trans ((q1 d (by omega)).trans (aM.get d hd)))⟩;refine⟨_,rfl,BB,λX hn2 hu=>?_⟩;have hL3:fE X 1 Cu u (List.replicate v.ax.length n1V) bo:=hL.keep (by omega) λB SZ=>(hu B (.inr (by have:=hB B SZ;omega)) (by have:=hL.lt SZ;omega)).trans (p4 B (by have:=hB B SZ;omega))
   exact⟨sv,_,_,rfl,Hd,aa7 (by omega) ((hu _ (.inr (by omega)) (by omega)).trans ((p4 _ (by omega)).trans ((hg _ (by omega)).trans gs))),akF hL3⟩
 obtain⟨⟨u,V⟩,k1,w,rfl,k2,k3⟩:=pu;have rX:=DU k1;unfold OG at rX;unfold gc at rX;by_cases hp:(bL (.tuple #[w,.ae 0])&& !Za (.tuple #[w,.ae 0]))=true/\Le W V
 ·exfalso;obtain⟨Zx,sq',qq',rfl,m1,m2,m3⟩:=k3.at;obtain⟨-,a,c,rfl,-,h4⟩:=m1;obtain⟨b,o,rfl⟩:=h4 (λe=>by have:=(cE he).2.2.1;rw[show(pL v).v.ax=v.ax from rfl]at e;rw[e]at this;exact absurd this (by simp));simp[bL,eH,cC]at hp
 ·rw[ap hp]at rX;exact⟨_,V,rX,k2,k3⟩
def iv(l:List iw)(y:Int):iw:=l.getD (y-1).toNat ho0
def EV(l:List iw)(os:List Int)(i:Nat):Int:=if os.getD i 0<1\/(l.length:Int)<os.getD i 0 then 4 else if os.getD i 0∈os.take i then 8 else 0
def Pk2(l:List iw)(os:List Int):Prop:=∃j,j<l.length/\0<=(l.getD j ho0).to/\¬((j:Int)+1)∈os
def ZS(l:List iw)(os:List Int)(i:Nat):Prop:=∃k,i<k/\k<os.length/\OB (iv l (os.getD k 0)) (iv l (os.getD i 0))=true
inductive Vp (l:List iw) (os:List Int):Int->Int->Prop
 |one {i:Nat} (hi:i<os.length) (h1:∀j,j<i->EV l os j=0) (h2:EV l os i≠0):Vp l os i (EV l os i)
 |two (h1:∀j,j<os.length->EV l os j=0) (h2:Pk2 l os):Vp l os os.length 10
 |three {i:Nat} (h1:∀j,j<os.length->EV l os j=0) (h2:¬Pk2 l os) (hi:i<os.length) (h3:∀j,j<i->¬ZS l os j) (h4:ZS l os i):Vp l os i 9
 |vD (h1:∀j,j<os.length->EV l os j=0) (h2:¬Pk2 l os) (h3:∀j,j<os.length->¬ZS l os j):Vp l os 0 0
def I8{p:Nat->Prop}{i j:Nat}(h1:∀k,k<i->¬p k)(h2:p i)(h3:∀k,k<j->¬p k)(h4:p j):i=j:=by
 rcases Nat.lt_trichotomy i j with h|h|h
 ·exact absurd h2 (h3 i h)
 ·exact h
 ·exact absurd h4 (h1 j h)
def Vp.HI{l:List iw}{os:List Int}{a e a' e':Int}(h:Vp l os a e)(h':Vp l os a' e'):a=a'/\e=e':=by
 cases h with
 |one hi h1 h2=>
  cases h' with
  |one rq HF HN=>have:=I8 (p:=λi=>EV l os i≠0) (λk hk hn=>hn (h1 k hk)) h2 (λk hk hn=>hn (HF k hk)) HN;subst this;exact⟨rfl,rfl⟩
  |two k1 _=>exact absurd (k1 _ hi) h2
  |three k1 _ _ _ _=>exact absurd (k1 _ hi) h2
  |vD k1 _ _=>exact absurd (k1 _ hi) h2
 |two h1 h2=>
  cases h' with
  |one rq HF HN=>exact absurd (h1 _ rq) HN
  |two _ _=>exact⟨rfl,rfl⟩
  |three _ k2 _ _ _=>exact absurd h2 k2
  |vD _ k2 _=>exact absurd h2 k2
 |three h1 h2 hi h3 h4=>
  cases h' with
  |one rq HF HN=>exact absurd (h1 _ rq) HN
  |two _ k2=>exact absurd k2 h2
  |three _ _ rq h3' h4'=>have:=I8 (p:=ZS l os) h3 h4 h3' h4';subst this;exact⟨rfl,rfl⟩
  |vD _ _ k3=>exact absurd h4 (k3 _ hi)
 |vD h1 h2 h3=>
  cases h' with
  |one rq HF HN=>exact absurd (h1 _ rq) HN
  |two _ k2=>exact absurd k2 h2
  |three _ _ rq _ h4'=>exact absurd h4' (h3 _ rq)
  |vD _ _ _=>exact⟨rfl,rfl⟩
def Vp.zero{l:List iw}{os:List Int}{a:Int}(h:Vp l os a 0):a=0/\(∀j,j<os.length->EV l os j=0)/\¬Pk2 l os/\(∀j,j<os.length->¬ZS l os j):=by
 generalize he:(0:Int)=e at h;cases h with
 |one hi h1 h2=>exact absurd he.symm h2
 |two h1 h2=>exact absurd he (by decide)
 |three h1 h2 hi h3 h4=>exact absurd he (by decide)
 |vD h1 h2 h3=>exact⟨rfl,h1,h2,h3⟩
def Vl{l:List iw}{os:List Int}{i:Nat}(h:EV l os i=0):1<=os.getD i 0/\os.getD i 0<=l.length/\(os.getD i 0-1).toNat<l.length:=by
 unfold EV at h;split at h
 ·omega
 ·omega
def G9(v:fo)(l:List iw)(os:List Int):Nat->cI
 |0=>pL v
 |k+1=>(rZ (G9 v l os k) (iv l (os.getD k 0)).op).1
def Ff(v:fo)(l:List iw)(os:List Int)(k:Nat):Prop:=0<=(iv l (os.getD k 0)).to/\(rZ (G9 v l os k) (iv l (os.getD k 0)).op).2.1≠(iv l (os.getD k 0)).rp
inductive PM (v:fo) (l:List lD) (os:List Int):cI->Int->Int->Prop
 |He {a e:Int} (h:N4 (du v).2 l a e) (he:e≠0):PM v l os CY 0 e
 |SN {s:TL} (h:N4 (du v).2 l 0 0) (hs:wD l l.length s) (hl:400<os.length):PM v l os CY 0 3
 |pick {s:TL} {a e:Int} (h:N4 (du v).2 l 0 0) (hs:wD l l.length s) (hl:os.length<=400) (hp:Vp s.ops os a e) (he:e≠0):PM v l os CY a e
 |RC {s:TL} {k:Nat} (h:N4 (du v).2 l 0 0) (hs:wD l l.length s) (hl:os.length<=400) (hp:Vp s.ops os 0 0) (hk:k<os.length) (h1:∀j,j<k->¬Ff v s.ops os j) (h2:Ff v s.ops os k):PM v l os CY k 6
 |vD {s:TL} (h:N4 (du v).2 l 0 0) (hs:wD l l.length s) (hl:os.length<=400) (hp:Vp s.ops os 0 0) (h1:∀j,j<os.length->¬Ff v s.ops os j):PM v l os (G9 v s.ops os os.length) 0 0
def PM.HI{v:fo}{l:List lD}{os:List Int}{x y:cI}{a e a' e':Int}(h:PM v l os x a e)(h':PM v l os y a' e'):x=y/\a=a'/\e=e':=by
 have key:∀{a e:Int},N4 (du v).2 l 0 0->N4 (du v).2 l a e->e≠0->False:=λh1 h2 h3=>h3 (h1.HI h2).2.symm
 cases h with
 |He h he=>
  cases h' with
  |He h' ZW=>exact⟨rfl,rfl,(h.HI h').2⟩
  |SN h' _ _=>exact(key h' h he).elim
  |pick h' _ _ _ _=>exact(key h' h he).elim
  |RC h' _ _ _ _ _ _=>exact(key h' h he).elim
  |vD h' _ _ _ _=>exact(key h' h he).elim
 |SN h hs hl=>
  cases h' with
  |He h' ZW=>exact(key h h' ZW).elim
  |SN _ _ _=>exact⟨rfl,rfl,rfl⟩
  |pick _ _ Cw _ _=>omega
  |RC _ _ Cw _ _ _ _=>omega
  |vD _ _ Cw _ _=>omega
 |pick h hs hl hp he=>
  cases h' with
  |He h' ZW=>exact(key h h' ZW).elim
  |SN _ _ Cw=>omega
  |pick _ CP _ C0 _=>rw[hs.HI CP]at C0;exact⟨rfl,hp.HI C0⟩
  |RC _ CP _ C0 _ _ _=>rw[hs.HI CP]at C0;exact absurd (hp.HI C0).2 he
  |vD _ CP _ C0 _=>rw[hs.HI CP]at C0;exact absurd (hp.HI C0).2 he
 |RC h hs hl hp hk h1 h2=>
  cases h' with
  |He h' ZW=>exact(key h h' ZW).elim
  |SN _ _ Cw=>omega
  |pick _ CP _ C0 ZW=>rw[hs.HI CP]at C0;exact absurd (C0.HI hp).2 ZW
  |RC _ CP _ _ CZ HF HN=>rw[hs.HI CP]at HF HN;have:=I8 h1 h2 HF HN;subst this;exact⟨rfl,rfl,rfl⟩
  |vD _ CP _ _ HF=>rw[hs.HI CP]at HF;exact absurd h2 (HF _ hk)
 |vD h hs hl hp h1=>
  cases h' with
  |He h' ZW=>exact(key h h' ZW).elim
  |SN _ _ Cw=>omega
  |pick _ CP _ C0 ZW=>rw[hs.HI CP]at C0;exact absurd (C0.HI hp).2 ZW
  |RC _ CP _ _ CZ HF HN=>rw[hs.HI CP]at HN;exact absurd HN (h1 _ CZ)
  |vD _ CP _ _ _=>rw[hs.HI CP];exact⟨rfl,rfl,rfl⟩
def D9{os:List Int}{i:Nat}{x:Int}(hi:i<=os.length):x∈os.take i<->∃j,j<i/\os.getD j 0=x:=by
 constructor
 ·intro h;obtain⟨j,hj,rfl⟩:=Ay.1 h;exact⟨j,by omega,by simp[List.getD,bN (show j<os.length by omega)]⟩
 ·rintro⟨j,hj,rfl⟩;exact Ay.2 ⟨j,by omega,by simp[List.getD,bN (show j<os.length by omega)]⟩
def Dd{os:List Int}{i:Nat}(hi:i<os.length):os.getD i 0=os[i]:=by simp[List.getD,hi]
def adI{os:List Int}{x:Int}:x∈os<->∃j,j<os.length/\os.getD j 0=x:=by have:=D9 (os:=os) (i:=os.length) (x:=x) (aQ _);rwa [cM]at this
section
variable {W:AW} {lv ov:ad} {l:List iw} {os:List Int}
def SB.ln(h:SB W lv l)(U:AW):aV Tryz.prog .len #[78] 3 #[false] [lv] U=some (.ae (l.length:Int),U):=Row.len h Np U 3 #[false]
def gG.ln(h:gG W ov os)(U:AW):aV Tryz.prog .len #[28] 3 #[false] [ov] U=some (.ae (os.length:Int),U):=Row.len h yY U 3 #[false]
def gG.gd(h:gG W ov os){i:Nat}(hi:i<os.length):∃p,(∀W' k,pc 1 ov (.int k (i:Int)) W'=some (p,W'))/\bz p W=some (.ae (os.getD i 0),W):=by obtain⟨p,h1,h2⟩:=gG.get h hi;exact⟨p,h1,by rw[Dd hi];exact h2 W (.refl _)⟩
def SB.at(h:SB W lv l){y:Int}(h1:1<=y)(h2:y<=l.length):∃b o,(∀W',pc 25 lv (.ae (y-1)) W'=some (.pointer (some ⟨b,o,none⟩),W'))/\b<W.next/\∀W',W'.get b=W.get b->dJ 25 (.pointer (some ⟨b,o,none⟩)) W'=some (Jh (iv l y),W'):=by
 have hi:(y-1).toNat<l.length:=by omega
 obtain⟨b,o,k1,k2,k3⟩:=SB.get h hi;refine⟨b,o,λW'=>?_,k2,λW' hW=>?_⟩
 ·have:=k1 W' .i64;rwa [show(((y-1).toNat:Nat):Int)=y-1 by omega]at this
 ·have:=(k3 W' hW).1;have e:iv l y=l[(y-1).toNat]:=by unfold iv;rw[jt,bN hi];rfl
  rw[e];exact this
end
def jS(k:Nat)(o:iw):Bool:=decide (o.fr<=(k:Int))&&(decide (o.to<0)||decide ((k:Int)<o.to))
def jq(ops:List iw)(k:Nat):Nat:=(ops.filter (jS k)).length
def G3(ops:List iw)(o:iw)(k:Nat):jq (ops++[o]) k=jq ops k+if jS k o=true then 1 else 0:=by unfold jq;rw[rG,cx];cases h:jS k o<;>simp[h]
def YR{α:Type}{l:List α}{j:Nat}{a:α}(h:l[j]? =some a):l=l.take j++a::l.drop (j+1):=by obtain⟨h1,rfl⟩:=dh.1 h;rw[List.getElem_cons_drop,vu]
def YC{α:Type}{l:List α}{j:Nat}{a:α}(h:l[j]? =some a)(b:α):l.set j b=l.take j++b::l.drop (j+1):=by obtain⟨h1,rfl⟩:=dh.1 h;rw[Ie,an h1]
def Nf{ops:List iw}{j:Nat}{o:iw}(h:ops[j]? =some o)(k:Nat):jq ops k=jq (ops.take j) k+(if jS k o=true then 1 else 0)+jq (ops.drop (j+1)) k:=by refine(gO (λl=>jq l k) (YR h)).trans ?_;unfold jq;rw[rG,cx,Es];cases hk:jS k o<;>simp;omega
def Lb{ops:List iw}{j:Nat}{o:iw}(h:ops[j]? =some o)(b:iw)(k:Nat):jq (ops.set j b) k=jq (ops.take j) k+(if jS k b=true then 1 else 0)+jq (ops.drop (j+1)) k:=by rw[YC h b];unfold jq;rw[rG,cx,Es];cases hk:jS k b<;>simp;omega
def wD.bounds{l:List lD}{k:Nat}{s:TL}(h:wD l k s){o:iw}(ho:o∈s.ops):0<=o.fr/\o.fr<(k:Int)/\(o.to= -1\/(0<=o.to/\o.to<(k:Int))):=by
 obtain⟨j,hj,rfl⟩:=List.mem_iff_getElem.1 ho;have hg:=bN hj;have I:=h.inv;obtain⟨-,i,x,a1,a2,a3,-⟩:=I.ids j _ hg;refine⟨by omega,by omega,?_⟩;rcases I.tos j _ hg with⟨h,-⟩|⟨i2,x2,d1,d2,d3,d4,d5⟩
 ·exact .inl h
 ·obtain⟨j',o',c1,c2,c3,c4⟩:=I.ret i2 x2 d1 d2 d4;have:j'=j:=by omega
  subst this;rw[hg]at c1;injection c1 with c1;rw[c1];exact .inr ⟨by omega,by omega⟩
def SW{o:iw}{n m:Nat}(h:o.fr<(n:Int))(h2:o.to= -1\/(0<=o.to/\o.to<(n:Int)))(hm:n<=m+1):jS m o=decide (o.to<0):=by
 unfold jS;rcases h2 with h2|⟨h2,h3⟩
 ·rw[h2];simp;omega
 ·have e1:decide (o.to<0)=false:=cg;have e2:decide ((m:Int)<o.to)=false:=cg;rw[e1,e2];simp
def wD.amL{l:List lD}{n:Nat}{s:TL}(h:wD l n s):(∀k,k<n->s.wg[k]? =some ((jq s.ops k:Nat):Int))/\∀m,n<=m+1->jq s.ops m=s.vY:=by
 induction h with
 |zero=>exact⟨λk hk=>by omega,λm _=>rfl⟩
 | @succ n s x kP hx he ih=>
  obtain⟨ih1,ih2⟩:=ih;have I:=kP.inv;have Ns:=I.opl;cases hr:x.ret with
  |true=>
   obtain⟨hb,vd,-,-⟩:=Nw hr he;obtain⟨j,o0,g0,gid,gth,gto⟩:=(I.bsy _ _).1 hb;have ej:(x.id-1).toNat=j:=by omega
   have hs:nQ s n x=⟨s.ops.set j {o0 with to:=(n:Int),rp:=x.rp},s.wg++[((s.vY-1:Nat):Int)],λt=>if t=x.th then none else s.busy t,s.vY-1⟩:=by unfold nQ Rl;rw[an hr,ej,g0]
   rw[hs];have KC:o0∈s.ops:=xV g0;obtain⟨b1,b2,b3⟩:=kP.bounds KC;have wT:∀k,k<n->jq (s.ops.set j {o0 with to:=(n:Int),rp:=x.rp}) k=jq s.ops k:=λk hk=>by
    rw[Lb g0,Nf g0];have:jS k ({o0 with to:=(n:Int),rp:=x.rp}:iw)=jS k o0:=by unfold jS;simp only;rw[gto,aL (show¬((n:Int)<0)by omega),aK (show(k:Int)<(n:Int)by omega),aK (show((-1:Int)<0)by omega)];simp
    rw[this]
   have new:∀m,n+1<=m+1->jq (s.ops.set j {o0 with to:=(n:Int),rp:=x.rp}) m=s.vY-1:=λm hm=>by
    have h2:=ih2 m (by omega);rw[Nf g0]at h2;rw[Lb g0];have e1:jS m o0=true:=by rw[SW b2 b3 (by omega),gto];rfl
    have e2:jS m ({o0 with to:=(n:Int),rp:=x.rp}:iw)=false:=by unfold jS;simp only;rw[aL (show¬((n:Int)<0)by omega),aL (show¬((m:Int)<(n:Int))by omega)];simp
    rw[e1,an rfl]at h2;rw[e2,ap (by simp)];omega
   refine⟨λk hk=>?_,new⟩;simp only;by_cases e:k<n
   ·rw[zl (by omega),ih1 k e,wT k e]
   ·have:k=n:=by omega
    subst this;rw[pY (by omega),Ns,sk,new k (by omega)];rfl
  |false=>
   have hs:nQ s n x=⟨s.ops++[⟨x.id,x.th,(n:Int),-1,x.op,fw⟩],s.wg++[((s.vY+1:Nat):Int)],λt=>if t=x.th then some x.id else s.busy t,s.vY+1⟩:=by unfold nQ;rw[ap (by rw[hr];simp)]
   rw[hs];have wT:∀k,k<n->jq (s.ops++[⟨x.id,x.th,(n:Int),-1,x.op,fw⟩]) k=jq s.ops k:=λk hk=>by
    rw[G3];have:jS k (⟨x.id,x.th,(n:Int),-1,x.op,fw⟩:iw)=false:=by unfold jS;simp only;rw[aL (show¬((n:Int)<=(k:Int))by omega)];rfl
    rw[this,ap (by simp)];rfl
   have new:∀m,n+1<=m+1->jq (s.ops++[⟨x.id,x.th,(n:Int),-1,x.op,fw⟩]) m=s.vY+1:=λm hm=>by
    rw[G3,ih2 m (by omega)];have:jS m (⟨x.id,x.th,(n:Int),-1,x.op,fw⟩:iw)=true:=by unfold jS;simp only;rw[aK (show((n:Int)<=(m:Int))by omega)];rfl
    rw[this,an rfl]
   refine⟨λk hk=>?_,new⟩;simp only;by_cases e:k<n
   ·rw[zl (by omega),ih1 k e,wT k e]
   ·have:k=n:=by omega
    subst this;rw[pY (by omega),Ns,sk,new k (by omega)];rfl
def Pp(l:List Int):Int:=l.foldl max 0
def AK(l:List Int)(a:Int):Pp (l++[a])=max (Pp l) a:=by unfold Pp;rw[xJ];rfl
end Go.Proofs.YtmaoneengdafhaaGreatDoor
namespace Go.Proofs.YtmaoneengdafhaaGreatDoor
open Go Go.Eng
def IQ(o:iw)(W:AW):eZ 25 (.pointer (some ⟨W.next,0,none⟩)) (Jh o) (W.add (.cells (km ho0)))=some (aj,W.add (.cells (km o))):=by rw[auO (AW.aI _ _),iK]
def ahf(tp:Option Addr)(i:Fn)(a b:Array ad)(W:AW):∃W1,ba (.func (.func 52) #[] #[]) [.pointer tp,.func i a b] W=some (.func (.func 92) #[] #[.pointer (some ⟨W.next,0,none⟩),.pointer (some ⟨W.next+1,0,none⟩)],W1)/\Le W W1/\W1.next=W.next+2/\
 W1.get W.next=some (.cells [.pointer tp])/\W1.get (W.next+1)=some (.cells [.func i a b]):=by
 refine⟨(W.add (.cells [.pointer tp])).add (.cells [.func i a b]),?_,((Le.refl _).add _).add _,by rw[AW.av,AW.av],by rw[AW.aE _ _ (by rw[AW.av];omega),AW.aI],AW.aI _ _⟩;have:ky ba (.pointer tp) (.func i a b) W=some (.func (.func 92) #[] #[.pointer (some ⟨W.next,0,none⟩),.pointer (some ⟨W.next+1,0,none⟩)],(W.add (.cells [.pointer tp])).add (.cells [.func i a b])):=by unfold ky;simp only[SX,zS,AW.av]
 rw[vS this,kB rfl]
def agK{b1 b2 tb:Nat}{isF f ov:ad}{ops:List iw}{W0 W:AW}(hr:SB W0 ov ops)(hl:ops.length<=1000)(P:iw->Bool)(h1:bz (.pointer (some ⟨b1,0,none⟩)) W=some (.pointer (some ⟨tb,0,none⟩),W))(h5:bz (.pointer (some ⟨tb,5,none⟩)) W=some (ov,W))
 (I:List iw->AW->Prop)(Q:AW->Prop)(hI:I [] W)(hS:∀pre W',I pre W'->Le W0 W'/\bz (.pointer (some ⟨b2,0,none⟩)) W'=some (isF,W'))(hA:∀pre W' cs,I pre W'->I pre (W'.add (.cells cs)))
 (He:∀pre o W',I pre W'->ba isF [Jh o] W'=some (.bool (P o),W'))(skip:∀pre o W',pre++[o]<+:ops->I pre W'->P o=false->I (pre++[o]) W')
 (step:∀pre o W',pre++[o]<+:ops->I pre W'->P o=true->∃b W2,ba f [Jh o] W'=some (.bool b,W2)/\(b=true->I (pre++[o]) W2)/\(b=false->Q W2)):
 ∃W2,ba (.func (.func 92) #[] #[.pointer (some ⟨b1,0,none⟩),.pointer (some ⟨b2,0,none⟩)]) [f] W=some (.tuple #[],W2)/\(I ops W2\/Q W2):=by
 have pu:Ok (jo ba f (.pointer (some ⟨b1,0,none⟩)) (.pointer (some ⟨b2,0,none⟩)) W) λr=>r.1=.tuple #[]/\(I ops r.2\/Q r.2):=by
  unfold jo;have l0:=(hS _ _ hI).1;simp only[SX,h1,aR,aJ,h5,(hr.mono l0).len Np];refine bh ops.length (by omega) (λk R V=>R 0=f/\R 2=.pointer (some ⟨b2,0,none⟩)/\R 9=ov/\R 10=.ae (ops.length:Int)/\R 11=.ae (k:Int)/\I (ops.take k) V)
   (λr=>(r.1=.exit 0/\I ops r.2.2)\/(r.1=.ret/\Q r.2.2)) ⟨rfl,rfl,rfl,rfl,rfl,hI⟩ ?_ ?_ ?_
  ·rintro k R V hk ⟨r0,r2,r9,pi,od,hi⟩;unfold gS;have t1:((k:Int)<(ops.length:Int)):=by omega
   have t2:=λW'=>bm W' k 1
   have e3:((k+1:Nat):Int)=(k:Int)+1:=by omega
   obtain⟨b,o,i1,i2,i3⟩:=SB.get (hr.mono (hS _ _ hi).1) hk;obtain⟨f0,-⟩:=i3 V rfl;have ol:ops.take k++[ops[k]]<+:ops:=by rw[<-jv hk];exact List.take_prefix _ _
   have Jm:ops.take (k+1)=ops.take k++[ops[k]]:=jv hk;rw[Jm];generalize ops[k]=x at f0 ol;have hi2:=hA _ _ (km x) hi;have g2:dJ 25 (.pointer (some ⟨V.next,0,none⟩)) (V.add (.cells (km x)))=some (Jh x,V.add (.cells (km x))):=Wp (AW.aI _ _);have k2:=(hS _ _ hi2).2;have hp:=He _ x _ hi2;cases hP:P x with
   |false=>rw[hP]at hp;simp only[SX,r0,r2,r9,pi,od,t1,i1,f0,QH,IQ,k2,g2,hp,t2,ah];exact .inl ⟨ak,r0,r2,r9,pi,by rw[e3];rfl,skip _ _ _ ol hi2 hP⟩
   |true=>
    rw[hP]at hp;obtain⟨c,W2,s1,s2,s3⟩:=step _ x _ ol hi2 hP;cases c with
    |true=>simp only[SX,r0,r2,r9,pi,od,t1,i1,f0,QH,IQ,k2,g2,hp,s1,t2,ah];exact .inl ⟨ak,r0,r2,r9,pi,by rw[e3];rfl,s2 rfl⟩
    |false=>simp only[SX,r0,r2,r9,pi,od,t1,i1,f0,QH,IQ,k2,g2,hp,s1,ah];exact .inr ⟨by simp,.inr ⟨ak,s3 rfl⟩⟩
  ·rintro R V ⟨r0,r2,r9,pi,od,hi⟩;unfold gS;have t1:¬((ops.length:Int)<(ops.length:Int)):=by omega
   rw[cM]at hi;simp only[SX,pi,od,t1,ah];exact⟨by simp,.inl ⟨ak,hi⟩⟩
  ·rintro⟨x,R,V⟩ hq;rcases hq with⟨rfl,hi⟩|⟨rfl,hq⟩
   ·simp only[SX,ah];exact⟨ak,.inl hi⟩
   ·simp only[SX,ah];exact⟨ak,.inr hq⟩
 obtain⟨⟨r,W'⟩,h1,h2,h3⟩:=pu;simp only at h2 h3;subst h2;exact⟨W',by rw[sX h1,kB rfl],h3⟩
def Vy{b1 b2 tb nt:Nat}{isF ov:ad}{ops:List iw}{W0 W:AW}{R:Nat->ad}{ps:Array Tmp}{ac bd:Code}(hr:SB W0 ov ops)(hl:ops.length<=1000)(P:iw->Bool)(hp:ps.size=1)
 (h1:bz (.pointer (some ⟨b1,0,none⟩)) (W.add (.loop .ready none R nt ps ac bd))=some (.pointer (some ⟨tb,0,none⟩),W.add (.loop .ready none R nt ps ac bd)))(h5:bz (.pointer (some ⟨tb,5,none⟩)) (W.add (.loop .ready none R nt ps ac bd))=some (ov,W.add (.loop .ready none R nt ps ac bd)))
 (J:List iw->AW->Prop)(Q:X->AW->Prop)(h0:J [] (W.add (.loop .ready none R nt ps ac bd)))
 (hS:∀pre W',J pre W'->Le W0 W'/\bz (.pointer (some ⟨b2,0,none⟩)) W'=some (isF,W'))(hA:∀pre W' cs,J pre W'->W.next<W'.next->J pre (W'.add (.cells cs)))(hP:∀pre W' o,J pre W'->J pre (W'.put W.next o))(hQ:∀x W' o,Q x W'->Q x (W'.put W.next o))
 (He:∀pre o W',J pre W'->ba isF [Jh o] W'=some (.bool (P o),W'))(skip:∀pre o W',pre++[o]<+:ops->J pre W'->P o=false->J (pre++[o]) W')
 (d:Nat)(has:∀o W' R',R'=nT ps.toList [Jh o] R->ga Tryz.prog ba false nt ac LT R' W' nG=some (.normal,iU R' (some d) (.pointer (some ⟨W'.next,0,none⟩)),W'.add (.cells (km o))))
 (step:∀pre o W' b R',R'=iU (nT ps.toList [Jh o] R) (some d) (.pointer (some ⟨b,0,none⟩))->pre++[o]<+:ops->P o=true->J pre W'->W.next<W'.next->W'.get b=some (.cells (km o))->W.next<b->b<W'.next->
   Ok (ga Tryz.prog ba false nt bd LT R' W' nG) λq=>W'.next<=q.2.2.next/\q.2.2.get W.next=W'.get W.next/\((q.1=.normal/\J (pre++[o]) q.2.2)\/(q.1≠ .normal/\Q q.1 q.2.2))):
 ∃x W2,ll ba (.func (.func 92) #[] #[.pointer (some ⟨b1,0,none⟩),.pointer (some ⟨b2,0,none⟩)]) (.loop .ready none R nt ps ac bd) W=some (x,W2.kill W.next)/\((x=.normal/\J ops W2)\/(x≠ .normal/\Q x W2)):=by
 obtain⟨W2,k1,k2⟩:=agK (f:=.func (.yield W.next) #[] #[]) (W:=W.add (.loop .ready none R nt ps ac bd)) (b2:=b2) (isF:=isF) hr hl P h1 h5
  (λpre W'=>J pre W'/\W.next<W'.next/\W'.get W.next=some (.loop .ready none R nt ps ac bd))
  (λW'=>∃x,x≠ .normal/\Q x W'/\W'.get W.next=some (.loop .done x.jump R nt ps ac bd))
  ⟨h0,by rw[AW.av];omega,AW.aI _ _⟩ (λpre W' h=>hS _ _ h.1)
  (λpre W' cs h=>⟨hA _ _ _ h.1 h.2.1,by rw[AW.av];omega,by rw[AW.aE _ _ (by omega)];exact h.2.2⟩)
  (λpre o W' h=>He _ _ _ h.1) (λpre o W' ol h hn=>⟨skip _ _ _ ol h.1 hn,h.2⟩)
  (λpre o W' ol ⟨hJ,lA,dT⟩ agW=>by
    have hJ2:=hP _ _ (.loop .busy none R nt ps ac bd) (hA _ _ (km o) hJ lA);obtain⟨⟨x,R2,W3⟩,k1,k2,k3,k4⟩:=step pre o _ W'.next _ rfl ol agW hJ2 (by rw[AW.bG,AW.av];omega) (by rw[AW.ay _ _ (by omega)];exact AW.aI _ _) lA (by rw[AW.bG,AW.av];omega);simp only at k1 k2 k3 k4;rw[AW.aW]at k3;have hy:=Fm (P:=Tryz.prog) (args:=[Jh o]) dT (by rw[hp];rfl) (has o W' _ rfl) (by rw[AW.aE _ _ (by omega)];exact dT) k1 k3;have hn3:W.next<W3.next:=by rw[AW.bG,AW.av]at k2;omega
    rcases k4 with⟨rfl,k4⟩|⟨kx,k4⟩
    ·exact⟨true,_,hy,λ_=>⟨hP _ _ _ k4,by rw[AW.bG];exact hn3,AW.aW _ _ _⟩,λh=>by cases h⟩
    ·refine⟨false,W3.put W.next (.loop .done x.jump R nt ps ac bd),?_,λh=>by(cases h),λ_=>⟨x,kx,hQ _ _ _ k4,AW.aW _ _ _⟩⟩;refine hy.trans ?_;cases x with
     |normal=>exact absurd rfl kx
     |exit i=>rfl
     |ret=>rfl)
 rcases k2 with⟨h2,h3,h4⟩|⟨x,h2,h3,h4⟩
 ·exact⟨.normal,W2,wX k1 h4 (by simp),.inl ⟨rfl,h2⟩⟩
 ·exact⟨x,W2,JB k1 h4,.inr ⟨h2,h3⟩⟩
def aci{b1 b2 tb nt:Nat}{isF ov:ad}{ops:List iw}{W0 W:AW}{R:Nat->ad}{ps:Array Tmp}{ac bd:Code}{ρ:Type}{K:X×AW->Option ρ}{G:ρ->Prop}(hr:SB W0 ov ops)(hl:ops.length<=1000)(P:iw->Bool)(hp:ps.size=1)
 (h1:bz (.pointer (some ⟨b1,0,none⟩)) (W.add (.loop .ready none R nt ps ac bd))=some (.pointer (some ⟨tb,0,none⟩),W.add (.loop .ready none R nt ps ac bd)))(h5:bz (.pointer (some ⟨tb,5,none⟩)) (W.add (.loop .ready none R nt ps ac bd))=some (ov,W.add (.loop .ready none R nt ps ac bd)))
 (J:List iw->AW->Prop)(Q:X->AW->Prop)(h0:J [] (W.add (.loop .ready none R nt ps ac bd)))
 (hS:∀pre W',J pre W'->Le W0 W'/\bz (.pointer (some ⟨b2,0,none⟩)) W'=some (isF,W'))(hA:∀pre W' cs,J pre W'->W.next<W'.next->J pre (W'.add (.cells cs)))(hP:∀pre W' o,J pre W'->J pre (W'.put W.next o))(hQ:∀x W' o,Q x W'->Q x (W'.put W.next o))
 (He:∀pre o W',J pre W'->ba isF [Jh o] W'=some (.bool (P o),W'))(skip:∀pre o W',pre++[o]<+:ops->J pre W'->P o=false->J (pre++[o]) W')
 (d:Nat)(has:∀o W' R',R'=nT ps.toList [Jh o] R->ga Tryz.prog ba false nt ac LT R' W' nG=some (.normal,iU R' (some d) (.pointer (some ⟨W'.next,0,none⟩)),W'.add (.cells (km o))))
 (step:∀pre o W' b R',R'=iU (nT ps.toList [Jh o] R) (some d) (.pointer (some ⟨b,0,none⟩))->pre++[o]<+:ops->P o=true->J pre W'->W.next<W'.next->W'.get b=some (.cells (km o))->W.next<b->b<W'.next->
   Ok (ga Tryz.prog ba false nt bd LT R' W' nG) λq=>W'.next<=q.2.2.next/\q.2.2.get W.next=W'.get W.next/\((q.1=.normal/\J (pre++[o]) q.2.2)\/(q.1≠ .normal/\Q q.1 q.2.2)))
 (after:∀x W2,(x=.normal/\J ops W2)\/(x≠ .normal/\Q x W2)->Ok (K (x,W2.kill W.next)) G):
 Ok (fb (ll ba (.func (.func 92) #[] #[.pointer (some ⟨b1,0,none⟩),.pointer (some ⟨b2,0,none⟩)]) (.loop .ready none R nt ps ac bd) W) K) G:=by
 obtain⟨x,W2,k1,k2⟩:=Vy hr hl P hp h1 h5 J Q h0 hS hA hP hQ He skip d has step;rw[k1,Dk];exact after x W2 k2
def Hn(o:iw):Bool:=decide (0<=o.to)
def Wk(o:iw)(W:AW):ba (.func (.func 26) #[] #[]) [Jh o] W=some (.bool (Hn o),W):=by refine aP rfl ?_ HB;unfold DT;have x1:(W.add (.cells (km o))).get W.next=some (.cells (km o)):=AW.aI _ _;simp only[SX,aJ,NA x1,ah];exact⟨rfl,(Le.refl _).add _⟩
def acO:Tryz.prog.underlying 115=some (.map 3 4):=by kernel_rfl
def tz4:kN Tryz.prog 4=some (.bool false):=by kernel_rfl
def apy(W:AW):vi Tryz.prog 115 none W=some (.map (some W.next),W.add (.map [] 0)):=rfl
def alM(W:AW):dm Tryz.prog 115 W=some (aZ W.next,W.add (.cells [.map none])):=aS (by kernel_rfl) rfl
def alI(W:AW):dm Tryz.prog 3 W=some (aZ W.next,W.add (.cells [.ae 0])):=aS (by kernel_rfl) rfl
def alE(W:AW):dm Tryz.prog 35 W=some (aZ W.next,W.add (.cells [.ae 0])):=aS (by kernel_rfl) rfl
def oLI(x:ad)(W:AW):jx Tryz.prog 3 x W=bz x W:=by kernel_rfl
def oLE(x:ad)(W:AW):jx Tryz.prog 35 x W=bz x W:=by kernel_rfl
structure Xv (W:AW) (ov:ad) (os:List Int):Prop where
 ints:gG W ov os
 from_:∀k,k<=os.length->∃v',(∀U,ft Tryz.prog 28 ov (some (.ae (k:Int))) none none U=some (v',U))/\gG W v' (os.drop k)
def Xv.mono{W W':AW}{ov:ad}{os:List Int}(h:Xv W ov os)(aM:Le W W'):Xv W' ov os:=⟨h.ints.mono aM,λk hk=>let⟨v,a,b⟩:=h.from_ k hk;⟨v,a,b.mono aM⟩⟩
def stM{W:AW}{b:Nat}{x:ad}{m:Nat}(h:W.get b=some (.cells [x])):eZ 1 (aZ b) (.map (some m)) W=some (aj,W.put b (.cells [.map (some m)])):=by have:=CA (n:=1) (o:=0) (v:=.map (some m)) h rfl (aQ 1) rfl;exact this.trans rfl
def ajm{W:AW}{b:Nat}{x:ad}{n:Int}(h:W.get b=some (.cells [x])):eZ 1 (aZ b) (.ae n) W=some (aj,W.put b (.cells [.ae n])):=by rw[uZ,cR h];rfl
def pb(os:List Int)(i:Nat):Int->Option ad:=λx=>if x∈os.take i then some (.bool true)else none
def YD{os:List Int}{i:Nat}(hi:i<os.length):pb os (i+1)=λx=>if x=os.getD i 0 then some (.bool true)else pb os i x:=by
 funext x;unfold pb;rw[jv hi,Dd hi];by_cases e:x=os[i]
 ·rw[an e,an (List.mem_append_right _ (by rw[e];exact ko.2 rfl))]
 ·rw[ap e];by_cases h:x∈os.take i
  ·rw[an h,an (List.mem_append_left _ h)]
  ·rw[ap h,ap (λhm=>(lH.1 hm).elim h λh2=>e (ko.1 h2))]
section
variable {W:AW} {lv ov sv ev pv:ad} {l:List iw} {os:List Int} {tb:Nat} {v:fo}
def ah3{U:AW}{b1 bx:Nat}{x y:Int}(h1:U.get b1=some (.cells [aZ tb]))(ht:U.get tb=some (.cells (Wz v sv ev lv pv)))(hx:U.get bx=some (.cells [.ae x]))(hl:SB U lv l)(hll:l.length<=1000)(x1:1<=x)(x2:x<=l.length)(y1:1<=y)(y2:y<=l.length):
 ba (.func (.func 53) #[] #[aZ b1,aZ bx]) [.ae y] U=some (.bool (OB (iv l y) (iv l x)),U):=by
 refine aP rfl ?_ rj;unfold kY;have c1:bz (aZ b1) U=some (aZ tb,U):=aO (ao h1) rfl;have c2:bz (.pointer (some ⟨tb,5,none⟩)) U=some (lv,U):=aO (ao ht) rfl;have c3:bz (aZ bx) U=some (.ae x,U):=aO (ao hx) rfl;have s1:=λW'=>Ao W' x 1
 have s2:=λW'=>Ao W' y 1
 obtain⟨b,o,g1,g2,g3⟩:=hl.at x1 x2;obtain⟨b',o',k1,k2,k3⟩:=hl.at y1 y2;simp only[SX,c1,aR,aJ,c2,s2,k1,k3 _ rfl,c3,s1,g1,g3 _ rfl,ON,ah];exact⟨ak,.refl _⟩
structure BP (W U:AW) (ov:ad) (tb:Nat) (m:Int->Option ad) (a e:Int):Prop where
 le:Le W U
 n:W.next+6<=U.next
 b1:U.get W.next=some (.cells [aZ tb])
 b2:U.get (W.next+1)=some (.cells [ov])
 b3:U.get (W.next+2)=some (.cells [.ae a])
 b4:U.get (W.next+3)=some (.cells [.ae e])
 b5:U.get (W.next+5)=some (.cells [.map (some (W.next+4))])
 m:∃n,xY U (W.next+4) m n
def BP.keep{U U':AW}{m:Int->Option ad}{a e:Int}(h:BP W U ov tb m a e)(hn:U.next<=U'.next)(hg:∀d,d<W.next+6->U'.get d=U.get d):BP W U' ov tb m a e:=by have:=h.n;obtain⟨n,hm⟩:=h.m;exact⟨⟨by have:=h.le.next;omega,λd hd=>(hg d (by omega)).trans (h.le.get d hd)⟩,by omega,(hg _ (by omega)).trans h.b1,(hg _ (by omega)).trans h.b2,(hg _ (by omega)).trans h.b3,(hg _ (by omega)).trans h.b4,(hg _ (by omega)).trans h.b5,n,hm.keep (hg _ (by omega))⟩
def BP.ans{U:AW}{m:Int->Option ad}{a e:Int}(h:BP W U ov tb m a e)(a' e':Int):∃U1 U2,eZ 1 (aZ (W.next+2)) (.ae a') U=some (aj,U1)/\eZ 1 (aZ (W.next+3)) (.ae e') U1=some (aj,U2)/\BP W U2 ov tb m a' e'/\U2.next=U.next/\∀d,d≠W.next+2->d≠W.next+3->U2.get d=U.get d:=by
 obtain⟨n,hm⟩:=h.m;have hn:=h.n;have g3:(U.put (W.next+2) (.cells [.ae a'])).get (W.next+3)=some (.cells [.ae e]):=(AW.ay _ _ (by omega)).trans h.b4;have k:∀d,d≠W.next+2->d≠W.next+3->((U.put (W.next+2) (.cells [.ae a'])).put (W.next+3) (.cells [.ae e'])).get d=U.get d:=λd h1 h2=>(AW.ay _ _ (bc h2)).trans (AW.ay _ _ (bc h1))
 refine⟨_,_,ajm h.b3,ajm g3,⟨⟨h.le.next,λd hd=>(k d (by omega) (by omega)).trans (h.le.get d hd)⟩,hn,(k _ (by omega) (by omega)).trans h.b1,(k _ (by omega) (by omega)).trans h.b2,(AW.ay _ _ (by omega)).trans (AW.aW _ _ _),AW.aW _ _ _,(k _ (by omega) (by omega)).trans h.b5,n,hm.keep (k _ (by omega) (by omega))⟩,rfl,k⟩
def BP.res{U:AW}{m:Int->Option ad}{a e:Int}(h:BP W U ov tb m a e):iX Tryz.prog [(aZ (W.next+2),some 3),(aZ (W.next+3),some 35)] U=some (.tuple #[.ae a,.ae e],U):=by have c1:bz (aZ (W.next+2)) U=some (.ae a,U):=aO (ao h.b3) rfl;have c2:bz (aZ (W.next+3)) U=some (.ae e,U):=aO (ao h.b4) rfl;rw[AX,oLI,oLE,c1,bJ,c2];rfl
end
end Go.Proofs.YtmaoneengdafhaaGreatDoor
