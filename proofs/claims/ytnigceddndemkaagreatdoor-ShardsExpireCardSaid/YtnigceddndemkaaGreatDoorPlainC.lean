/- ShardsExpire: it answers true. -/
import Derived.Test.YtnigceddndemkaaGreatDoorPlainB
import Derived.KernelRfl
set_option linter.unusedVariables false
set_option linter.unusedSimpArgs false
set_option linter.unusedSectionVars false
namespace Go.Proofs.YtnigceddndemkaaGreatDoor.Ho
open Go Go.Eng Go.Hp
set_option maxRecDepth 100000
theorem a0m{n:Int}(h0:0<=n)(h1:n<=255)(W:AW):BM Tryz.prog 5 3 (.int .u8 n) W=some (.int .i64 n,W):=by have:BM Tryz.prog 5 3 (.int .u8 n) W=some (.int .i64 (IntKind.i64.wrap n),W):=Eq.trans (by kernel_rfl) rfl;rw[this,mZ (by omega) (by omega)]
theorem a17(a b:Int)(W:AW):aD Tryz.prog .max #[2,2] 2 #[false,true] [.int .i64 a,.int .i64 b] W=some (.int .i64 (max a b),W):=by
 have e:aD Tryz.prog .max #[2,2] 2 #[false,true] [.int .i64 a,.int .i64 b] W=(iU Tryz.prog ([Value.int .i64 a,.int .i64 b].all aU) (builtin .max #[2,2] 2 #[false,true] #[.int .i64 a,.int .i64 b])).map λv=>(v,W):=by unfold aD;rfl
 rw[e];have e2:builtin .max #[2,2] 2 #[false,true] #[.int .i64 a,.int .i64 b]=(do pure (.value (<-Builtin.max_ #[2,2] 2 #[.int .i64 a,.int .i64 b]))):=rfl;rw[e2];refine zL ?_ rfl _ rfl;unfold Builtin.max_;simp only[List.foldlM_cons,List.foldlM_nil,cW,Builtin.max2,dG,Option.bind_some];congr 2;split<;>omega
theorem HoL.gr{W W':AW}{K:Nat->Prop}{lo:Nat}{u:Value}{l:List (Int×Int)}(h:NewL lo W u l)(g:Gr W W' K)(hk:∀b,lo<=b->b<W.next->¬K b):HoL W' u l:=(h.gr g hk).row
theorem GO{W V:AW}{r1:Nat}{lo:Nat}{sv rv lv wv:Value}{l:List SeT}{p:Nat->Bool}{now:Int}{d:List (Int×Int)}{R:PlanTab.Fr}{K:LT->Option (Value×AW)}{G:Value×AW->Prop}
 (hl:l.length<=10000)(hrow:∀U,Le V U->SeL U rv l)(hlv:∀U:AW,V.next<=U.next->(∀b,b<lo->U.get b=V.get b)->HoL U lv d)(hlo:lo<=V.next)(hrw:∀U:AW,V.next<=U.next->(∀b,b<lo->U.get b=V.get b)->SeL U rv l)(hw:BlS lo V wv l)(hd:gO (bP l p) now d)(hdl:d.length<=10000)(hok:∀x,x∈l->o7 x=0)(hn:0<=now)
 (e1:R 1=rv)(e10:R 10=.int .i64 now)(e11:R 11=lv)(e18:R 18=wv)(e19:R 19=.int .i64 0)
 (hk:∀(R':PlanTab.Fr) (U:AW),R' 3=R 3->R' 7=R 7->R' 9=R 9->R' 10=.int .i64 now->R' 18=wv->V.next<=U.next->(∀b,b<lo->U.get b=V.get b)->BlS lo U wv (dW l now d)->Ok (K (X.exit 0,R',U)) G):
 Ok (a8 (bZ (cS aK) R V) K) G:=by
 refine bI d.length (by omega) (λj Q U=>Q 3=R 3/\Q 7=R 7/\Q 9=R 9/\Q 1=rv/\Q 10=.int .i64 now/\Q 11=lv/\Q 18=wv/\Q 19=.int .i64 (j:Int)/\V.next<=U.next/\(∀b,b<lo->U.get b=V.get b)/\BlS lo U wv (dW l now (d.take j)))
  (λr=>r.1=.exit 0/\r.2.1 3=R 3/\r.2.1 7=R 7/\r.2.1 9=R 9/\r.2.1 10=.int .i64 now/\r.2.1 18=wv/\V.next<=r.2.2.next/\(∀b,b<lo->r.2.2.get b=V.get b)/\BlS lo r.2.2 wv (dW l now d))
  ⟨rfl,rfl,rfl,e1,e10,e11,e18,e19,Nat.le_refl _,λ_ _=>rfl,by rw[List.take_zero];exact hw⟩ ?_ ?_ ?_
 ·rintro j Q U hj ⟨q3,q7,q9,q1,q10,q11,q18,q19,u1,u2,u3⟩;unfold cS;have t1:((j:Int)<(d.length:Int)):=by omega
  have t2:=λW'=>aX (P:=Tryz.prog) (W:=W') (t:=3) (c:=false) (d:=true) (a:=(j:Int)) (b:=1) (by omega) (by omega)
  have e3:((j+1:Nat):Int)=(j:Int)+1:=by omega
  obtain⟨s,s1,s2,s3,s4,s5⟩:=T5 hd hok hn hj;have hH:=hlv U u1 u2;obtain⟨b,o,i1,i2,i3⟩:=HoL.get hH hj;rw[s2]at i3;obtain⟨y,y1⟩:∃y,y=j0 l s:=⟨_,rfl⟩;have hs:=jF s1;rw[<-y1]at hs s3 s4 s5;obtain⟨b',o',-,j1,j2,-⟩:=SeL.get (hrw U u1 u2) hs;obtain⟨U1,U2,a1,a2,a3,a4,a5⟩:=a0Q U y;have hb2:U2.get b=U.get b:=a3.get b i2;have i4:aN (.pointer (some ⟨b,o,none⟩)) U=some (.int .i64 (s:Int),U):=(i3 U rfl).2.1;have i5:aN (.pointer (some ⟨b,o,none⟩)) U2=some (.int .i64 (s:Int),U2):=(i3 U2 hb2).2.1;have i6:aN (.pointer (some ⟨b,o+1,none⟩)) U2=some (.int .i64 y.dl,U2):=by have:=(i3 U2 hb2).2.2;rw[y1];exact this
  have d1:=decide_eq_true s3;have d2:decide (y.dl=y.dl)=true:=decide_eq_true rfl;have d3:decide (now<y.dl)=false:=decide_eq_false (by omega);have hg:=jF (l:=dW l now (d.take j)) (j:=s) (by rw[fJ];exact s1);have u4:BlS lo U2 wv (dW l now (d.take j)):=u3.keep a3.next λc _ hc=>a3.get c hc
  obtain⟨c,o2,w0,w1,w2,-,w4⟩:=u4.put hg;obtain⟨w5,w6⟩:=w4 (oX y) U2 rfl (Nat.le_refl _);have hfv:mH ⟨0,0,0,y.se,y.ep⟩=mH (oX y):=rfl;simp only[SX,E7,E0,q1,q10,q11,q18,q19,hH.len qK,t1,decide_true,i1,i4,j1,j2 U (Le.refl _),a1,a2,dB a5,d1,Nat.zero_add,Nat.add_zero,dZ a5,i6,d2,d3,i5,VP a5,TB a5,a2p,hfv,w2,w5,t2,aA];refine .inl ⟨trivial,q3,q7,q9,q1,q10,q11,q18,by rw[e3];rfl,by rw[AW.put_next];have:=a3.next;omega,λz hz=>?_,?_⟩
  ·rw[AW.get_put_ne _ _ (by omega),a3.get z (by omega)];exact u2 z hz
  ·rw[s5];exact w6
 ·rintro Q U ⟨q3,q7,q9,q1,q10,q11,q18,q19,u1,u2,u3⟩;unfold cS;have t1:¬((d.length:Int)<(d.length:Int)):=by omega
  rw[List.take_length]at u3;simp only[SX,q11,q19,(hlv U u1 u2).len qK,t1,decide_false,aA];exact⟨by simp,trivial,q3,q7,q9,q10,q18,u1,u2,u3⟩
 ·rintro⟨q,Q,U⟩ ⟨rfl,q3,q7,q9,q10,q18,u1,u2,u3⟩;exact hk Q U q3 q7 q9 q10 q18 u1 u2 u3
theorem FV{V:AW}{b0:Nat}{wv:Value}{l:List SeT}{k i:Nat}{now:Int}{d:List (Int×Int)}{R:PlanTab.Fr}{K:LT->Option (Value×AW)}{G:Value×AW->Prop}(hk0:k<=16)(hi:i<k)(hl:l.length<=10000)
 (hw:SeL V wv (dW l now d))(hd:gO (bP l (j4 k i)) now d)(hok:∀x,x∈l->o7 x=0)(hn:0<=now)(hsh:aN (.pointer (some ⟨b0,0,none⟩)) V=some (.int .i64 (k:Int),V))
 (e3:R 3=.pointer (some ⟨b0,0,none⟩))(e10:R 10=.int .i64 now)(e18:R 18=wv)(e21:R 21=.int .i64 (i:Int))
 (hk:∀(R':PlanTab.Fr),R' 7=R 7->R' 18=wv->Ok (K (X.exit 2,R',V)) G):
 Ok (a8 (bZ (cR aK) R V) K) G:=by
 have hc1:LJ l.length k i<=11000:=by unfold LJ;have:=Nat.div_le_self (l.length+k-1-i) k;omega
 refine bI (LJ l.length k i) (by omega) (λj Q U=>U=V/\Q 7=R 7/\Q 3=.pointer (some ⟨b0,0,none⟩)/\Q 10=.int .i64 now/\Q 18=wv/\Q 21=.int .i64 ((i+j*k:Nat):Int))
  (λr=>r.1=.exit 2/\r.2.2=V/\r.2.1 7=R 7/\r.2.1 18=wv) ⟨rfl,rfl,e3,e10,e18,by rw[Nat.zero_mul,Nat.add_zero];exact e21⟩ ?_ ?_ ?_
 ·rintro j Q U hj ⟨rfl,q7,q3,q10,q18,q21⟩;unfold cR;have hs:=(jQ hi).1 hj;have t1:(((i+j*k:Nat):Int)<((dW l now d).length:Int)):=by rw[fJ];omega
  have t2:=λW'=>aX (P:=Tryz.prog) (W:=W') (t:=3) (c:=false) (d:=false) (a:=((i+j*k:Nat):Int)) (b:=(k:Int)) (by omega) (by omega)
  have e6:((i+(j+1)*k:Nat):Int)=((i+j*k:Nat):Int)+(k:Int):=by rw[Nat.add_mul,Nat.one_mul];omega
  have hp:j4 k i (i+j*k)=true:=by simp[j4,Nat.add_mul_mod_self_right,Nat.mod_eq_of_lt hi]
  have hx:=jF (l:=dW l now d) (j:=i+j*k) (by rw[fJ];exact hs);have n1:=CI hd hok hn hs hp;have n2:=a0j hd hok hn hs hp;generalize j0 (dW l now d) (i+j*k)=x at *;obtain⟨b,o,cs,y1,y2,y3,y4⟩:=hw.elem (i:=i+j*k) (by rw[fJ];exact hs);have hxe:(dW l now d)[i+j*k]'(by rw[fJ];exact hs)=x:=by have:=List.getElem?_eq_getElem (l:=dW l now d) (i:=i+j*k) (by rw[fJ];exact hs);rw[hx]at this;injection this with this;exact this.symm
  rw[hxe]at y4;have z0:aN (.pointer (some ⟨b,o,none⟩)) U=some (.int .i64 x.st,U):=bS y3 y4.1;have z2:aN (.pointer (some ⟨b,o+2,none⟩)) U=some (.int .i64 x.dl,U):=bS y3 y4.2.2.1;have z5:dS 5 (.pointer (some ⟨b,o,none⟩)) U=some (mH x,U):=by rw[rY,y3];simp only[Option.bind_some,TQ y4,dV,if_true]
  have d3:decide ((0:Int)=0)=true:=rfl;by_cases c1:x.st=1
  ·have d1:=decide_eq_true c1;have d2:decide (x.dl<=now)=false:=decide_eq_false λc=>n1 ⟨c1,c⟩
   simp only[SX,E7,E0,q3,q10,q18,q21,hw.len nE,t1,decide_true,y1,Nat.zero_add,Nat.add_zero,z0,d1,z2,d2,z5,IK,n2,d3,hsh,t2,aA];exact .inl ⟨trivial,trivial,q7,q3,q10,q18,by rw[e6];rfl⟩
  ·have d1:=decide_eq_false c1;simp only[SX,E7,E0,q3,q10,q18,q21,hw.len nE,t1,decide_true,y1,Nat.zero_add,Nat.add_zero,z0,d1,z5,IK,n2,d3,hsh,t2,aA];exact .inl ⟨trivial,trivial,q7,q3,q10,q18,by rw[e6];rfl⟩
 ·rintro Q U ⟨rfl,q7,q3,q10,q18,q21⟩;unfold cR;have hs:¬i+LJ l.length k i*k<l.length:=λx=>by have:=(jQ hi).2 x;omega
  have t1:¬(((i+LJ l.length k i*k:Nat):Int)<((dW l now d).length:Int)):=by rw[fJ];omega
  simp only[SX,q18,q21,hw.len nE,t1,decide_false,aA];exact⟨by simp,trivial,trivial,q7,q18⟩
 ·rintro⟨q,Q,U⟩ ⟨rfl,rfl,q7,q18⟩;exact hk Q q7 q18
theorem shardsExpire_om{W:AW}{v:Ven}{sv rv:Value}{l:List SeT}{s t:Int}(hs:SecsC W sv v.secs)(hr:SeL W rv l)(h0:0<=s)(h1:s<=255):aK (.func (.func 4) #[] #[]) [qO v sv,rv,atV s t] W=some (.bool true,W):=by
 refine aM rfl ?_ qL;unfold nF;obtain⟨W1,k1,k2,k3,k4⟩:=G0 v sv W;have oB:cO (atV s t) W1=some (.pointer (some ⟨W1.next,0,none⟩),W1.add (.cells [.int .u8 s,.int .i64 t])):=dN _;have l2:Le W1 (W1.add (.cells [.int .u8 s,.int .i64 t])):=(Le.refl _).add _;have n2:(W1.add (.cells [.int .u8 s,.int .i64 t])).next=W1.next+1:=AW.add_next _ _;have g2:(W1.add (.cells [.int .u8 s,.int .i64 t])).get W1.next=some (.cells [.int .u8 s,.int .i64 t]):=AW.get_add _ _;simp only[SX,k1,oB];generalize W1.add (.cells [.int .u8 s,.int .i64 t])=W2 at *;have lW:=k2.trans l2;have gv:=(l2.get _ (by omega)).trans k4;have hs2:=hs.mono lW;have hr2:=hr.mono lW;obtain⟨c,hf,hsm⟩:=a02 (hs2.1) hr2;cases c with
 |true=>simp only[SX,vO gv,hf,tN,aA];exact⟨trivial,lW⟩
 |false=>
 obtain⟨sm1,sm2,sm3⟩:=hsm rfl;obtain⟨p1,p2⟩:=TI hs2 (by omega) hr2 (by omega);by_cases ce:n9 v l=0;case neg=>have m1:=p1 ce;have t2:decide (n9 v l=0)=false:=decide_eq_false ce;simp only[SX,vO gv,hf,m1,t2,tN,aA];exact⟨trivial,lW⟩
 obtain⟨M,V0,W0,k,m1,m2,m3,m4,m5⟩:=p2 ce;obtain⟨hve,htot,hok,hl4,-⟩:=JB ce;have hkp:=m5.kp;have hw0:=m5.w0.next;have hm2:=m2.next;obtain⟨sn,rfl⟩:∃n:Nat,s=(n:Int):=⟨s.toNat,by omega⟩;have hi:=Nat.mod_lt sn (show 0<k by omega);obtain⟨now,hnow⟩:∃now,now=max t 0:=⟨_,rfl⟩;have hn0:0<=now:=by omega
 have hsE:jX ((sn % k:Nat):Int) k now=0:=by unfold jX;rw[if_neg (by omega),if_neg (by omega)]
 have hsE0:jX ((sn % k:Nat):Int) k 0=0:=by unfold jX;rw[if_neg (by omega),if_neg (by omega)]
 have gvV:∀U,Le W2 U->U.get W.next=some (.cells [.int .i64 v.sh,.int .i64 v.ttl,.int .i64 v.ses,sv]):=λU hU=>(hU.get _ (by omega)).trans gv
 have gaV:∀U,Le W2 U->U.get W1.next=some (.cells [.int .u8 (sn:Int),.int .i64 t]):=λU hU=>(hU.get _ (by omega)).trans g2
 have a0:aN (.pointer (some ⟨W1.next,0,none⟩)) V0=some (.int .u8 (sn:Int),V0):=gY (bW (gaV V0 m3)) rfl;have a1:aN (.pointer (some ⟨W1.next,1,none⟩)) V0=some (.int .i64 t,V0):=gY (bW (gaV V0 m3)) rfl;have v0:∀U,Le W2 U->aN (.pointer (some ⟨W.next,0,none⟩)) U=some (.int .i64 (k:Int),U):=λU hU=>by rw[<-m4];exact gY (bW (gvV U hU)) rfl
 have cv:=λW'=>a0m (n:=(sn:Int)) (by omega) (by omega) W'
 have mx:=λW'=>a17 t 0 W'
 rw[<-hnow]at mx;obtain⟨u1,V1,d,b1,b2,b3,-,b5⟩:=GU m5 ((sn % k:Nat):Int) now;have hd:=b5 hsE;rw[hsE]at b1;have mS:=m5.shift b2;obtain⟨u2,V2,d2,c1,c2,c3,-,c5,c6⟩:=MF mS ((sn % k:Nat):Int) now (by omega);have hd2:=c5 hsE;have hdd:d2=d:=QV hd2 hd;subst hdd;rw[hsE]at c1;have hu1:HoL V2 u1 d2:=HoL.gr b3 c2 λb q1 q2 q3=>by rcases q3 with q3|q3<;>omega
 have gW2:Le W0 V2:=c6.w0;obtain⟨u3,V3,d3,f1,f2,f3,-,f5⟩:=GU c6 ((sn % k:Nat):Int) now;have hd3:=f5 hsE;have hd3':d3=[]:=SN hd2 hok hn0 hd3;subst hd3';rw[hsE]at f1;obtain⟨x,g1,gx1,gx2⟩:=RV (c6.le f2) ((sn % k:Nat):Int);have l03:Le W0 V3:=gW2.trans f2;obtain⟨V4,V5,h1',h2',h3',h4',h5'⟩:=a0A V3 x;have hnx:QQ (dW l now d2) k ((sn % k:Nat):Int)=0->decide (x.2<=now)=false:=λhx=>decide_eq_false (VG hd2 hok hn0 (gx2 hx))
 have hdl:d2.length<=10000:=by have q1:=hd2.2.length_eq;have q2:=List.length_filter_le (fC now) (bP l (j4 k ((sn % k:Nat):Int).toNat));have q3:=oR l (j4 k ((sn % k:Nat):Int).toNat);omega
 have ff:=OZ ((hu1.mono f2).mono h3') (((c3.mono f2)).mono h3') hdl;rw[decide_eq_true (rfl:d2=d2)]at ff;have f3r:=f3.row;have lz:∀W',aD Tryz.prog .len #[32] 3 #[false] [u3] W'=some (.int .i64 0,W'):=λW'=>f3r.len qK W' 3 #[false]
 have t0:decide ((0:Int)=0)=true:=rfl;have x1:=gY (o:=1) (bW h5') rfl;have hrl:∀U,Le W2 U->SeL U rv l:=λU hU=>hr2.mono hU
 have lW5:Le W2 V5:=m2.trans (l03.trans h3');have l6:Le V5 (V5.add (.cells [])):=(Le.refl _).add _;have n6:(V5.add (.cells [])).next=V5.next+1:=AW.add_next _ _;obtain⟨w,V7,w1,w2,w3⟩:=IS (W:=V5.add (.cells [])) a0E dV H3 (hrl _ (lW5.trans l6)) (λ_ _ _=>TQ) (by omega) (by omega) (b:=V5.next) (by omega);have w3':BlS V5.next V7 w l:=w3;have lV7:Le V5 V7:=l6.trans w2;have m7:=((c6.le f2).le h3').shift lV7;have key:∀(Rx:PlanTab.Fr) {K:LT->Option (Value×AW)},Rx 1=rv->Rx 3=.pointer (some ⟨W.next,0,none⟩)->Rx 7=mV M->Rx 9=.int .i64 ((sn % k:Nat):Int)->Rx 10=.int .i64 now->Rx 11=u1->Rx 18=w->Rx 19=.int .i64 0->
  (∀(R':PlanTab.Fr) (U:AW),R' 3=.pointer (some ⟨W.next,0,none⟩)->R' 7=mV M->R' 9=.int .i64 ((sn % k:Nat):Int)->R' 10=.int .i64 now->R' 18=w->Le W2 U->SeL U w (dW l now d2)->(∃K',MapS K' U M k l.length v W0 20001 (dW l now d2))->Ok (K (X.exit 0,R',U)) λr=>r.1=.bool true/\Le W r.2)->
  Ok (a8 (bZ (cS aK) Rx V7) K) λr=>r.1=.bool true/\Le W r.2:=by
  intro Rx K r1 r3 r7 r9 r10 r11 r18 r19 hk;have hlt:V5.next<=V7.next:=lV7.next;have row5:∀U:AW,V7.next<=U.next->(∀b,b<V5.next->U.get b=V7.get b)->Le V5 U:=λU q1 q2=>⟨by omega,λb hb=>(q2 b hb).trans (lV7.get b hb)⟩
  refine GO (W:=W) (V:=V7) (r1:=0) (sv:=sv) (lo:=V5.next) (rv:=rv) (lv:=u1) (wv:=w) (p:=j4 k (sn % k)) (d:=d2) (now:=now) (by omega) (λU hU=>hrl U ((lW5.trans lV7).trans hU)) (λU q1 q2=>((hu1.mono f2).mono h3').mono (row5 U q1 q2)) hlt (λU q1 q2=>hrl U (lW5.trans (row5 U q1 q2))) w3' hd2 hdl hok hn0 r1 r10 r11 r18 r19 λR' U q3 q7 q9 q10 q18 z1 z2 z3=>?_
  have h5U:=row5 U z1 z2;refine hk R' U (q3.trans r3) (q7.trans r7) (q9.trans r9) q10 q18 (lW5.trans h5U) z3.row ⟨_,((((c6.le f2).le h3').shift h5U).grow (N':=20001) (by omega))⟩
 have ok18:∀W',aK (.func (.func 16) #[] #[]) [] W'=some (.bool true,W'):=tN;have hd2':gO (bP l (j4 k (sn % k))) now d2:=hd2;have rest:∀(Rx:PlanTab.Fr) (U:AW),Rx 3=.pointer (some ⟨W.next,0,none⟩)->Rx 7=mV M->Rx 10=.int .i64 now->Rx 18=w->Rx 21=.int .i64 ((sn % k:Nat):Int)->Le W2 U->SeL U w (dW l now d2)->(∃K',MapS K' U M k l.length v W0 20001 (dW l now d2))->∀{K:LT->Option (Value×AW)} {G:Value×AW->Prop},
  (∀(R':PlanTab.Fr) (us:Value) (Us:AW),R' 7=mV M->R' 18=w->aK (.func (.func 26) #[] #[]) [mV M] U=some (us,Us)->aK (.func (.func 25) #[] #[]) [us,w] Us=some (.bool true,Us)->Le W Us->Ok (K (X.exit 2,R',U)) G)->
  Ok (a8 (bZ (cR aK) Rx U) K) G:=by
  intro Rx U r3 r7 r10 r18 r21 lU hwU ⟨K',hM'⟩ K G hk;refine FV (b0:=W.next) (k:=k) (i:=sn % k) (by omega) hi (by omega) hwU hd2' hok hn0 (v0 U lU) r3 r10 r18 r21 λR' s7 s18=>?_
  obtain⟨us,Us,e1,e2,e3⟩:=RA hM';have sm:=Y2 e3 (hwU.mono e2) (by rw[fJ];omega);rw[decide_eq_true (rfl:dW l now d2=dW l now d2)]at sm;exact hk R' us Us (s7.trans r7) s18 e1 sm (lW.trans (lU.trans e2))
 cases hc:decide (QQ (dW l now d2) k ((sn % k:Nat):Int)=0)with
 |true=>
  have hx2:=hnx (of_decide_eq_true hc);simp only[SX,E7,E0,vO gv,hf,m1,t0,a0,cv,v0 V0 m3,IT sn k (by omega),a1,mx,eJ,sB,Bool.and_self,Bool.and_true,b1,c1,f1,g1,h1',h2',lz,ff,hc,x1,hx2,YV,w1,Nat.zero_add];refine key _ rfl rfl rfl rfl rfl rfl rfl rfl λR' U q3 q7 q9 q10 q18 lU hwU hMU=>?_
  simp only[SX,q9];refine rest _ U ?_ ?_ ?_ ?_ ?_ lU hwU hMU λR'' us Us s7 s18 e1 e2 e3=>?_
  ·exact q3
  ·exact q7
  ·exact q10
  ·exact q18
  ·rfl
  simp only[SX,E7,E0,s7,s18,e1,e2,ok18,aA];exact⟨trivial,e3⟩
 |false=>
  simp only[SX,E7,E0,vO gv,hf,m1,t0,a0,cv,v0 V0 m3,IT sn k (by omega),a1,mx,eJ,sB,Bool.and_self,Bool.and_true,b1,c1,f1,g1,h1',h2',lz,ff,hc,YV,w1,Nat.zero_add];refine key _ rfl rfl rfl rfl rfl rfl rfl rfl λR' U q3 q7 q9 q10 q18 lU hwU hMU=>?_
  simp only[SX,q9];refine rest _ U ?_ ?_ ?_ ?_ ?_ lU hwU hMU λR'' us Us s7 s18 e1 e2 e3=>?_
  ·exact q3
  ·exact q7
  ·exact q10
  ·exact q18
  ·rfl
  simp only[SX,E7,E0,s7,s18,e1,e2,ok18,aA];exact⟨trivial,e3⟩
end Go.Proofs.YtnigceddndemkaaGreatDoor.Ho
