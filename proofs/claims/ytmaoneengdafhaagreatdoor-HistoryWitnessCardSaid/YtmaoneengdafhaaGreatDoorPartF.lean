/- A part: contracts and laws. -/
import Derived.Test.YtmaoneengdafhaaGreatDoorPartE
set_option linter.unusedVariables false
set_option linter.unusedSectionVars false
set_option linter.defProp false
noncomputable section
open Go renaming Value->ad,undef->ak
set_option maxRecDepth 100000
namespace Go.Proofs.YtmaoneengdafhaaGreatDoor
open Go Go.Eng
section
variable {W0 W V:AW} {x:cS} {sv sq qq:ad}
def aao{R:ai.Fr}{U:AW}{qb d n:Nat}{v1 v2:ad}{K:LT->Option (ad×AW)}{G:ad×AW->Prop}{qs:List (List Int)}(hn:qs.length=n)(hn2:n<=10000)(hq:Qf U qq qs)(hqn:qb=U.next)(hl:∀l∈qs,l.length<=10000)(hd:d<U.next)
 (r1:R 1=v1)(r2:R 2=v2)(r3:R 3=oa qb n)(r15:R 15=qq)(r16:R 16=.ae (n:Int))(r17:R 17=.ae 0)
 (hK:∀R' V bq,R' 1=v1->R' 2=v2->R' 3=oa qb n->Le U V->qb<V.next->QsX V qb bq qs->(∀k,bq k=d\/(qb<bq k/\bq k<V.next))->Ok (K (.exit 0,R',V)) G):Ok (eY (fV (mV aY) R (U.add (.cells (List.replicate n (.slice none 0 0))))) K) G:=by
 subst hqn
 refine a8 n (by omega) (λk R V=>Le U V/\U.next<V.next/\R 1=v1/\R 2=v2/\R 3=oa U.next n/\R 15=qq/\R 16=.ae (n:Int)/\R 17=.ae (k:Int)/\
  ∃qv bq,V.get U.next=some (.cells qv)/\qv.length=n/\(∀j (h:j<qs.length),j<k->∃u,qv[j]? =some u/\QX V u qs[j] (bq j))/\(∀i j (h:i<qs.length) (h':j<qs.length),i<j->j<k->qs[i]≠[]->qs[j]≠[]->bq i<bq j)/\(∀j,bq j=d\/(U.next<bq j/\bq j<V.next)))
  (λr=>r.1=.exit 0/\r.2.1 1=v1/\r.2.1 2=v2/\r.2.1 3=oa U.next n/\Le U r.2.2/\U.next<r.2.2.next/\∃bq,QsX r.2.2 U.next bq qs/\∀j,bq j=d\/(U.next<bq j/\bq j<r.2.2.next))
  ⟨(Le.refl _).add _,by rw[AW.av];omega,r1,r2,r3,r15,r16,r17,_,λ_=>d,AW.aL _ _,mh,λj _ h=>absurd h (by omega),λi j _ _ _ h=>absurd h (by omega),λj=>.inl rfl⟩ ?_ ?_ ?_
 ·rintro k R V hk ⟨aM,Mi,r1,r2,r3,r15,r16,r17,qv,bq,q1,q2,q3,q4,q5⟩;unfold mV;have hkq:k<qs.length:=by omega
  have t1:decide ((k:Int)<(n:Int))=true:=cd;have t2:=λW'=>bc W' k 1
  have e3:((k+1:Nat):Int)=(k:Int)+1:=by omega
  obtain⟨b,i,u,g1,g2,g3,g4⟩:=hq.get hkq;have lu:=g4 V (aM.get _ g2);obtain⟨u',V2,c1,c2,c3⟩:=ad6 (g3.keep aM) (hl _ (cG _));have NM:k<qv.length:=by omega
  have q1':V2.get U.next=some (.cells qv):=(c2.get _ Mi).trans q1;have one:Eng.one u'=true:=by rcases c3 with⟨-,rfl|⟨a,rfl⟩⟩|⟨-,B,-,-,rfl,-⟩<;>rfl
  have sq:fm 1 (.pointer (some ⟨U.next,k,none⟩)) u' V2=some (ak,V2.put U.next (.cells (qv.set k u'))):=by rcases c3 with⟨-,rfl|⟨a,rfl⟩⟩|⟨-,B,-,-,rfl,-⟩<;>rw[jh,cT q1',bM,an NM]
  simp only[SX,r3,r15,r16,r17,t1,g1,lu,c1,ixQ hk,sq,t2,af];have Wz:∀b,b≠U.next->(V2.put U.next (.cells (qv.set k u'))).get b=V2.get b:=λb hb=>AW.ay _ _ (bh hb)
  refine .inl ⟨aj,(aM.trans c2).put (aR _) _,by rw[AW.bH];have:=c2.next;omega,r1,r2,r3,r15,r16,by rw[e3];rfl,?_⟩;obtain⟨B,hB⟩:∃B,(qs[k]=[]/\B=d)\/(qs[k]≠[]/\V.next<=B/\B<V2.next/\u'=.slice (some ⟨B,0,none⟩) qs[k].length (eJ+1)/\V2.get B=some (.cells (qs[k].map (Value.int .u32)))):=by
   rcases c3 with⟨h,-⟩|⟨h,B,b1,b2,b3,b4⟩
   ·exact⟨d,.inl ⟨h,rfl⟩⟩
   ·exact⟨B,.inr ⟨h,b1,b2,b3,by rw[b4,oX]⟩⟩
  refine⟨_,λj=>if j=k then B else bq j,AW.aW _ _ _,by simp[q2],λj hj Z4=>?_,λi j hi hj hij Z4 n1 n2=>?_,λj=>?_⟩
  ·by_cases N1:k=j
   ·subst N1;refine⟨u',y6 NM,?_⟩;simp only[bi];rcases hB with⟨h,e⟩|⟨h,b1,b2,b3,b4⟩
    ·rcases c3 with⟨h',e'⟩|⟨h',-⟩
     ·exact .inl ⟨h',e'⟩
     ·exact absurd h h'
    ·exact .inr ⟨h,by rw[AW.bH];exact b2,b3,(Wz _ (by omega)).trans b4⟩
   ·obtain⟨w,w1,w2⟩:=q3 j hj (by omega);refine⟨w,by rw[Ah N1];exact w1,?_⟩;simp only[aq (bh N1)];rcases w2.mono c2 with w2|⟨w3,w4,w5,w6⟩
    ·exact .inl w2
    ·refine .inr ⟨w3,by rw[AW.bH];exact w4,w5,(Wz _ ?_).trans w6⟩;rcases q5 j with e|e<;>omega
  ·have hik:i≠k:=by omega
   simp only[aq hik];by_cases N1:j=k
   ·subst N1;simp only[bi];rcases hB with⟨h,-⟩|⟨h,b1,-,-,-⟩
    ·exact absurd h n2
    ·obtain⟨w,w1,w2⟩:=q3 i hi hij;rcases w2 with⟨w2,-⟩|⟨w3,w4,w5,w6⟩
     ·exact absurd w2 n1
     ·omega
   ·simp only[aq N1];exact q4 i j hi hj hij (by omega) n1 n2
  ·rw[AW.bH];by_cases N1:j=k
   ·simp only[N1,bi];rcases hB with⟨-,e⟩|⟨h,b1,b2,-,-⟩
    ·exact .inl e
    ·exact .inr ⟨by omega,b2⟩
   ·simp only[aq N1];have:=c2.next;rcases q5 j with e|e
    ·exact .inl e
    ·exact .inr (by omega)
 ·rintro R V ⟨aM,Mi,r1,r2,r3,r15,r16,r17,qv,bq,q1,q2,q3,q4,q5⟩;unfold mV;have t1:decide ((n:Int)<(n:Int))=false:=bS;simp only[SX,r16,r17,t1,af];refine⟨by simp,aj,r1,r2,r3,aM,Mi,bq,⟨qv,q1,by omega,λk hk=>q3 k hk (by omega),λi j hi hj hij n1 n2=>?_⟩,q5⟩;rcases qf i j with h|h
  ·have:=q4 i j hi hj h (by omega) n1 n2;omega
  ·have:=q4 j i hj hi (by omega) (by omega) n2 n1;omega
 ·rintro⟨e,R,V⟩ ⟨rfl,a1,a2,a3,a4,a5,bq,a6,a7⟩;exact hK R V bq a1 a2 a3 a4 a5 a6 a7
def ZP(hs:Qb W sq x.st)(hq:Qf W qq x.qs)(hsv:Eng.one sv=true)(h0:x.st≠[])(hn:x.st.length<=10000)(hqn:x.qs.length<=10000)(hl:∀l∈x.qs,l.length<=10000):
 ∃V sb qb bq,aY (.func (.func 100) #[] #[]) [ky x sv sq qq] W=some (ky x sv (fI sb x.st.length) (oa qb x.qs.length),V)/\Cop W V sb qb bq x:=by
 have hq':Ok (xJ aY (ky x sv sq qq) W) λr=>∃sb qb bq,r.1=ky x sv (fI sb x.st.length) (oa qb x.qs.length)/\Cop W r.2 sb qb bq x:=by
  unfold xJ;obtain⟨V,hV⟩:∃V,V=(W.add (.cells (eT x sv sq qq))).add (.cells [.ae 0,.ae 0,.ae 0,.slice none 0 0,.ae 0,.slice none 0 0,.slice none 0 0]):=⟨_,rfl⟩;have aM:Le W V:=by rw[hV];exact((Le.refl W).add _).add _
  have g1:V.get W.next=some (.cells (eT x sv sq qq)):=by rw[hV];exact(AW.aG _ _ (by rw[AW.av];omega)).trans (AW.aL _ _)
  have g2:V.get (W.next+1)=some (.cells [.ae 0,.ae 0,.ae 0,.slice none 0 0,.ae 0,.slice none 0 0,.slice none 0 0]):=by rw[hV,<-AW.av W (.cells (eT x sv sq qq))];exact AW.aL _ _
  have nV:V.next=W.next+2:=by rw[hV];rfl
  simp only[SX,nO,AW.av];rw[<-hV];clear hV;have l5:bu (.pointer (some ⟨W.next,5,none⟩)) V=some (sq,V):=aP (ao g1) rfl;obtain⟨u,V2,c1,c2,c3⟩:=aeV (hs.keep aM) hn;rcases c3 with⟨h,-⟩|⟨-,sb,b1,b2,rfl,b4⟩
  ·exact absurd h h0
  have g1':V2.get W.next=some (.cells (eT x sv sq qq)):=(c2.get _ (by omega)).trans g1;have s5:fm 1 (.pointer (some ⟨W.next,5,none⟩)) (fI sb x.st.length) V2=some (ak,V2.put W.next (.cells (eT x sv (fI sb x.st.length) qq))):=by rw[jh,cT g1'];rfl
  simp only[SX,aI,l5,c1,s5];obtain⟨V3,A0⟩:∃V3,V3=V2.put W.next (.cells (eT x sv (fI sb x.st.length) qq)):=⟨_,rfl⟩;have g3:V3.get W.next=some (.cells (eT x sv (fI sb x.st.length) qq)):=by rw[A0];exact AW.aW _ _ _
  have o3:∀b,b≠W.next->V3.get b=V2.get b:=λb hb=>by rw[A0];exact AW.ay _ _ (bh hb)
  have n3:V3.next=V2.next:=by rw[A0];rfl
  have BU:Le W V3:=by rw[A0];exact(aM.trans c2).put (aR _) _
  rw[<-A0];clear A0;have l6:bu (.pointer (some ⟨W.next,6,none⟩)) V3=some (qq,V3):=aP (ao g3) rfl;have c2n:=c2.next;have aaG:∀W',aZ Tryz.prog .len #[32] 3 #[false] [qq] W'=some (.ae (x.qs.length:Int),W'):=λW'=>(hq.len Ab) W' _ _
  have l6':∀W',W'.get W.next=V3.get W.next->bu (.pointer (some ⟨W.next,6,none⟩)) W'=some (qq,W'):=λW' h=>aP (ao (h.trans g3)) rfl
  simp only[SX,l6,aaG,aos hqn,l6' _ (AW.aG V3 _ (show V3.next≠W.next by omega))];refine aao (U:=V3) (qb:=V3.next) (d:=W.next) (n:=x.qs.length) (v1:=ba W.next) (v2:=ba (W.next+1)) rfl hqn (hq.mono BU) rfl hl (by omega) rfl rfl rfl rfl rfl rfl ?_;intro R' V4 bq q1 q2 q3 q4 q5 q6 q7;have g4:V4.get W.next=some (.cells (eT x sv (fI sb x.st.length) qq)):=(q4.get _ (by omega)).trans g3;have s6:fm 1 (.pointer (some ⟨W.next,6,none⟩)) (oa V3.next x.qs.length) V4=some (ak,V4.put W.next (.cells (eT x sv (fI sb x.st.length) (oa V3.next x.qs.length)))):=by rw[jh,cT g4];rfl
  have l7:dF 7 (ba W.next) (V4.put W.next (.cells (eT x sv (fI sb x.st.length) (oa V3.next x.qs.length))))=some (ky x sv (fI sb x.st.length) (oa V3.next x.qs.length),V4.put W.next (.cells (eT x sv (fI sb x.st.length) (oa V3.next x.qs.length)))):=
   bz (ao (AW.aW _ _ _)) rfl
  have g5:(V4.put W.next (.cells (eT x sv (fI sb x.st.length) (oa V3.next x.qs.length)))).get (W.next+1)=some (.cells [.ae 0,.ae 0,.ae 0,.slice none 0 0,.ae 0,.slice none 0 0,.slice none 0 0]):=
   (AW.ay _ _ (by omega)).trans ((q4.get _ (by omega)).trans ((o3 _ (by omega)).trans ((c2.get _ (by omega)).trans g2)))
  have s7:=gU (W:=V4.put W.next (.cells (eT x sv (fI sb x.st.length) (oa V3.next x.qs.length)))) (vs:=(eT x sv (fI sb x.st.length) (oa V3.next x.qs.length)).toArray) g5 (n:=7) rfl rfl (by simp[dz,hsv,cI,cJ]);obtain⟨V5,Ms⟩:∃V5,V5=(V4.put W.next (.cells (eT x sv (fI sb x.st.length) (oa V3.next x.qs.length)))).put (W.next+1) (.cells (eT x sv (fI sb x.st.length) (oa V3.next x.qs.length))):=⟨_,rfl⟩;have l8:dF 7 (ba (W.next+1)) V5=some (ky x sv (fI sb x.st.length) (oa V3.next x.qs.length),V5):=by rw[Ms];exact bz (ao (AW.aW _ _ _)) rfl
  have o5:∀b,b≠W.next->b≠W.next+1->V5.get b=V4.get b:=λb h1 h2=>by rw[Ms];exact(AW.ay _ _ (bh h2)).trans (AW.ay _ _ (bh h1))
  have n5:V5.next=V4.next:=by rw[Ms];rfl
  have Q1:fm 7 (ba (W.next+1)) (ky x sv (fI sb x.st.length) (oa V3.next x.qs.length)) (V4.put W.next (.cells (eT x sv (fI sb x.st.length) (oa V3.next x.qs.length))))=some (ak,V5):=by rw[Ms];exact s7
  simp only[SX,q1,q2,q3,s6,l7,Q1,rT,EG,l8,bM,af];have q4n:=q4.next;refine⟨sb,V3.next,bq,rfl,⟨⟨by omega,λb hb=>(o5 b (by omega) (by omega)).trans ((q4.get _ (by omega)).trans (BU.get b hb))⟩,by omega,?_,?_,λk=>?_⟩⟩
  ·exact(o5 _ (by omega) (by omega)).trans ((q4.get _ (by omega)).trans ((o3 _ (by omega)).trans b4))
  ·obtain⟨qv,y1,y2,y3,y4⟩:=q6;refine⟨qv,(o5 _ (by omega) (by omega)).trans y1,y2,λk hk=>?_,y4⟩;obtain⟨w,w1,w2⟩:=y3 k hk;refine⟨w,w1,?_⟩;rcases w2 with w2|⟨w3,w4,w5,w6⟩
   ·exact .inl w2
   ·refine .inr ⟨w3,by omega,w5,(o5 _ ?_ ?_).trans w6⟩
    ·intro e;rw[e,g4]at w6;injection w6 with w6;injection w6 with w6;cases hq2:x.qs[k]with
     |nil=>exact w3 hq2
     |cons a t=>rw[hq2]at w6;simp at w6
    ·rcases q7 k with e|e<;>omega
  ·rcases q7 k with e|e<;>omega
 obtain⟨⟨v,V⟩,h1,sb,qb,bq,rfl,h2⟩:=hq';refine⟨V,sb,qb,bq,?_,h2⟩;rw[Ia h1,jx (by simp[bN,eI,cC])]
end
abbrev xE(r:RunT):List ad:=[.ae r.row,.ae r.fi,.ae r.ma]
abbrev rnV(r:RunT):ad:=.agg #[.ae r.row,.ae r.fi,.ae r.ma]
def xS(r:RunT):(xE r).length=3:=rfl
def Xc(r:RunT):(xE r).all Eng.one=true:=rfl
def blC(b:Bool):List ad:=[.bool b]
def IR(b:Bool):(blC b).length=1:=rfl
abbrev OV(W:AW)(v:ad)(l:List Bool):Prop:=Rd W 1 blC v l
def OV.get{W:AW}{v:ad}{l:List Bool}(h:OV W v l){i:Nat}(hi:i<l.length):∃b o,(∀W' k,nY 1 v (.int k (i:Int)) W'=some (.pointer (some ⟨b,o,none⟩),W'))/\b<W.next/\∀W',W'.get b=W.get b->bu (.pointer (some ⟨b,o,none⟩)) W'=some (.bool l[i],W'):=by obtain⟨b,o,cs,h1,h2,h3,h4⟩:=(Gy IR h).elem hi;exact⟨b,o,h1,h2,λW' hg=>aP (by unfold aH at h3|-;rw[hg];exact h3) ((ga h4 (j:=0) (by omega)).trans rfl)⟩
def ai0:mL Tryz.prog #[219,219] 3 24=true:=by kernel_rfl
def adh(r:RunT)(W:AW):cX Tryz.prog 219 1 [(0,rnV r)] W=some (.slice (some ⟨W.next,0,none⟩) 1 1,W.add (.cells (xE r))):=aT (by kernel_rfl) rfl
def aaD(a b:Int)(W:AW):fd Tryz.prog 222 [(0,.ae a),(1,.ae b)] W=some (rnV ⟨a,b,0⟩,W):=aT (by kernel_rfl) rfl
def aiw(W:AW):dg Tryz.prog 222 W=some (ba W.next,W.add (.cells (xE ⟨0,0,0⟩))):=aT (by kernel_rfl) rfl
def ale{W:AW}{b:Nat}{r0:RunT}(h:W.get b=some (.cells (xE r0)))(r:RunT):fm 3 (ba b) (rnV r) W=some (ak,W.put b (.cells (xE r))):=gU (vs:=(xE r).toArray) h rfl rfl rfl
def BK(W1 V:AW)(rb:Nat)(out:ad)(l:List RunT)(r:RunT):Prop:=Le W1 V/\W1.next<=rb/\rb<V.next/\V.get rb=some (.cells (xE r))/\∃bo,g9 V 3 xE out l bo/\∀B,bo=some B->W1.next<=B/\B≠rb
def BK.put{W1 V:AW}{rb:Nat}{out:ad}{l:List RunT}{r:RunT}(h:BK W1 V rb out l r)(r':RunT):BK W1 (V.put rb (.cells (xE r'))) rb out l r':=by obtain⟨h1,h2,h3,h4,bo,h5,h6⟩:=h;exact⟨h1.put h2 _,h2,h3,AW.aW _ _ _,bo,h5.keep (aR _) λB hB=>AW.ay _ _ (bh (h6 B hB).2),h6⟩
def BK.push{W1 V:AW}{rb:Nat}{out:ad}{l:List RunT}{r:RunT}(h:BK W1 V rb out l r)(hl:l.length<=100000):∃pT V',dB Tryz.prog (V.add (.cells (xE r))) #[219,219] out (.slice (some ⟨V.next,0,none⟩) 1 1)=some (pT,V')/\BK W1 V' rb pT (l++[r]) r:=by
 obtain⟨h1,h2,h3,h4,bo,h5,h6⟩:=h;have h5':=h5.keep (W':=V.add (.cells (xE r))) (by rw[AW.av];omega) λB hB=>AW.aG _ _ (by have:=h5.lt hB;omega)
 obtain⟨pT,V',k1,k2,k3,k4⟩:=h5'.push ai0 xS Xc (b:=V.next) (c:=1) bC (by omega) (by omega);refine⟨pT,V',k1,⟨by rw[k3,AW.av];have:=h1.next;omega,λb hb=>?_⟩,h2,by rw[k3,AW.av];omega,?_,_,k2,λB hB=>?_⟩
 ·have:=h1.next;exact(k4 b (by rw[AW.av];omega) (λe=>by have:=(h6 b e).1;omega)).trans ((AW.aG _ _ (by omega)).trans (h1.get b hb))
 ·exact(k4 rb (by rw[AW.av];omega) (λe=>(h6 rb e).2 rfl)).trans ((AW.aG _ _ (by omega)).trans h4)
 ·injection hB with hB;rw[AW.av]at hB;have:=h1.next;exact⟨by omega,by omega⟩
def Oa{r:Int}:∀(l:List Bool) (s c m:Int),(t7 r s l c m).length<=l.length+1
 |[],s,c,m=>by simp only[t7];split<;>simp
 |true::l,s,c,m=>by simp only[t7,cP];have:=Oa (r:=r) l (s+1) c (m+1);omega
 |false::l,s,c,m=>by simp only[t7,cD,cP];have:=Oa (r:=r) l (s+1) (s+1) 0;split<;>simp<;>omega
def U0{R:ai.Fr}{W1 U:AW}{fv aet v3 v27 v28 v29:ad}{free:List Bool}{rb f m:Nat}{row:Int}{l0:List RunT}{K:LT->Option LT}{G:LT->Prop}(hf:OV W1 fv free)(hm:m<=10000)(hfm:f+m<=free.length)(wO:free.length<=10000)(SE:l0.length<=50000)
 (hI:BK W1 U rb aet l0 ⟨row,f,0⟩)(r1:R 1=fv)(r7:R 7=aet)(r8:R 8=.ae (f:Int))(nZ:R 11=.ae row)(tU:R 12=.ae (m:Int))(IY:R 13=ba rb)(Vf:R 14=.ae (f:Int))(r3:R 3=v3)(Y5:R 27=v27)(Xr:R 28=v28)(XC:R 29=v29)
 (hK:∀R' V out,R' 1=fv->R' 7=out->R' 8=.ae (f:Int)->R' 12=.ae (m:Int)->R' 3=v3->R' 27=v27->R' 28=v28->R' 29=v29->(∃r,BK W1 V rb out (l0++t7 row f (uQ free f m) f 0) r)->Ok (K (.exit 2,R',V)) G):
 Ok (eY (fV (iR aY) R U) K) G:=by
 have FH:(uQ free f m).length=m:=by unfold uQ;rw[cR,mr];omega
 refine a8 (m+1) (by omega) (λj R V=>R 1=fv/\R 8=.ae (f:Int)/\R 11=.ae row/\R 12=.ae (m:Int)/\R 13=ba rb/\R 14=.ae ((f+j:Nat):Int)/\R 3=v3/\R 27=v27/\R 28=v28/\R 29=v29/\
  ∃l c k,BK W1 V rb (R 7) l ⟨row,c,k⟩/\0<=k/\k<=j/\l.length<=50000+j/\(j<=m->l++t7 row (f+j) ((uQ free f m).drop j) c k=l0++t7 row f (uQ free f m) f 0)/\(m<j->l=l0++t7 row f (uQ free f m) f 0))
  (λr=>r.1=.exit 2/\r.2.1 1=fv/\r.2.1 8=.ae (f:Int)/\r.2.1 12=.ae (m:Int)/\r.2.1 3=v3/\r.2.1 27=v27/\r.2.1 28=v28/\r.2.1 29=v29/\∃x,BK W1 r.2.2 rb (r.2.1 7) (l0++t7 row f (uQ free f m) f 0) x)
  ⟨r1,r8,nZ,tU,IY,by rw[Vf];rfl,r3,Y5,Xr,XC,l0,f,0,by rw[r7];exact hI,by omega,by omega,by omega,λ_=>by simp,λh=>by omega⟩ ?_ ?_ ?_
 ·rintro j R V hj ⟨r1,r8,nZ,tU,IY,Vf,r3,Y5,Xr,XC,l,c,k,hI,k0,kj,Yg,e1,-⟩;unfold iR;have e1:=e1 (by omega);have Ux:=hI;obtain⟨i1,i2,i3,i4,bo,i5,i6⟩:=hI;have a1:=λW'=>fh W' f m
  have a2:=λW'=>bc W' ((f+j:Nat):Int) 1
  have a3:=λW'=>bc W' k 1
  have d1:decide (((f+j:Nat):Int)<=(f:Int)+m)=true:=cd;have l2:bu (.pointer (some ⟨rb,2,none⟩)) V=some (.ae k,V):=aP (ao i4) rfl;have e14:((f+j:Nat):Int)+1=((f+(j+1):Nat):Int):=by omega
  have tail:∀(l':List RunT) (JR:Nat->ad) (V':AW) (r':RunT),BK W1 V' rb (JR 7) l' r'->l'.length<=50000+(j+1)->JR 1=fv->JR 8=.ae (f:Int)->JR 11=.ae row->JR 12=.ae (m:Int)->JR 13=ba rb->JR 3=v3->JR 27=v27->JR 28=v28->JR 29=v29->
   (j+1<=m->l'++t7 row (f+(j+1:Nat)) ((uQ free f m).drop (j+1)) (f+(j+1:Nat)) 0=l0++t7 row f (uQ free f m) f 0)->(m<j+1->l'=l0++t7 row f (uQ free f m) f 0)->
   Ok (gy aY JR (.ae row) (ba rb) (.ae ((f+j:Nat):Int)) V') λr=>(r.1=.normal/\(r.2.1 1=fv/\r.2.1 8=.ae (f:Int)/\r.2.1 11=.ae row/\r.2.1 12=.ae (m:Int)/\r.2.1 13=ba rb/\r.2.1 14=.ae ((f+(j+1):Nat):Int)/\r.2.1 3=v3/\r.2.1 27=v27/\r.2.1 28=v28/\r.2.1 29=v29/\
    ∃l c k,BK W1 r.2.2 rb (r.2.1 7) l ⟨row,c,k⟩/\0<=k/\k<=((j+1:Nat):Int)/\l.length<=50000+(j+1)/\(j+1<=m->l++t7 row (f+(j+1:Nat)) ((uQ free f m).drop (j+1)) c k=l0++t7 row f (uQ free f m) f 0)/\(m<j+1->l=l0++t7 row f (uQ free f m) f 0)))\/(r.1≠ .normal/\(r.1=.exit 2/\r.2.1 1=fv/\r.2.1 8=.ae (f:Int)/\r.2.1 12=.ae (m:Int)/\r.2.1 3=v3/\r.2.1 27=v27/\r.2.1 28=v28/\r.2.1 29=v29/\∃x,BK W1 r.2.2 rb (r.2.1 7) (l0++t7 row f (uQ free f m) f 0) x)):=by
   intro l' JR V' r' hR Cy j1 j8 j11 j12 j13 j3 j27 j28 j29 h1 h2;unfold gy;simp only[SX,a2,aaD,ale hR.2.2.2.1,af];refine .inl ⟨aj,j1,j8,j11,j12,j13,by rw[<-e14];rfl,j3,j27,j28,j29,l',((f+j:Nat):Int)+1,0,hR.put _,by omega,by omega,Cy,λh=>?_,h2⟩;rw[<-h1 h];congr 2<;>omega
  by_cases cj:j<m
  ·have d2:decide (((f+j:Nat):Int)<(f:Int)+m)=true:=cd;obtain⟨b,o,g1,g2,g3⟩:=hf.get (i:=f+j) (by omega);have ld:=g3 V (i1.get _ g2);have hd:(uQ free f m).drop j=free[f+j]'(by omega)::(uQ free f m).drop (j+1):=by rw[ri (by omega)];congr 1;unfold uQ;rw[List.getElem_take,List.getElem_drop]
   rw[hd]at e1;cases hb:free[f+j]'(by omega)
   ·rw[hb]at e1 ld;simp only[t7]at e1;by_cases c0:0<k
    ·rw[an c0]at e1;have d3:=aK c0;obtain⟨pT,V',p1,p2⟩:=Ux.push (by omega);have la:dF 3 (ba rb) V=some (rnV ⟨row,c,k⟩,V):=bz (ao i4) rfl;simp only[SX,r1,r8,nZ,tU,IY,Vf,aI,a1,d1,d2,g1,ld,l2,d3,la,adh,p1];exact tail _ _ _ _ p2 (by simp;omega) r1 r8 nZ tU IY r3 Y5 Xr XC (λh=>by rw[<-e1,iK];congr 3<;>omega) (λh=>by omega)
    ·rw[aq c0]at e1;have d3:=aJ c0;simp only[SX,r1,r8,nZ,tU,IY,Vf,aI,a1,d1,d2,g1,ld,l2,d3];exact tail _ _ _ _ Ux (by omega) r1 r8 nZ tU IY r3 Y5 Xr XC (λh=>by rw[<-e1,jG];congr 2<;>omega) (λh=>by omega)
   ·rw[hb]at e1 ld;simp only[t7]at e1;have s2:fm 1 (.pointer (some ⟨rb,2,none⟩)) (.ae (k+1)) V=some (ak,V.put rb (.cells (xE ⟨row,c,k+1⟩))):=by rw[xq,cT i4];rfl
    simp only[SX,r1,r8,nZ,tU,IY,Vf,aI,a1,a2,a3,d1,d2,g1,ld,l2,s2,af];refine .inl ⟨aj,r1,r8,nZ,tU,IY,by rw[<-e14];rfl,r3,Y5,Xr,XC,l,c,k+1,Ux.put _,by omega,by omega,by omega,λh=>?_,λh=>by omega⟩;rw[<-e1];congr 2<;>omega
  ·obtain rfl:j=m:=by omega
   have d2:decide (((f+j:Nat):Int)<(f:Int)+j)=false:=bS;rw[wR (by omega)]at e1;simp only[t7]at e1;by_cases c0:0<k
   ·rw[an c0]at e1;have d3:=aK c0;obtain⟨pT,V',p1,p2⟩:=Ux.push (by omega);have la:dF 3 (ba rb) V=some (rnV ⟨row,c,k⟩,V):=bz (ao i4) rfl;simp only[SX,r1,r8,nZ,tU,IY,Vf,aI,a1,d1,d2,l2,d3,la,adh,p1];exact tail _ _ _ _ p2 (by simp;omega) r1 r8 nZ tU IY r3 Y5 Xr XC (λh=>by omega) (λh=>e1)
   ·rw[aq c0,fp]at e1;have d3:=aJ c0;simp only[SX,r1,r8,nZ,tU,IY,Vf,aI,a1,d1,d2,l2,d3];exact tail _ _ _ _ Ux (by omega) r1 r8 nZ tU IY r3 Y5 Xr XC (λh=>by omega) (λh=>e1)
 ·rintro R V ⟨r1,r8,nZ,tU,IY,Vf,r3,Y5,Xr,XC,l,c,k,hI,k0,kj,Yg,-,e2⟩;unfold iR;have a1:=λW'=>fh W' f m
  have d1:decide (((f+(m+1):Nat):Int)<=(f:Int)+m)=false:=bS;simp only[SX,r8,tU,Vf,a1,d1,af];rw[e2 (by omega)]at hI;exact⟨by simp,aj,r1,r8,tU,r3,Y5,Xr,XC,_,hI⟩
 ·rintro⟨e,R,V⟩ ⟨rfl,h1,h2,h3,h4,h5,h6,h7,h8⟩;exact hK R V _ h1 rfl h2 h3 h4 h5 h6 h7 h8
def vZ(v:ge)(k:Nat):List Nat:=((v.ax[k]?).map (·.rows)).getD []|>.map Int.toNat
def CZ(v:ge)(k:Nat):Nat:=(bG (v.ax.take k)).toNat
def dA(v:ge)(k:Nat)(free:List Bool):List RunT:=rm free 0 (CZ v k) (vZ v k)
def fD(l:List Nat):Nat:=l.foldr (· + ·) 0
def FF(l:List Bool):∀(ms:List Nat) (r f m:Nat),rm l r f (ms++[m])=rm l r f ms++t7 ((r+ms.length:Nat):Int) ((f+fD ms:Nat):Int) (uQ l (f+fD ms) m) ((f+fD ms:Nat):Int) 0
 |[],r,f,m=>by simp[rm,fD]
 |a::ms,r,f,m=>by simp only[pb,rm];rw[FF l ms (r+1) (f+a) m,iK];have e:fD (a::ms)=a+fD ms:=rfl;rw[e,cP,show r+1+ms.length=r+(ms.length+1)by omega,gV f a]
def Jc{l:List mZ}{i k:Nat}{rows:List Int}{r:iq}(h:r∈sL l i rows k):r.sec=i:=by unfold sL at h;obtain⟨j,-,rfl⟩:=mB.1 h;rfl
def CQ{l:List mZ}(i:Nat):∀{n:Nat},n<=l.length->(qw l n).filter (gS (i:Int))=if h:i<n then sL l i (l.getD i ⟨[],[],0⟩).rows (l.getD i ⟨[],[],0⟩).rows.length else []
 |0,_=>by simp[qw]
 |n+1,hn=>by
  have LK:n<l.length:=by omega
  rw[nD l LK,vz,CQ i (by omega)];by_cases h:i<n
  ·rw[ph h,ph (by omega)];rw[Ez.2,fp];intro x hx;have h1:=Jc hx;simp only[gS,iA];omega
  ·rw[dif_neg h,jG];by_cases h2:i=n
   ·subst h2;rw[ph (by omega),List.filter_eq_self.2,pi,bJ LK,oL];intro x hx;have h1:=Jc hx;simp only[gS,iA];omega
   ·rw[dif_neg (by omega),Ez.2];intro x hx;have h1:=Jc hx;simp only[gS,iA];omega
def CB:∀(l:List Int),(∀n∈l,1<=n)->(fD (l.map Int.toNat):Int)=hZ l
 |[],_=>rfl
 |a::l,h=>by have ih:=CB l (λn hn=>h n (by simp[hn]));have h1:=h a (by simp);have e:fD ((a::l).map Int.toNat)=a.toNat+fD (l.map Int.toNat):=rfl;have e2:hZ (a::l)=a+hZ l:=rfl;omega
def Lr{l:List mZ}{k:Nat}(hk:k<l.length):bG (l.take (k+1))=bG (l.take k)+hZ l[k].rows:=by unfold bG;rw[iY hk,qX,mc,mY,SU]
def BZ{v:ge}(he:(dn v).2=0){k:Nat}(hk:k<v.ax.length):(ofE v k).1=(CZ v k:Int)/\vZ v k=v.ax[k].rows.map Int.toNat/\(∀n∈v.ax[k].rows,1<=n/\n<=64)/\v.ax[k].rows.length<=16/\(CZ v k:Int)+hZ v.ax[k].rows<=bG v.ax/\bG v.ax<=4096/\0<=hZ v.ax[k].rows/\0<hZ v.ax[k].rows:=by
 obtain⟨hg,-,-,hb,ht,-⟩:=cF he;obtain⟨r1,r2,r3⟩:=hg.rows _ (cG hk);have fe:v.ax[k].rows≠[]:=by intro e;rw[e]at r1;simp at r1
 have hms:vZ v k=v.ax[k].rows.map Int.toNat:=by unfold vZ;rw[bJ hk];rfl
 have ath:dV (sL v.ax k v.ax[k].rows v.ax[k].rows.length)=hZ v.ax[k].rows:=by rw[Dt _ _ _ (aR _),cO]
 have hN:=CB v.ax[k].rows (λn hn=>(r3 n hn).1);have t8:0<hZ v.ax[k].rows:=by
  cases hr:v.ax[k].rows with
  |nil=>exact absurd hr fe
  |cons a t=>rw[hr]at r3 hN;have:=(r3 a (by simp)).1;have e:fD ((a::t).map Int.toNat)=a.toNat+fD (t.map Int.toNat):=rfl;omega
 have mono:∀{a b:Nat},a<=b->b<=v.ax.length->bG (v.ax.take a)<=bG (v.ax.take b):=by
  intro a b hab hb;induction b with
  |zero=>obtain rfl:a=0:=by omega
         exact rQ _
  |succ b ih=>
   by_cases e:a=b+1
   ·subst e;exact rQ _
   ·have h1:=ih (by omega) (by omega);have h2:=Lr (l:=v.ax) (k:=b) (by omega);obtain⟨-,-,r3'⟩:=hg.rows _ (cG (show b<v.ax.length by omega));have h3:=CB v.ax[b].rows (λn hn=>(r3' n hn).1);omega
 have h0:0<=bG (v.ax.take k):=by have:=mono (qg k) (by omega);rwa [tj]at this
 have hf:(CZ v k:Int)=bG (v.ax.take k):=by unfold CZ;omega
 have aM:=mono (a:=k+1) (b:=v.ax.length) (by omega) (aR _);rw[Lr hk,cO]at aM;have VT:(eZ v.ax).filter (gS (k:Int))=sL v.ax k v.ax[k].rows v.ax[k].rows.length:=by unfold eZ;rw[CQ k (aR _),ph hk,pi,bJ hk,oL]
 have EC:(ofE v k).1=bG (v.ax.take k):=by
  unfold ofE;rw[an he,VT,ath,bL];show Q4 (sL v.ax k v.ax[k].rows v.ax[k].rows.length)=_;cases hr:v.ax[k].rows with
  |nil=>exact absurd hr fe
  |cons a t=>unfold sL;rw[cP,List.range_succ_eq_map,mc];simp[Q4,hZ]
 exact⟨by rw[EC,hf],hms,r3,r2,by omega,ht,by omega,t8⟩
def qY(W1 V:AW)(out:ad)(l:List RunT):Prop:=Le W1 V/\∃bo,g9 V 3 xE out l bo/\∀B,bo=some B->W1.next<=B
def BK.o{W1 V:AW}{rb:Nat}{out:ad}{l:List RunT}{r:RunT}(h:BK W1 V rb out l r):qY W1 V out l:=⟨h.1,let⟨bo,h5,h6⟩:=h.2.2.2.2;⟨bo,h5,λB hB=>(h6 B hB).1⟩⟩
def qY.box{W1 V:AW}{out:ad}{l:List RunT}(h:qY W1 V out l)(r:RunT):BK W1 (V.add (.cells (xE r))) V.next out l r:=by obtain⟨h1,bo,h2,h3⟩:=h;refine⟨h1.add _,h1.next,by rw[AW.av];omega,AW.aL _ _,bo,h2.keep (by rw[AW.av];omega) λB hB=>AW.aG _ _ (by have:=h2.lt hB;omega),λB hB=>⟨h3 B hB,by have:=h2.lt hB;omega⟩⟩
abbrev ZU(W:AW)(v:ad)(l:List RunT):Prop:=Rd W 3 xE v l
def Ad(l:List Bool):∀(ms:List Nat) (r f:Nat),(∀m∈ms,m<=64)->(rm l r f ms).length<=65*ms.length
 |[],r,f,_=>by simp[rm]
 |m::t,r,f,h=>by simp only[rm,cD,cP];have h1:=Oa (r:=r) (uQ l f m) f f 0;have h2:=Tz l f m;have h3:=h m (by simp);have h4:=Ad l t (r+1) (f+m) (λm hm=>h m (by simp[hm]));omega
def afO{W:AW}{v:ge}{sv fv:ad}{free:List Bool}{k:Nat}(hs:fC W sv v.ax)(he:(dn v).2=0)(hv:v.ax.length<1000)(hk:k<v.ax.length)(hf:OV W fv free)(wO:(free.length:Int)=bG v.ax):
 ∃u W',aY (.func (.func 192) #[] #[]) [fH v sv,fv,.ae (k:Int)] W=some (u,W')/\Le W W'/\ZU W' u (dA v k free):=by
 refine Hm (Q:=λu W'=>Le W W'/\ZU W' u (dA v k free)) ?_ F7 λu W' hq _ hp=>⟨Le.refl _,?_⟩
 case refine_2=>
  obtain⟨a,c,rfl,h⟩:=hq.2;rcases h with h|⟨b,o,cs,rfl,-⟩
  ·exact⟨a,c,rfl,.inl h⟩
  ·cases hp
 unfold Cr;obtain⟨s1,s2,s3,s4,s5,s6,s7,s8⟩:=BZ he hk;obtain⟨W1,hB,aM,hn,c4,c0,c3⟩:=jC v sv W;obtain⟨b,i,rv,g1,g2,-,-,g4,-⟩:=ig.get hs.1 hk;have EC:=apA (W:=W1) (sec:=(k:Int)) (hs.mono aM) hv;simp only[SX,hB,aI,c4 _ (Le.refl _),EC,c3 _ (Le.refl _),g1,g4 _ aM,g2.len NJ];have abl:dA v k free=rm free 0 (CZ v k) ((vZ v k).take v.ax[k].rows.length):=by unfold dA;rw[ou (by rw[s2,fj];exact aR _)]
 rw[s1];have hW1:=aM;have aj7:∀j,j<=v.ax[k].rows.length->((CZ v k+fD ((vZ v k).take j):Nat):Int)<=free.length:=λj hj=>by
  have e:fD ((vZ v k).take j)<=fD (vZ v k):=by
   have:∀(l:List Nat) (j:Nat),fD (l.take j)<=fD l:=by
    intro l;induction l with
    |nil=>intro j;simp
    |cons a l ih=>
     intro j;cases j with
     |zero=>simp[fD]
     |succ j=>have:=ih j;have e1:fD ((a::l).take (j+1))=a+fD (l.take j):=rfl;have e2:fD (a::l)=a+fD l:=rfl;omega
   exact this _ _
  have e2:=CB v.ax[k].rows (λn hn=>(s3 n hn).1);rw[<-s2]at e2;omega
 refine a8 v.ax[k].rows.length (by omega) (λj R V=>R 1=fv/\R 3=ba W.next/\R 8=.ae ((CZ v k+fD ((vZ v k).take j):Nat):Int)/\R 27=rv/\R 28=.ae (v.ax[k].rows.length:Int)/\R 29=.ae (j:Int)/\qY W1 V (R 7) (rm free 0 (CZ v k) ((vZ v k).take j)))
  (λr=>r.1=.exit 0/\qY W1 r.2.2 (r.2.1 7) (dA v k free)) ⟨rfl,rfl,rfl,rfl,rfl,rfl,⟨Le.refl _,none,.inl ⟨rfl,rfl,rfl⟩,λB hB=>by cases hB⟩⟩ ?_ ?_ ?_
 ·rintro j R V hj ⟨r1,r3,r8,Y5,Xr,XC,hO⟩;unfold pK;obtain⟨p,p1,p2⟩:=g2.get hj;have t1:decide ((j:Int)<(v.ax[k].rows.length:Int))=true:=cd;have t2:=λW'=>bc W' j 1
  have e3:((j+1:Nat):Int)=(j:Int)+1:=by omega
  have hr:=s3 _ (cG hj);have hm:(v.ax[k].rows[j]:Int)=((v.ax[k].rows[j].toNat:Nat):Int):=by omega
  have hjm:j<(vZ v k).length:=by rw[s2,fj];exact hj
  have emj:(vZ v k)[j]=v.ax[k].rows[j].toNat:=by simp[s2]
  have Lp:(vZ v k).take (j+1)=(vZ v k).take j++[v.ax[k].rows[j].toNat]:=by rw[iY hjm,emj]
  have esn:∀(l:List Nat) (m:Nat),fD (l++[m])=fD l+m:=by
   intro l m;induction l with
   |nil=>simp[fD]
   |cons a l ih=>have e1:fD (a::l++[m])=a+fD (l++[m]):=rfl;have e2:fD (a::l)=a+fD l:=rfl;omega
  have iN:=hO.1;have asr:=hO.box ⟨(j:Int),((CZ v k+fD ((vZ v k).take j):Nat):Int),0⟩;have WO:fm 3 (ba V.next) (rnV ⟨(j:Int),((CZ v k+fD ((vZ v k).take j):Nat):Int),0⟩) (V.add (.cells (xE ⟨0,0,0⟩)))=some (ak,V.add (.cells (xE ⟨(j:Int),((CZ v k+fD ((vZ v k).take j):Nat):Int),0⟩))):=by rw[ale (AW.aL _ _),jy]
  simp only[SX,r8,Y5,Xr,XC,t1,p1,p2 _ (aM.trans iN),aaD,aiw,WO];have wN:=aj7 (j+1) hj;rw[Lp,esn]at wN;refine U0 (W1:=W1) (fv:=fv) (v3:=ba W.next) (v27:=rv) (v28:=.ae (v.ax[k].rows.length:Int)) (v29:=.ae (j:Int)) (free:=free) (rb:=V.next) (f:=CZ v k+fD ((vZ v k).take j)) (m:=v.ax[k].rows[j].toNat) (row:=(j:Int)) (hf.keep aM) (by omega) (by omega) (by omega) (by
   have h1:=Ad free ((vZ v k).take j) 0 (CZ v k) (λm hm=>by have:=DT hm;rw[s2]at this;obtain⟨n,hn,rfl⟩:=mB.1 this;have:=(s3 n hn).2;omega);have h2:((vZ v k).take j).length<=j:=by rw[cR];omega
   omega) asr r1 rfl r8 rfl (by rw[<-hm];rfl) rfl (by rw[<-r8];rfl) r3 Y5 Xr XC ?_;intro R' V' out q1 q7 q8 q12 q3 q27 q28 q29 ⟨r,hI⟩;have t3:=λW'=>fh W' ((CZ v k+fD ((vZ v k).take j):Nat):Int) ((v.ax[k].rows[j].toNat:Nat):Int)
  simp only[SX,q8,q12,q29,t3,t2,af];refine .inl ⟨aj,q1,q3,?_,q27,q28,by rw[e3];rfl,?_⟩
  ·rw[Lp,esn];show Value.int .i64 _=Value.int .i64 _;congr 1;omega
  ·show qY W1 V' (R' 7) _;rw[q7,Lp,FF,cR,oN (by omega),aI];exact hI.o
 ·rintro R V ⟨r1,r3,r8,Y5,Xr,XC,hO⟩;unfold pK;have t1:decide ((v.ax[k].rows.length:Int)<(v.ax[k].rows.length:Int))=false:=bS;simp only[SX,Xr,XC,t1,af];rw[<-abl]at hO;exact⟨by simp,aj,hO⟩
 ·rintro⟨e,R,V⟩ ⟨rfl,h1,bo,h2,h3⟩;simp only[SX,af];exact⟨aM.trans h1,(h2.ik.el).rd xS⟩
def StE(lo:Nat)(V:AW)(tb mb:Nat)(v:ge)(sv ev:ad)(s:TL):Prop:=∃ov pv bo bp,V.get tb=some (.cells (Xw v sv ev ov pv))/\g9 V 25 gf ov s.ops bo/\g9 V 1 jc pv s.Hb bp/\(∀B,bo=some B->lo<=B/\bp≠some B)/\(∀B,bp=some B->lo<=B)/\xn V mb (λt=>(s.busy t).map (.ae ·)) s.CA
def auq{W:AW}{mb n:Nat}{m:Int->Option ad}(h:xn W mb m n)(k:Int):∃W',aZ Tryz.prog .delete #[112,3] 0 #[false,false] [.map (some mb),.ae k] W=some (.tuple #[],W')/\xn W' mb (λx=>if x=k then none else m x) (if(m k).isSome then n-1 else n)/\W'.next=W.next/\∀b,b≠mb->W'.get b=W.get b:=by obtain⟨es,c,d1,d2⟩:=abE h aeI ty3 [3] k;refine⟨_,?_,d2,AW.bH _ _ _,λb hb=>AW.ay _ _ (bh hb)⟩;show(uA Tryz.prog W #[112,3] (.map (some mb)) (.ae k)).map _=_;have:(#[112,3]:Array TypeId)=(112::[3]).toArray:=rfl;rw[this,d1];rfl
def atK{W:AW}{mb n:Nat}{m:Int->Option ad}(h:xn W mb m n)(k:Int)(v:ad):∃W',jF Tryz.prog 112 (.map (some mb)) (.ae k) v W=some (ak,W')/\xn W' mb (λx=>if x=k then some v else m x) (if(m k).isSome then n else n+1)/\W'.next=W.next/\∀b,b≠mb->W'.get b=W.get b:=by obtain⟨es,c,d1,d2⟩:=Qo h aeI ty3 k v;exact⟨_,d1,d2,AW.bH _ _ _,λb hb=>AW.ay _ _ (bh hb)⟩
section
variable {W V:AW} {v:ge} {sv ev:ad} {l:List gD} {tb mb i:Nat} {s:TL} {x:gD} {R:Nat->ad}
abbrev RdR(R:Nat->ad)(ev:ad)(n tb mb i:Nat):Prop:=R 32=ev/\R 33=.ae (n:Int)/\R 34=.ae (i:Int)/\R 7=.pointer (some ⟨tb,0,none⟩)/\R 8=.map (some mb)
abbrev RdQ(W:AW)(lo:Nat)(v:ge)(sv ev:ad)(l:List gD)(tb mb:Nat)(r:LT):Prop:=
 Le W r.2.2/\((r.1=.exit 0/\mb<r.2.2.next/\r.2.1 7=.pointer (some ⟨tb,0,none⟩)/\∃s,yo l l.length s/\StE lo r.2.2 tb mb v sv ev s)\/(r.1=.ret/\∃(k:Nat) (s:TL) (x:gD),yo l k s/\l[k]? =some x/\dD s x≠0/\r.2.1 2=.pointer none/\r.2.1 3=.ae (k:Int)/\r.2.1 4=.ae (dD s x)))
open Classical in
def ZF(hG:GW W)(aM:Le W V)(hev:QF W ev l)(hl:l.length<=400)(hW:W.next<=tb)(htm:tb<mb)(zB:mb<V.next)(hs:yo l i s)(hx:l[i]? =some x)(hR:RdR R ev l.length tb mb i)(hS:StE (mb+1) V tb mb v sv ev s):
 Ok (m9 aY R V) λr=>(r.1=.normal/\Le W r.2.2/\mb<r.2.2.next/\RdR r.2.1 ev l.length tb mb (i+1)/\∃s,yo l (i+1) s/\StE (mb+1) r.2.2 tb mb v sv ev s)\/(r.1≠ .normal/\RdQ W (mb+1) v sv ev l tb mb r):=by
 obtain⟨r32,r33,r34,r7,r8⟩:=hR;obtain⟨hi,hxe⟩:=da.1 hx;have h1:=hev.mono aM;unfold m9;obtain⟨b,o,i1,i2,i3⟩:=QF.get h1 hi;obtain⟨fa,-⟩:=i3 V rfl;rw[hxe]at fa;obtain⟨V1,V2,a1,a2,l2,n2,x2⟩:=aa1 x V;have I:=hs.inv;have t1:((i:Int)<(l.length:Int)):=by omega
 have t2:=λW'=>bc W' i 1
 have e3:((i+1:Nat):Int)=(i:Int)+1:=by omega
 have iN:=aM.trans l2;have LJ:=CF x2;have LM:=rq x2;have aul:s.CA<1000->True:=λ_=>trivial
 have bad:∀{e:Int} {R':Nat->ad},dD s x=e->e≠0->R' 2=.pointer none->R' 3=.ae (i:Int)->R' 4=.ae e->RdQ W (mb+1) v sv ev l tb mb (.ret,R',V2):=λhe h0 q2 q3 q4=>⟨iN,.inr ⟨rfl,i,s,x,hs,hx,by rw[he];exact h0,q2,q3,by rw[he];exact q4⟩⟩
 by_cases c1:x.th<1
 ·have e7:dD s x=7:=by unfold dD;rw[an (.inl c1)]
  simp only[↓PX,SX,r32,r33,r34,t1,i1,fa,a1,a2,aI,LJ,c1,af];exact .inr ⟨by simp,bad e7 (by decide) rfl rfl rfl⟩
 by_cases c2:64<x.th
 ·have e7:dD s x=7:=by unfold dD;rw[an (.inr c2)]
  simp only[↓PX,SX,r32,r33,r34,t1,i1,fa,a1,a2,aI,LJ,c1,c2,af];exact .inr ⟨by simp,bad e7 (by decide) rfl rfl rfl⟩
 have cc:¬(x.th<1\/64<x.th):=by omega
 simp only[↓PX,SX,r32,r33,r34,t1,i1,fa,a1,a2,aI,LJ,c1,c2];obtain⟨ov,pv,bo,bp,z1,z2,z3,s4,s5,z6⟩:=hS;have s1:=(l2.get tb (by omega)).trans z1;have s2:g9 V2 25 gf ov s.ops bo:=z2.keep (by omega) λB hB=>l2.get B (z2.lt hB)
 have s3:g9 V2 1 jc pv s.Hb bp:=z3.keep (by omega) λB hB=>l2.get B (z3.lt hB)
 have s6:=z6.keep (l2.get mb zB);have mg:=Yh s6 aeI ty3 tz3 x.th;cases hr:x.ret with
 |true=>
  have oG:=Bj x2;rw[hr]at oG;cases hb:s.busy x.th with
  |none=>
   have e6:dD s x=6:=by unfold dD;rw[aq cc,an hr,aq (by rw[hb];simp)]
   rw[hb]at mg;simp only[Option.map_none,Option.getD_none,vg]at mg;simp only[SX,r7,r8,LJ,mg,oG,af];exact .inr ⟨by simp,bad e6 (by decide) rfl rfl rfl⟩
  |some id'=>
   rw[hb]at mg;simp only[dq,oL,A7]at mg;by_cases d1:id'=x.id;case neg=>
    have e6:dD s x=6:=by unfold dD;rw[aq cc,an hr,aq (λh=>d1 (by have:=hb.symm.trans h.1;injection this))]
    have d1':decide (id'=x.id)=false:=aJ d1;simp only[SX,r7,r8,LJ,mg,oG,LM,d1',af];exact .inr ⟨by simp,bad e6 (by decide) rfl rfl rfl⟩
   subst d1;have d1':decide (x.id=x.id)=true:=aK rfl;have nq:=ah6 x.op ZT false false V2;by_cases d2:x.op=ZT;case neg=>
    rw[aJ d2]at nq;have e6:dD s x=6:=by unfold dD;rw[aq cc,an hr,aq (λh=>d2 h.2)]
    simp only[SX,r7,r8,LJ,mg,oG,LM,pF x2,WW,nq,af];exact .inr ⟨by simp,bad e6 (by decide) rfl rfl rfl⟩
   rw[aK d2]at nq;have he:dD s x=0:=by unfold dD;rw[aq cc,an hr,an ⟨hb,d2⟩]
   obtain⟨j,o0,g0,gid,gth,gto⟩:=(I.bsy _ _).1 hb;have hj:=(da.1 g0).1;have vO:=I.opk;have t3:∀W',bO Tryz.prog .sub 3 false true (.ae x.id) (.ae 1) W'=some (.ae (j:Int),W'):=λW'=>by rw[tG (by omega) (by omega),show x.id-1=(j:Int)by omega]
   have bpt:bp≠some tb:=λe=>by have:=s5 tb e;omega
   obtain⟨V3,m1,m2,m3,m4⟩:=auq s6 x.th;simp only[hb,dq,A7,bi]at m2;have x3:V3.get V.next=some (.cells (O8 x)):=(m4 _ (by omega)).trans x2;have u1:=(m4 tb (by omega)).trans s1;have u2:g9 V3 25 gf ov s.ops bo:=s2.keep (by omega) λB hB=>m4 B (by have:=(s4 B hB).1;omega)
   have u3:g9 V3 1 jc pv s.Hb bp:=s3.keep (by omega) λB hB=>m4 B (by have:=s5 B hB;omega)
   have c53:bu (.pointer (some ⟨tb,5,none⟩)) V3=some (ov,V3):=BI u1 rfl;obtain⟨B,cs,hbo,hB,ix,st1,st2,st3⟩:=amH u2 g0 (i:Int) x.rp;have hBm:=(s4 B hbo).1;have hBp:=(s4 B hbo).2;have hBv:=z2.lt hbo;obtain⟨V4,y1,x4,V5,y2,n5,WJ,v2⟩:∃V4,fm 1 (.pointer (some ⟨B,j*25+3,none⟩)) (.ae (i:Int)) V3=some (ak,V4)/\V4.get V.next=some (.cells (O8 x))/\∃V5,fm 9 (.pointer (some ⟨B,j*25+16,none⟩)) (fX x.rp) V4=some (ak,V5)/\V5.next=V3.next/\(∀b,b≠B->V5.get b=V3.get b)/\g9 V5 25 gf ov (s.ops.set j {o0 with to:=(i:Int),rp:=x.rp}) bo:=
    ⟨_,st1 V3 rfl,(AW.ay _ _ (by omega)).trans x3,_,st2 _ (AW.aW _ _ _),rfl,λb hb=>(AW.ay _ _ (bh hb)).trans (AW.ay _ _ (bh hb)),st3 _ (aR _) (AW.aW _ _ _)⟩
   have v1:=(WJ tb (by omega)).trans u1;have v3:g9 V5 1 jc pv s.Hb bp:=u3.keep (by omega) λb hb=>WJ b (λe=>hBp (e▸hb))
   have vm:=m2.keep (WJ mb (by omega));obtain⟨pv',U3,U4,w1,w2,w3,w4,w5,w6⟩:=QW v1 v3 bpt (by omega) (by rw[I.opl];omega) ((s.CA-1:Nat):Int);have g6:bu (.pointer (some ⟨tb,6,none⟩)) V5=some (pv,V5):=BI v1 rfl;have ml:=S1 vm acM 3 #[false];simp only[SX,r7,r8,aI,LJ,mg,oG,aS,LM,pF x2,WW,nq,m1,c53,t3,ix,zQ x3,y1,zQ x4,cV,wo x.rp,oz,y2,g6,ml,acD,w1,w2,t2,af];have ug:yh s i x=⟨s.ops.set j {o0 with to:=(i:Int),rp:=x.rp},s.Hb++[((s.CA-1:Nat):Int)],λt=>if t=x.th then none else s.busy t,s.CA-1⟩:=by unfold yh abP;rw[an hr,show(x.id-1).toNat=j by omega,g0]
   refine .inl ⟨aj,⟨by have:=iN.next;omega,λb hb=>?_⟩,by omega,⟨r32,r33,by rw[e3];rfl,r7,r8⟩,yh s i x,.succ hs hx he,?_⟩
   ·have h4:=iN.next;rw[w6 b (by omega) (by omega) λe=>by have:=s5 b e;omega,WJ b (by omega),m4 b (by omega)];exact iN.get b hb
   ·rw[ug];refine⟨ov,pv',bo,_,w3,v2.keep (by omega) λb hb=>w6 b (v2.lt hb) (by have:=(s4 b hb).1;omega) (s4 b hb).2,w4,λb hb=>⟨(s4 b hb).1,λe=>by have:=v2.lt hb;injection e with e;omega⟩,λb hb=>by injection hb with hb;omega,?_⟩;have:=vm.keep (w6 mb (by omega) (by omega) (λe=>by have:=s5 mb e;omega));have hf:(λy=>if y=x.th then none else(s.busy y).map (Value.int .i64 ·))=λt=>(if t=x.th then none else s.busy t).map (Value.int .i64 ·):=by
     funext t;by_cases e:t=x.th
     ·rw[an e,an e];rfl
     ·rw[aq e,aq e]
    rw[hf]at this;exact this
 |false=>
  have oG:=Bj x2;rw[hr]at oG;cases hb:s.busy x.th with
  |some id'=>
   have e6:dD s x=6:=by unfold dD;rw[aq cc,aq (by rw[hr];simp),an (.inl (by rw[hb];rfl))]
   rw[hb]at mg;simp only[dq,oL,A7]at mg;simp only[SX,r7,r8,LJ,mg,oG,af];exact .inr ⟨by simp,bad e6 (by decide) rfl rfl rfl⟩
  |none=>
   rw[hb]at mg;simp only[Option.map_none,Option.getD_none,vg]at mg;have c5:bu (.pointer (some ⟨tb,5,none⟩)) V2=some (ov,V2):=BI s1 rfl;have ho:G9 V2 ov s.ops:=s2.ik.row kB (A2 kB);have vO:=I.opk;have t3:=λW'=>bc W' (s.ops.length:Int) 1
   have e6:(x.id≠(s.ops.length:Int)+1\/x.rp≠gz\/zZ x.op≠0)->dD s x=6:=λh=>by unfold dD;rw[aq cc,aq (by rw[hr];simp),an (.inr h)]
   have hG2:=hG.mono iN;have bt:bo≠some tb:=λe=>by have:=(s4 tb e).1;omega
   have bpt:bp≠some tb:=λe=>by have:=s5 tb e;omega
   have nq:=Nr x.rp gz false false V2;by_cases d1:x.id=(s.ops.length:Int)+1;case neg=>have d1':decide (x.id=(s.ops.length:Int)+1)=false:=aJ d1;simp only[SX,r7,r8,aI,LJ,mg,oG,aS,LM,c5,ho.len MU,t3,d1',af];exact .inr ⟨by simp,bad (e6 (.inl d1)) (by decide) rfl rfl rfl⟩
   have d1':decide (x.id=(s.ops.length:Int)+1)=true:=aK d1;by_cases d2:x.rp=gz;case neg=>rw[aJ d2]at nq;simp only[SX,r7,r8,aI,LJ,mg,oG,aS,LM,c5,ho.len MU,t3,d1',zQ x2,Nf,nq,af];exact .inr ⟨by simp,bad (e6 (.inr (.inl d2))) (by decide) rfl rfl rfl⟩
   rw[aK d2]at nq;by_cases d3:zZ x.op=0;case neg=>have d3':decide (zZ x.op=0)=false:=aJ d3;simp only[SX,r7,r8,aI,LJ,mg,oG,aS,LM,c5,ho.len MU,t3,d1',zQ x2,Nf,nq,pF x2,Nj x.op hG2,d3',af];exact .inr ⟨by simp,bad (e6 (.inr (.inr d3))) (by decide) rfl rfl rfl⟩
   have d3':decide (zZ x.op=0)=true:=aK d3;have he:dD s x=0:=by unfold dD;rw[aq cc,aq (by rw[hr];simp),aq (by simp[hb,d1,d2,d3])]
   obtain⟨V3,m1,m2,m3,m4⟩:=atK s6 x.th (.ae x.id);simp only[hb,Option.map_none,vg,gY,b9]at m2;have x3:V3.get V.next=some (.cells (O8 x)):=(m4 _ (by omega)).trans x2;have u1:=(m4 tb (by omega)).trans s1;have u2:g9 V3 25 gf ov s.ops bo:=s2.keep (by omega) λB hB=>m4 B (by have:=(s4 B hB).1;omega)
   have u3:g9 V3 1 jc pv s.Hb bp:=s3.keep (by omega) λB hB=>m4 B (by have:=s5 B hB;omega)
   have c53:bu (.pointer (some ⟨tb,5,none⟩)) V3=some (ov,V3):=BI u1 rfl;obtain⟨n,hn⟩:∃n:kU,n=⟨x.id,x.th,(i:Int),-1,x.op,gz⟩:=⟨_,rfl⟩;have b0:=λW=>ah7 x.id x.th (i:Int) (-1) x.op W
   rw[<-hn]at b0;obtain⟨ov',U1,U2,p1,p2,p3,p4,p5,p6⟩:=ago u1 u2 bt (by omega) (by omega) n;have q3:g9 U2 1 jc pv s.Hb bp:=u3.keep (by omega) λB hB=>p6 B (u3.lt hB) (by have:=s5 B hB;omega) (λe=>(s4 B e).2 hB)
   have qm:=m2.keep (p6 mb (by omega) (by omega) (λe=>by have:=(s4 mb e).1;omega));obtain⟨pv',U3,U4,w1,w2,w3,w4,w5,w6⟩:=QW p3 q3 bpt (by omega) (by rw[I.opl];omega) ((s.CA+1:Nat):Int);have g6:bu (.pointer (some ⟨tb,6,none⟩)) U2=some (pv,U2):=BI p3 rfl;have ml:=S1 qm acM 3 #[false];simp only[SX,r7,r8,aI,LJ,mg,oG,aS,LM,c5,ho.len MU,t3,d1',zQ x2,Nf,nq,pF x2,Nj x.op hG2,d3',m1,c53,rq x3,CF x3,pF x3,b0,ajB,p1,p2,g6,ml,acD,w1,w2,t2,af];have ug:yh s i x=⟨s.ops++[n],s.Hb++[((s.CA+1:Nat):Int)],λt=>if t=x.th then some x.id else s.busy t,s.CA+1⟩:=by unfold yh;rw[aq (by rw[hr];simp),hn]
   refine .inl ⟨aj,⟨by have:=iN.next;omega,λb hb=>?_⟩,by omega,⟨r32,r33,by rw[e3];rfl,r7,r8⟩,yh s i x,.succ hs hx he,?_⟩
   ·have h4:=iN.next;rw[w6 b (by omega) (by omega) λe=>by have:=s5 b e;omega,p6 b (by omega) (by omega) λe=>by have:=(s4 b e).1;omega,m4 b (by omega)];exact iN.get b hb
   ·rw[ug];refine⟨ov',pv',_,_,w3,p4.keep (by omega) λB hB=>w6 B (p4.lt hB) (by injection hB with hB;omega) (λe=>by injection hB with hB;have:=u3.lt e;omega),w4,λB hB=>⟨by injection hB with hB;omega,λe=>by injection hB with hB;injection e with e;omega⟩,λB hB=>by injection hB with hB;omega,?_⟩;have:=qm.keep (w6 mb (by omega) (by omega) (λe=>by have:=s5 mb e;omega));have hf:(λy=>if y=x.th then some (Value.int .i64 x.id)else(s.busy y).map (.ae ·))=λt=>(if t=x.th then some x.id else s.busy t).map (.ae ·):=by
     funext t;by_cases e:t=x.th
     ·rw[an e,an e];rfl
     ·rw[aq e,aq e]
    rw[hf]at this;exact this
end
def RdA(W:AW)(v:ge)(sv ev:ad)(l:List gD)(q:ad)(W':AW):Prop:=∃(a e:Int) (p:ad),LI (dn v).2 l a e/\q=.tuple #[p,.ae a,.ae e]/\Le W W'/\
 ((e≠0/\p=.pointer none)\/(e=0/\∃(s:TL) (tb:Nat) (ov pv:ad),yo l l.length s/\p=.pointer (some ⟨tb,0,none⟩)/\W.next<=tb/\tb<W'.next/\W'.get tb=some (.cells (Xw v sv ev ov pv))/\G9 W' ov s.ops/\dR W' pv s.Hb))
def af1{W:AW}{v:ge}{sv ev:ad}{l:List gD}(hG:GW W)(h:HiA W v sv ev l):∃q W',aY (.func (.func 22) #[] #[]) [KY v sv ev] W=some (q,W')/\RdA W v sv ev l q W':=by
 have jL:Ok (wS aY (KY v sv ev) W) λr=>RdA W v sv ev l r.1 r.2:=by
  unfold wS;have aM:Le W (W.add (.cells [.ae v.sh,.ae v.cL,.ae v.eO,sv,ev])):=(Le.refl W).add _;have hc:aH (W.add (.cells [.ae v.sh,.ae v.cL,.ae v.eO,sv,ev])) W.next=some [.ae v.sh,.ae v.cL,.ae v.eO,sv,ev]:=bC;have hg:(W.add (.cells [.ae v.sh,.ae v.cL,.ae v.eO,sv,ev])).get W.next=some (.cells [.ae v.sh,.ae v.cL,.ae v.eO,sv,ev]):=AW.aL _ _;have hn1:(W.add (.cells [.ae v.sh,.ae v.cL,.ae v.eO,sv,ev])).next=W.next+1:=AW.av _ _;simp only[SX,aI];generalize W.add (.cells [.ae v.sh,.ae v.cL,.ae v.eO,sv,ev])=W1 at *;have h1:=h.mono aM;have c4:bu (.pointer (some ⟨W.next,4,none⟩)) W1=some (ev,W1):=aP hc rfl;have cA:dF 4 (.pointer (some ⟨W.next,0,none⟩)) W1=some (fH v sv,W1):=bz hc rfl;have cB:dF 5 (.pointer (some ⟨W.next,0,none⟩)) W1=some (KY v sv ev,W1):=bz hc rfl;have hv:=uM h1.ax h1.small;by_cases e0:(dn v).2=0;case neg=>have d0:decide ((dn v).2=0)=false:=aJ e0;simp only[SX,cA,hv,d0,af];exact⟨-1,_,_,.Db e0,rfl,aM,.inl ⟨e0,rfl⟩⟩
  have d0:decide ((dn v).2=0)=true:=aK e0;by_cases e1:400<l.length;case pos=>have d1:decide ((400:Int)<(l.length:Int))=true:=cd;simp only[SX,cA,hv,d0,c4,h1.Fu.len sY,d1,af];exact⟨-1,3,_,.len e0 e1,rfl,aM,.inl ⟨by decide,rfl⟩⟩
  have d1:decide ((400:Int)<(l.length:Int))=false:=bS;obtain⟨W2,b1,b2,b3,b4⟩:∃W2,rD (.agg #[.ae v.sh,.ae v.cL,.ae v.eO,sv,ev,.slice none 0 0,.slice none 0 0]) W1=some (.pointer (some ⟨W1.next,0,none⟩),W2)/\W2.get W1.next=some (.cells (Xw v sv ev (.slice none 0 0) (.slice none 0 0)))/\W2.next=W1.next+1/\Le W1 W2:=
   ⟨_,jR _,AW.aL _ _,AW.av _ _,(Le.refl _).add _⟩
  obtain⟨W3,m1,m2,m3,m4⟩:∃W3,vf Tryz.prog 112 none W2=some (.map (some W2.next),W3)/\xn W3 W2.next (λ_=>none) 0/\W3.next=W2.next+1/\Le W2 W3:=⟨_,anC _,Sb,AW.av _ _,(Le.refl _).add _⟩;have l3:=(aM.trans b4).trans m4;have c43:bu (.pointer (some ⟨W.next,4,none⟩)) W3=some (ev,W3):=BI ((m4.get _ (by omega)).trans ((b4.get _ (by omega)).trans hg)) rfl;have ev3:=h.Fu.mono l3;simp only[SX,cA,hv,d0,c4,h1.Fu.len sY,d1,cB,aqf,b1,m1,c43];refine a8 l.length (by omega) (λi R V=>Le W V/\W2.next<V.next/\RdR R ev l.length W1.next W2.next i/\∃s,yo l i s/\StE (W2.next+1) V W1.next W2.next v sv ev s)
   (λr=>RdQ W (W2.next+1) v sv ev l W1.next W2.next r) ⟨l3,by omega,⟨rfl,rfl,rfl,rfl,rfl⟩,_,.zero,?_⟩ ?_ ?_ ?_
  ·exact⟨_,_,none,none,(m4.get _ (by omega)).trans b2,.inl ⟨rfl,rfl,rfl⟩,.inl ⟨rfl,rfl,rfl⟩,(λB hB=>by cases hB),(λB hB=>by cases hB),m2⟩
  ·rintro i R V hi ⟨g1,g2,g3,s,g4,g5⟩;refine(ZF hG g1 h.Fu (by omega) (by omega) (by omega) g2 g4 (bJ hi) g3 g5).mono ?_;rintro r (⟨k1,k2,k3,k4,k5⟩|k)
   ·exact .inl ⟨k1,k2,k3,k4,k5⟩
   ·exact .inr k
  ·rintro R V ⟨g1,g2,⟨r32,r33,r34,r7,r8⟩,s,g4,g5⟩;unfold m9;have t1:¬((l.length:Int)<(l.length:Int)):=by omega
   simp only[SX,r33,r34,t1,af];exact⟨by simp,g1,.inl ⟨rfl,g2,r7,s,g4,g5⟩⟩
  ·rintro⟨q,R,V⟩ ⟨g1,hq⟩;simp only at hq g1;rcases hq with⟨rfl,g2,r7,s,hs,ov,pv,bo,bp,k1,k2,k3,-⟩|⟨rfl,k,s,x,hs,hx,he,r2,r3,r4⟩
   ·simp only[SX,r7,af];exact⟨0,0,_,.ok e0 (by omega) hs,rfl,g1,.inr ⟨rfl,s,W1.next,ov,pv,hs,rfl,by omega,by omega,k1,k2.ik.row kB (A2 kB),k3.ik.ints⟩⟩
   ·simp only[SX,r2,r3,r4,af];exact⟨_,_,_,.bad e0 (by omega) hs hx he,rfl,g1,.inl ⟨he,rfl⟩⟩
 refine Hm jL Il ?_;rintro q W' ⟨a,e,p,h1,rfl,h2,h3⟩ aM hp;refine⟨a,e,p,h1,rfl,Le.refl _,?_⟩;rcases h3 with h3|⟨-,s,tb,ov,pv,-,rfl,-⟩
 ·exact .inl h3
 ·exact absurd hp (by simp[bN,eI,cC])
def QN{l:List gD}{s:TL}(hr:yo l l.length s):fT l l.length=s.ops.length:=hr.inv.cnc
def aov{l:List gD}{s:TL}(hr:yo l l.length s){i:Nat}{x:gD}(hx:l[i]? =some x)(hc:x.ret=false):
 ∃o,s.ops[fT l i]? =some o/\o.id=x.id/\o.th=x.th/\o.fr=(i:Int)/\o.op=x.op/\(∀(i':Nat) (y:gD),i'<l.length->l[i']? =some y->y.ret=true->y.id=x.id->o.to=(i':Int)/\o.rp=y.rp)/\
  ((∀(i':Nat) (y:gD),i'<l.length->l[i']? =some y->y.ret=true->y.id≠x.id)->o.to= -1/\o.rp=gz):=by
 have hi:=(da.1 hx).1;obtain⟨s2,h2⟩:=hr.pre (m:=i+1) (by omega);obtain⟨s1,x1,r1,r2,r3,-⟩:=h2.prev rfl;rw[hx]at r2;injection r2 with r2;subst r2;have LM:=(KO hc r3).2.1;have hn:fT l i=s1.ops.length:=r1.inv.cnc;have I:=hr.inv;obtain⟨j,o,g,gid,gfr⟩:=I.cal i x hi hx hc;have ej:j=fT l i:=by omega
 subst ej;obtain⟨oid,i',x',a1,a2,a3,a4,a5,a6,a7⟩:=I.ids _ o g;have:i'=i:=by omega
 subst this;rw[hx]at a2;injection a2 with a2;subst a2;refine⟨o,g,by omega,a6.symm,gfr,a7.symm,λi2 y b1 b2 b3 b4=>?_,λyW=>?_⟩
 ·obtain⟨j',o',c1,c2,c3,c4⟩:=I.ret i2 y b1 b2 b3;have:j'=fT l i':=by omega
  subst this;rw[g]at c1;injection c1 with c1;subst c1;exact⟨c3,c4⟩
 ·rcases I.tos _ o g with h|⟨i2,y,d1,d2,d3,d4,d5⟩
  ·exact h
  ·exact absurd (by omega) (yW i2 y d1 d2 d4)
def Ea(r:kP):iw (yc r) (yc r)=true:=pI (by simp[Y6,Ax])
def avN{W:AW}{b:Nat}{n:kU}(h:W.get b=some (.cells (gf n)))(r:mE):fm 9 (.pointer (some ⟨b,16,none⟩)) (fX r) W=some (ak,W.put b (.cells (gf {n with rp:=r}))):=by rw[zx (n:=9) (v:=fX r) h rfl (by show 16+9<=25;omega) rfl,acO]
def aqi{W:AW}{b:Nat}{n m:kU}(h:W.get b=some (.cells (gf n))):fm 25 (.pointer (some ⟨b,0,none⟩)) (GQ m) W=some (ak,W.put b (.cells (gf m))):=gU h rfl rfl rfl
def YI{W:AW}{v:ge}{sv ev:ad}{l:List gD}{s:TL}(h:HiA W v sv ev l)(hl:l.length<=400)(hs:yo l l.length s):∃u W',aY (.func (.func 59) #[] #[]) [KY v sv ev] W=some (u,W')/\Le W W'/\G9 W' u s.ops:=by
 have jL:Ok (Fi aY (KY v sv ev) W) λr=>Le W r.2/\G9 r.2 r.1 s.ops:=by
  unfold Fi;have aM:Le W (W.add (.cells [.ae v.sh,.ae v.cL,.ae v.eO,sv,ev])):=(Le.refl W).add _;have hg:(W.add (.cells [.ae v.sh,.ae v.cL,.ae v.eO,sv,ev])).get W.next=some (.cells [.ae v.sh,.ae v.cL,.ae v.eO,sv,ev]):=AW.aL _ _;have hn1:(W.add (.cells [.ae v.sh,.ae v.cL,.ae v.eO,sv,ev])).next=W.next+1:=AW.av _ _;simp only[SX];generalize W.add (.cells [.ae v.sh,.ae v.cL,.ae v.eO,sv,ev])=W1 at *;refine a8 l.length (by omega) (λi R V=>Le W1 V/\R 1=.pointer (some ⟨W.next,0,none⟩)/\R 4=.ae (i:Int)/\sO W1.next V 25 gf (R 3) (s.ops.take (fT l i)))
   (λr=>r.1=.exit 0/\Le W1 r.2.2/\sO W1.next r.2.2 25 gf (r.2.1 3) s.ops) ⟨Le.refl _,rfl,rfl,sO.nil _ _ _ _⟩ ?_ ?_ ?_
  ·rintro i R V hi ⟨g1,r1,r4,g5⟩;unfold wW;have c4:∀{V':AW},Le W1 V'->bu (.pointer (some ⟨W.next,4,none⟩)) V'=some (ev,V'):=λ{V'} h=>BI ((h.get _ (by omega)).trans hg) rfl
   have Fu:∀{V':AW},Le W1 V'->QF V' ev l:=λ{V'} hv=>h.Fu.mono (aM.trans hv)
   have t1:((i:Int)<(l.length:Int)):=by omega
   have t2:=λW'=>bc W' i 1
   have e3:((i+1:Nat):Int)=(i:Int)+1:=by omega
   obtain⟨b,o,i1,i2,i3⟩:=QF.get (Fu g1) hi;obtain⟨fa,-⟩:=i3 V rfl;have hx:l[i]? =some l[i]:=bJ hi;generalize l[i]=x at fa hx;obtain⟨V1,V2,a1,a2,l2,n2,x2⟩:=aa1 x V;have g2:=g1.trans l2;have nT:=EA hx;cases hr:x.ret with
   |true=>have oG:=Bj x2;rw[hr]at oG nT;rw[an rfl]at nT;simp only[SX,r1,r4,aI,c4 g1,(Fu g1).len sY,t1,i1,fa,a1,a2,oG,t2,af];exact .inl ⟨aj,g2,r1,by rw[e3];rfl,by rw[nT];exact g5.mono l2⟩
   |false=>
    have oG:=Bj x2;rw[hr]at oG nT;rw[aq (by simp)]at nT;obtain⟨q,q1,q2,q3,q4,q5,q6,q7⟩:=aov hs hx hr;obtain⟨V3,b1,b2,n3,l3⟩:∃V3,dg Tryz.prog 77 V2=some (.pointer (some ⟨V2.next,0,none⟩),V3)/\V3.get V2.next=some (.cells (gf Z5))/\V3.next=V2.next+1/\Le V2 V3:=⟨_,KA V2,AW.aL _ _,AW.av _ _,(Le.refl _).add _⟩;have g3:=g2.trans l3;have x3:V3.get V.next=some (.cells (O8 x)):=(l3.get _ (by omega)).trans x2;obtain⟨r,p1,p2⟩:=zm (Fu g3) (by omega) (n:=l.length) (aR _) x.id;obtain⟨n,hn⟩:∃n:kU,n=⟨x.id,x.th,(i:Int),r,x.op,gz⟩:=⟨_,rfl⟩;have b0:=λW=>ah7 x.id x.th (i:Int) r x.op W
    rw[<-hn]at b0;obtain⟨V4,s1,s2,n4,l4⟩:∃V4,fm 25 (.pointer (some ⟨V2.next,0,none⟩)) (GQ n) V3=some (ak,V4)/\V4.get V2.next=some (.cells (gf n))/\V4.next=V3.next/\Le V2 V4:=⟨_,aqi b2,AW.aW _ _ _,rfl,l3.put (aR _) _⟩;have g4:=g2.trans l4;have hto:=C2 s2;rw[show n.to=r by rw[hn]]at hto;have htk:s.ops.take (fT l i)++[q]=s.ops.take (fT l i+1):=by obtain⟨w1,w2⟩:=da.1 q1;rw[iY w1,w2]
    have atL:(s.ops.take (fT l i)).length<=400:=by have:=hs.inv.opk;rw[cR];omega
    rcases p2 with⟨rfl,p2⟩|⟨i',y,z1,z2,z3,z4,rfl⟩
    ·have d2:decide ((0:Int)<= -1)=false:=rfl;obtain⟨e1,e2⟩:=q7 p2;have hq:n=q:=by rw[hn];cases q;simp_all
     subst hq;have L4:=g5.mono (l2.trans l4);have L5:sO W1.next (V4.add (.cells (gf n))) 25 gf (R 3) (s.ops.take (fT l i)):=L4.mono ((Le.refl _).add _);obtain⟨u',V6,k1,k2,k3,k4⟩:=L5.push (a:=n) ak7 kB Pu (b:=V4.next) (c:=1) bC (by omega) (by omega) (by rw[AW.av];have:=g4.next;omega);simp only[↓PX,SX,r1,r4,aI,c4 g1,(Fu g1).len sY,t1,i1,fa,a1,a2,oG,rq x2,CF x2,pF x2,c4 g2,b1,p1,rq x3,CF x3,pF x3,cV,Ea x.op,i9,oz,b0,s1,hto,d2,I5 s2,ajB,k1,t2,af];refine .inl ⟨aj,k4 _ (g4.add _) (aR _),r1,by rw[e3];rfl,?_⟩;rw[nT,<-htk];exact k2
    ·have d2:decide ((0:Int)<=(i':Int))=true:=cd;obtain⟨e1,e2⟩:=q6 i' y z1 z2 z3 z4;obtain⟨b',o',j1,j2,j3⟩:=QF.get (Fu g4) z1;obtain⟨-,-,-,-,f9⟩:=j3 V4 rfl;rw[(da.1 z2).2]at f9;obtain⟨V5,s3,s4,n5,l5⟩:∃V5,fm 9 (.pointer (some ⟨V2.next,16,none⟩)) (fX y.rp) V4=some (ak,V5)/\V5.get V2.next=some (.cells (gf {n with rp:=y.rp}))/\V5.next=V4.next/\Le V2 V5:=⟨_,avN s2 y.rp,AW.aW _ _ _,rfl,l4.put (aR _) _⟩;have g5':=g2.trans l5;have hq:({n with rp:=y.rp}:kU)=q:=by rw[hn];cases q;simp_all
     rw[hq]at s4;have L4:=g5.mono (l2.trans l5);have L5:sO W1.next (V5.add (.cells (gf q))) 25 gf (R 3) (s.ops.take (fT l i)):=L4.mono ((Le.refl _).add _);obtain⟨u',V6,k1,k2,k3,k4⟩:=L5.push (a:=q) ak7 kB Pu (b:=V5.next) (c:=1) bC (by omega) (by omega) (by rw[AW.av];have:=g5'.next;omega);simp only[↓PX,SX,r1,r4,aI,c4 g1,(Fu g1).len sY,t1,i1,fa,a1,a2,oG,rq x2,CF x2,pF x2,c4 g2,b1,p1,rq x3,CF x3,pF x3,cV,Ea x.op,i9,oz,b0,s1,hto,d2,c4 g4,j1,f9,s3,I5 s4,ajB,k1,t2,af];refine .inl ⟨aj,k4 _ (g5'.add _) (aR _),r1,by rw[e3];rfl,?_⟩;rw[nT,<-htk];exact k2
  ·rintro R V ⟨g1,r1,r4,g5⟩;unfold wW;have c4:bu (.pointer (some ⟨W.next,4,none⟩)) V=some (ev,V):=BI ((g1.get _ (by omega)).trans hg) rfl;have t1:¬((l.length:Int)<(l.length:Int)):=by omega
   simp only[↓PX,SX,r1,r4,aI,c4,(h.Fu.mono (aM.trans g1)).len sY,t1,af];refine⟨by simp,aj,g1,?_⟩;rw[QN hs,cO]at g5;exact g5
  ·rintro⟨q,R,V⟩ ⟨rfl,g1,g5⟩;simp only[SX,af];exact⟨aM.trans g1,g5.row kB (A2 kB)⟩
 obtain⟨u,W2,k1,k2,k3⟩:=aaS jL OD;exact⟨u,W2,k1,k2,k3⟩
def ML{W:AW}{v:ge}{sv ev:ad}{l:List gD}(h:HiA W v sv ev l){a e:Int}(hA:LI (dn v).2 l a e)(he:e≠0):aY (.func (.func 27) #[] #[]) [KY v sv ev] W=some (.tuple #[.slice none 0 0,.ae e],W):=by refine aQ rfl ?_ ES;unfold FQ;have aM:Le W (W.add (.cells [.ae v.sh,.ae v.cL,.ae v.eO,sv,ev])):=(Le.refl W).add _;have hg:(W.add (.cells [.ae v.sh,.ae v.cL,.ae v.eO,sv,ev])).get W.next=some (.cells [.ae v.sh,.ae v.cL,.ae v.eO,sv,ev]):=AW.aL _ _;simp only[SX];generalize W.add (.cells [.ae v.sh,.ae v.cL,.ae v.eO,sv,ev])=W1 at *;have cB:dF 5 (.pointer (some ⟨W.next,0,none⟩)) W1=some (KY v sv ev,W1):=bz (ao hg) rfl;obtain⟨a',e',hA',hc⟩:=FD (h.mono aM);obtain⟨rfl,rfl⟩:=hA.I7 hA';have d:decide (e=0)=false:=aJ he;simp only[SX,cB,hc,d,af];exact⟨aj,aM⟩
def Oi{W:AW}{v:ge}{sv ev:ad}{l:List gD}{s:TL}(h:HiA W v sv ev l){a:Int}(hA:LI (dn v).2 l a 0)(hs:yo l l.length s):∃u W',aY (.func (.func 27) #[] #[]) [KY v sv ev] W=some (.tuple #[u,.ae 0],W')/\Le W W'/\G9 W' u s.ops:=by refine ag7 (k:=.i64) (e:=0) ?_ ES;unfold FQ;have aM:Le W (W.add (.cells [.ae v.sh,.ae v.cL,.ae v.eO,sv,ev])):=(Le.refl W).add _;have hg:(W.add (.cells [.ae v.sh,.ae v.cL,.ae v.eO,sv,ev])).get W.next=some (.cells [.ae v.sh,.ae v.cL,.ae v.eO,sv,ev]):=AW.aL _ _;simp only[SX];generalize W.add (.cells [.ae v.sh,.ae v.cL,.ae v.eO,sv,ev])=W1 at *;have cB:dF 5 (.pointer (some ⟨W.next,0,none⟩)) W1=some (KY v sv ev,W1):=bz (ao hg) rfl;obtain⟨a',e',hA',hc⟩:=FD (h.mono aM);obtain⟨rfl,rfl⟩:=hA.I7 hA';have d:decide ((0:Int)=0)=true:=rfl;obtain⟨u,W2,o1,o2,o3⟩:=YI (h.mono aM) (hA.tZ rfl).2.1 hs;simp only[SX,cB,hc,o1,af];exact⟨u,rfl,aM.trans o2,o3⟩
def KJ(a b:kU):Bool:=decide (0<=a.to)&&decide (a.to<b.fr)
def asB(e:kU)(W:AW):rD (GQ e) W=some (.pointer (some ⟨W.next,0,none⟩),W.add (.cells (gf e))):=jR _
def OL(a b:kU)(W:AW):aY (.func (.func 42) #[] #[]) [GQ a,GQ b] W=some (.bool (KJ a b),W):=by
 refine aQ rfl ?_ El;unfold zS;simp only[SX,aI];have x1:((W.add (.cells (gf a))).add (.cells (gf b))).get W.next=some (.cells (gf a)):=by rw[AW.aG _ _ (by rw[AW.av];omega),AW.aL]
 have x2:((W.add (.cells (gf a))).add (.cells (gf b))).get (W.add (.cells (gf a))).next=some (.cells (gf b)):=AW.aL _ _;have aM:Le W ((W.add (.cells (gf a))).add (.cells (gf b))):=((Le.refl _).add _).add _;generalize(W.add (.cells (gf a))).add (.cells (gf b))=W1 at *;unfold KJ;cases c1:decide (0<=a.to)
 ·simp only[SX,C2 x1,c1,pj,af];exact⟨aj,aM⟩
 ·simp only[SX,C2 x1,c1,aag x2,gK,af];exact⟨aj,aM⟩
def Ep(a b:kU)(W:AW):aY (.func (.func 60) #[] #[]) [GQ a,GQ b] W=some (.bool (KJ a b),W):=by
 refine aQ rfl ?_ H0;unfold Dw;simp only[SX,aI];have x1:((W.add (.cells (gf a))).add (.cells (gf b))).get W.next=some (.cells (gf a)):=by rw[AW.aG _ _ (by rw[AW.av];omega),AW.aL]
 have x2:((W.add (.cells (gf a))).add (.cells (gf b))).get (W.add (.cells (gf a))).next=some (.cells (gf b)):=AW.aL _ _;have aM:Le W ((W.add (.cells (gf a))).add (.cells (gf b))):=((Le.refl _).add _).add _;generalize(W.add (.cells (gf a))).add (.cells (gf b))=W1 at *;unfold KJ;cases c1:decide (0<=a.to)
 ·simp only[SX,C2 x1,c1,pj,af];exact⟨aj,aM⟩
 ·simp only[SX,C2 x1,c1,aag x2,gK,af];exact⟨aj,aM⟩
def wu1:sW ak false=false:=aT rfl rfl
def wu2:sW ak true=false:=aT rfl rfl
structure zy where
 r:RunT
 b:Int
 a:Int
abbrev Am(c:zy):List ad:=[.ae c.r.row,.ae c.r.fi,.ae c.r.ma,.ae c.b,.ae c.a]
abbrev Tq(c:zy):ad:=.agg #[.ae c.r.row,.ae c.r.fi,.ae c.r.ma,.ae c.b,.ae c.a]
def ch0:zy:=⟨⟨0,0,0⟩,0,0⟩
def chR(n:Int)(r:RunT)(k:Nat):List zy:=(List.range k).map λi:Nat=>⟨r,(i:Int),r.ma-n-i⟩
def rM(n:Int)(l:List RunT):List zy:=l.flatMap λr=>chR n r (max (r.ma-n+1) 0).toNat
def jU(c:zy):Int:=BL c.b+BL c.a-BL c.r.ma
def RS(b:Option zy)(c:zy):Option zy:=match b with
 |none=>some c
 |some d=>if jU c<jU d then some c else some d
def xG(l:List zy):Option zy:=l.foldl RS none
def ab4(n:Int)(W:AW):aY (.func (.func 209) #[] #[]) [.ae n] W=some (.ae (BL n),W):=by
 refine aQ rfl ?_ Dq;unfold Aj BL;by_cases c:n=1
 ·have d:=aK c;simp(maxDischargeDepth:=9) only[SX,MX,HX,d,an c]
 ·have d:=aJ c;simp(maxDischargeDepth:=9) only[SX,MX,HX,d,aq c]
def Ka(n:Int):0<=BL n/\BL n<=1:=by unfold BL;split<;>omega
def Xo(c:zy)(W:AW):aY (.func (.func 208) #[] #[]) [Tq c] W=some (.ae (jU c),W):=by
 refine aQ rfl ?_ CS;unfold yr jU;have h1:=Ka c.b;have h2:=Ka c.a;have h3:=Ka c.r.ma;have a1:=λW'=>fh W' (BL c.b) (BL c.a)
 have a2:=λW'=>KF W' (BL c.b+BL c.a) (BL c.r.ma)
 simp(maxDischargeDepth:=9) only[SX,MX,HX,ab4,a1,a2]
def aob(r:RunT)(b a:Int)(W:AW):fd Tryz.prog 240 [(0,rnV r),(1,.ae b),(2,.ae a)] W=some (Tq ⟨r,b,a⟩,W):=aT (by kernel_rfl) rfl
def Xa(W:AW):dg Tryz.prog 240 W=some (ba W.next,W.add (.cells (Am ch0))):=aT (by kernel_rfl) rfl
def al4(W:AW):dg Tryz.prog 4 W=some (ba W.next,W.add (.cells [.bool false])):=aT (by kernel_rfl) rfl
def aqj(W:AW):dg Tryz.prog 252 W=some (ba W.next,W.add (.cells [.nilFunc])):=aT (by kernel_rfl) rfl
def aqD(x:ad)(W:AW):iU Tryz.prog 240 x W=dF 5 x W:=by kernel_rfl
def oL4(x:ad)(W:AW):iU Tryz.prog 4 x W=bu x W:=by kernel_rfl
def afV{W:AW}{b:Nat}{c0:zy}(h:W.get b=some (.cells (Am c0)))(c:zy):fm 5 (ba b) (Tq c) W=some (ak,W.put b (.cells (Am c))):=gU (vs:=(Am c).toArray) h rfl rfl rfl
def af8{W:AW}{b:Nat}{c:zy}(h:W.get b=some (.cells (Am c))):dF 5 (ba b) W=some (Tq c,W):=bz (ao h) rfl
def Oe:((#[219]:Array TypeId)[0]?).bind Tryz.prog.underlying=some (.slice 222):=by kernel_rfl
def ZU.get{W:AW}{v:ad}{l:List RunT}(h:ZU W v l){i:Nat}(hi:i<l.length):∃b o,(∀W' k,nY 3 v (.int k (i:Int)) W'=some (.pointer (some ⟨b,o,none⟩),W'))/\b<W.next/\∀W',W'.get b=W.get b->dF 3 (.pointer (some ⟨b,o,none⟩)) W'=some (rnV l[i],W'):=by
 obtain⟨b,o,cs,h1,h2,h3,h4⟩:=(Gy xS h).elem hi;refine⟨b,o,h1,h2,λW' hg=>?_⟩;have hc:aH W' b=some cs:=by unfold aH at h3|-;rw[hg];exact h3
 have e0:(cs.drop o).take 3=xE l[i]:=h4;have:=bz (n:=3) (o:=o) hc (by rw[e0];rfl);rw[e0]at this;exact this
def afz(a b:Int)(W:AW):aZ Tryz.prog .max #[3,3] 3 #[false,true] [.ae a,.ae b] W=some (.ae (max a b),W):=by
 have e:aZ Tryz.prog .max #[3,3] 3 #[false,true] [.ae a,.ae b] W=(pA Tryz.prog ([Value.int .i64 a,.ae b].all bN) (builtin .max #[3,3] 3 #[false,true] #[.ae a,.ae b])).map λv=>(v,W):=by unfold aZ;rfl
 rw[e];have e2:builtin .max #[3,3] 3 #[false,true] #[.ae a,.ae b]=(do pure (.value (<-Builtin.max_ #[3,3] 3 #[.ae a,.ae b]))):=rfl;rw[e2];refine M6 ?_ rfl _ rfl;unfold Builtin.max_;simp only[List.foldlM_cons,List.foldlM_nil,gl,Builtin.max2,jv,bM];congr 2;by_cases h:a<b
 ·rw[an h];omega
 ·rw[aq h];omega
def Qp{f lv:ad}{b1 b2 b0:Nat}{W0 W:AW}{n:Int}{l:List RunT}(hl:ZU W0 lv l)(Yg:l.length<=100000)(hn:1<=n/\n<=8)(hma:∀r∈l,0<r.ma/\r.ma<=10000)
 (I:List zy->AW->Prop)(hI:I [] W)(hS:∀pre V,I pre V->Le W0 V/\b0<V.next/\V.get b1=some (.cells [lv])/\V.get b2=some (.cells [.ae n]))(hA:∀pre V cs,I pre V->I pre (V.add (.cells cs)))
 (step:∀pre c V,I pre V->∃V2,aY f [Tq c] V=some (.bool true,V2)/\I (pre++[c]) V2/\V.next<=V2.next/\∀b,b0<b->b<V.next->V2.get b=V.get b):
 ∃W2,aY (.func (.func 220) #[] #[ba b1,ba b2]) [f] W=some (.tuple #[],W2)/\I (rM n l) W2:=by
 have jL:Ok (nl aY f (ba b1) (ba b2) W) λr=>r.1=.tuple #[]/\I (rM n l) r.2:=by
  unfold nl;have l1:∀pre V,I pre V->bu (ba b1) V=some (lv,V):=λpre V hV=>aP (ao (hS _ _ hV).2.2.1) rfl
  have l2:∀pre V,I pre V->bu (ba b2) V=some (.ae n,V):=λpre V hV=>aP (ao (hS _ _ hV).2.2.2) rfl
  simp only[SX,l1 _ W hI,jm hl Oe];refine a8 l.length (by omega) (λi R V=>R 0=f/\R 2=ba b2/\R 7=lv/\R 8=.ae (l.length:Int)/\R 9=.ae (i:Int)/\I (rM n (l.take i)) V)
   (λr=>r.1=.exit 0/\I (rM n l) r.2.2) ⟨rfl,rfl,rfl,rfl,rfl,hI⟩ ?_ ?_ ?_
  ·rintro i R V hi ⟨r0,r2,r7,r8,r9,hV⟩;unfold kg;have t1:decide ((i:Int)<(l.length:Int))=true:=cd;have t2:=λW'=>bc W' i 1
   have e3:((i+1:Nat):Int)=(i:Int)+1:=by omega
   obtain⟨b,o,g1,g2,g3⟩:=hl.get hi;have aM:=(hS _ _ hV).1;have aAl:=(hS _ _ hV).2.1;have hr:=hma _ (cG hi);have ko:=hA _ _ (xE l[i]) hV;have WO:fm 3 (ba V.next) (rnV l[i]) (V.add (.cells (xE ⟨0,0,0⟩)))=some (ak,V.add (.cells (xE l[i]))):=by rw[ale (AW.aL _ _),jy]
   have lm:bu (.pointer (some ⟨V.next,2,none⟩)) (V.add (.cells (xE l[i])))=some (.ae l[i].ma,V.add (.cells (xE l[i]))):=aP bC rfl;have s1:=λW'=>KF W' (l[i].ma) n
   have s2:=λW'=>bc W' (l[i].ma-n) 1
   simp only[SX,r2,r7,r8,r9,t1,g1,g3 V (aM.get _ g2),aiw,WO,aI,lm,l2 _ _ ko,s1,s2,afz];have hgb:(V.add (.cells (xE l[i]))).get V.next=some (.cells (xE l[i])):=AW.aL _ _;have hbV:V.next<(V.add (.cells (xE l[i]))).next:=by rw[AW.av];omega
   generalize V.add (.cells (xE l[i]))=V1 at *;generalize hrb:V.next=rb at *;have hk:max (l[i].ma-n+1) 0=(((max (l[i].ma-n+1) 0).toNat:Nat):Int):=by omega
   rw[hk];generalize Xm:(max (l[i].ma-n+1) 0).toNat=kk at *;refine a8 kk (by omega) (λj R V=>R 0=f/\R 2=ba b2/\R 5=ba rb/\R 7=lv/\R 8=.ae (l.length:Int)/\R 9=.ae (i:Int)/\R 18=.ae (kk:Int)/\R 19=.ae (j:Int)/\V.get rb=some (.cells (xE l[i]))/\rb<V.next/\I (rM n (l.take i)++chR n l[i] j) V)
    (λr=>r.1=.exit 2/\r.2.1 0=f/\r.2.1 2=ba b2/\r.2.1 7=lv/\r.2.1 8=.ae (l.length:Int)/\r.2.1 9=.ae (i:Int)/\I (rM n (l.take (i+1))) r.2.2)
    ⟨r0,r2,rfl,r7,r8,r9,rfl,rfl,hgb,hbV,by rw[show chR n l[i] 0=[]from rfl,fp];exact ko⟩ ?_ ?_ ?_
   ·rintro j R V' hj ⟨r0,r2,r5,r7,r8,r9,PO,r19,gb,hbV,Ux⟩;unfold iG;have t1:decide ((j:Int)<(kk:Int))=true:=cd;have t2:=λW'=>bc W' j 1
    have e3:((j+1:Nat):Int)=(j:Int)+1:=by omega
    have la:dF 3 (ba rb) V'=some (rnV l[i],V'):=bz (ao gb) rfl;have lm:bu (.pointer (some ⟨rb,2,none⟩)) V'=some (.ae l[i].ma,V'):=aP (ao gb) rfl;have s3:=λW'=>KF W' (l[i].ma-n) j
    obtain⟨V2,k1,k2,k3,k4⟩:=step _ ⟨l[i],(j:Int),l[i].ma-n-j⟩ V' Ux;simp only[SX,r0,r2,r5,PO,r19,t1,la,aI,lm,l2 _ _ Ux,s1,s3,aob,k1,t2,af];refine .inl ⟨aj,r0,r2,r5,r7,r8,r9,PO,by rw[e3];rfl,(k4 _ (by omega) hbV).trans gb,by omega,?_⟩;rw[iK]at k2;unfold chR;rw[qW,qX];exact k2
   ·rintro R V' ⟨r0,r2,r5,r7,r8,r9,PO,r19,gb,hbV,Ux⟩;unfold iG;have t1:decide ((kk:Int)<(kk:Int))=false:=bS;simp only[SX,PO,r19,t1,af];refine⟨by simp,aj,r0,r2,r7,r8,r9,?_⟩;have e:rM n (l.take (i+1))=rM n (l.take i)++chR n l[i] kk:=by unfold rM;rw[iY hi,jo,fN,Ba,fp,Xm]
    rw[e];exact Ux
   ·rintro⟨e,R,V'⟩ ⟨rfl,r0,r2,r7,r8,r9,Ux⟩;simp only at r0 r2 r7 r8 r9 Ux;simp only[SX,r9,t2,af];exact .inl ⟨aj,r0,r2,r7,r8,by rw[e3];rfl,Ux⟩
  ·rintro R V ⟨r0,r2,r7,r8,r9,hV⟩;unfold kg;have t1:decide ((l.length:Int)<(l.length:Int))=false:=bS;rw[cO]at hV;simp only[SX,r8,r9,t1,af];exact⟨by simp,aj,hV⟩
  ·rintro⟨e,R,V⟩ ⟨rfl,hV⟩;simp only[SX,af];exact⟨aj,hV⟩
 obtain⟨⟨v,V⟩,h1,rfl,h2⟩:=jL;exact⟨V,by rw[yJ h1,jx rfl],h2⟩
def asF{W:AW}{b:Nat}{x:ad}{f:Nat}(h:W.get b=some (.cells [x])):fm 1 (ba b) (.func (.func f) #[] #[]) W=some (ak,W.put b (.cells [.func (.func f) #[] #[]])):=by rw[sj rfl rfl,cT h];rfl
def aqQ{W:AW}{b:Nat}{x:ad}{c:Bool}(h:W.get b=some (.cells [x])):fm 1 (ba b) (.bool c) W=some (ak,W.put b (.cells [.bool c])):=by rw[Aq,cT h];rfl
def RO(c:zy):iw (Tq c) (Tq c)=true:=pI (by simp[Y6,Ax])
def Rm(f:Nat):iw (.func (.func f) #[] #[]) (.func (.func f) #[] #[])=true:=by simp[iw,Ax]
def Zd(r:Option (ad×AW))(v:ad):jP false r v=true:=aT (by unfold jP;rfl) rfl
def P7(b:Option zy):zy:=b.getD ch0
structure VB (W V:AW) (lv:ad) (n:Int) (lp:dH) (b:Option zy):Prop where
 le:Le W V
 nx:W.next+5<V.next
 g0:V.get W.next=some (.cells (Am (P7 b)))
 g1:V.get (W.next+1)=some (.cells [.bool b.isSome])
 g2:V.get (W.next+2)=some (.cells [.func (.func 208) #[] #[]])
 g3:V.get (W.next+3)=some (.cells [lv])
 g4:V.get (W.next+4)=some (.cells [.ae n])
 g5:V.get (W.next+5)=some lp
def VB.add{W V:AW}{lv:ad}{n:Int}{lp:dH}{b:Option zy}(h:VB W V lv n lp b)(o:dH):VB W (V.add o) lv n lp b:=by
 have hn:=h.nx;have g:∀c,c<V.next->(V.add o).get c=V.get c:=λc hc=>AW.aG _ _ (by omega)
 exact⟨h.le.add _,by rw[AW.av];omega,(g _ (by omega)).trans h.g0,(g _ (by omega)).trans h.g1,(g _ (by omega)).trans h.g2,(g _ (by omega)).trans h.g3,(g _ (by omega)).trans h.g4,(g _ (by omega)).trans h.g5⟩
def VB.lp{W V:AW}{lv:ad}{n:Int}{lp:dH}{b:Option zy}(h:VB W V lv n lp b)(o:dH):VB W (V.put (W.next+5) o) lv n o b:=by
 have g:∀c,c≠W.next+5->(V.put (W.next+5) o).get c=V.get c:=λc hc=>AW.ay _ _ (bh hc)
 exact⟨h.le.put (by omega) _,h.nx,(g _ (by omega)).trans h.g0,(g _ (by omega)).trans h.g1,(g _ (by omega)).trans h.g2,(g _ (by omega)).trans h.g3,(g _ (by omega)).trans h.g4,AW.aW _ _ _⟩
def VB.set{W V:AW}{lv:ad}{n:Int}{lp:dH}{b:Option zy}(h:VB W V lv n lp b)(c:zy):VB W ((V.put W.next (.cells (Am c))).put (W.next+1) (.cells [.bool true])) lv n lp (some c):=by
 have g:∀d,d≠W.next->d≠W.next+1->((V.put W.next (.cells (Am c))).put (W.next+1) (.cells [.bool true])).get d=V.get d:=λd h1 h2=>(AW.ay _ _ (bh h2)).trans (AW.ay _ _ (bh h1))
 exact⟨(h.le.put (by omega) _).put (by omega) _,h.nx,(AW.ay _ _ (by omega)).trans (AW.aW _ _ _),AW.aW _ _ _,(g _ (by omega) (by omega)).trans h.g2,(g _ (by omega) (by omega)).trans h.g3,(g _ (by omega) (by omega)).trans h.g4,(g _ (by omega) (by omega)).trans h.g5⟩
def adT{W V:AW}{lv:ad}{n:Int}{lp:dH}{b:Option zy}{c:zy}{cb:Nat}{R:Nat->ad}(h:VB W V lv n lp b)(hc:V.get cb=some (.cells (Am c)))(LH:W.next+5<cb)(r4:R 4=ba W.next)(r5:R 5=ba (W.next+1))(r6:R 6=ba (W.next+2))(r7:R 7=ba cb):
 ∃R' V',oP aY R V=some (.normal,R',V')/\VB W V' lv n lp (RS b c)/\V'.next=V.next/\∀d,W.next+5<d->V'.get d=V.get d:=by
 unfold oP;have l5:bu (ba (W.next+1)) V=some (.bool b.isSome,V):=aP (ao h.g1) rfl;have l6:bu (ba (W.next+2)) V=some (.func (.func 208) #[] #[],V):=aP (ao h.g2) rfl;have l7:=af8 hc;have l4:=af8 h.g0;have s1:=afV h.g0 c;have s2:fm 1 (ba (W.next+1)) (.bool true) (V.put W.next (.cells (Am c)))=some (ak,(V.put W.next (.cells (Am c))).put (W.next+1) (.cells [.bool true])):=aqQ ((AW.ay _ _ (by omega)).trans h.g1);have o:∀d,W.next+5<d->((V.put W.next (.cells (Am c))).put (W.next+1) (.cells [.bool true])).get d=V.get d:=λd hd=>(AW.ay _ _ (by omega)).trans (AW.ay _ _ (by omega))
 cases b with
 |none=>simp only[SX,r4,r5,r6,r7,l5,vg,Zd,fM,l7,s1,s2];exact⟨_,_,rfl,h.set c,rfl,o⟩
 |some d=>
  have e:P7 (some d)=d:=rfl;rw[e]at l4;by_cases c0:jU c<jU d
  ·have d0:=aK c0;simp only[SX,r4,r5,r6,r7,l5,A7,l6,l7,l4,Xo,cV,RO,Rm,fM,d0,s1,s2];refine⟨_,_,rfl,?_,rfl,o⟩;show VB W _ lv n lp (if jU c<jU d then some c else some d);rw[an c0];exact h.set c
  ·have d0:=aJ c0;simp only[SX,r4,r5,r6,r7,l5,A7,l6,l7,l4,Xo,cV,RO,Rm,fM,d0];refine⟨_,_,rfl,?_,rfl,λ_ _=>rfl⟩;show VB W _ lv n lp (if jU c<jU d then some c else some d);rw[aq c0];exact h
def agF{W:AW}{lv:ad}{n:Int}{l:List RunT}(hl:ZU W lv l)(Yg:l.length<=100000)(hn:1<=n/\n<=8)(hma:∀r∈l,0<r.ma/\r.ma<=10000):
 aY (.func (.func 191) #[] #[]) [lv,.ae n] W=some (.tuple #[Tq (P7 (xG (rM n l))),.bool (xG (rM n l)).isSome],W):=by
 refine aQ rfl ?_ F0;unfold Ci;obtain⟨a,c,hlv,-⟩:=id hl;obtain⟨V3,A0⟩:∃V3,V3=((W.add (.cells (Am ch0))).add (.cells [.bool false])).add (.cells [.func (.func 208) #[] #[]]):=⟨_,rfl⟩;have n3:V3.next=W.next+3:=by rw[A0];rfl
 have E2:Le W V3:=by rw[A0];exact(((Le.refl W).add _).add _).add _
 have st3:fm 1 (ba (W.next+2)) (.func (.func 208) #[] #[]) (((W.add (.cells (Am ch0))).add (.cells [.bool false])).add (.cells [.nilFunc]))=some (ak,V3):=by have e:W.next+2=((W.add (.cells (Am ch0))).add (.cells [.bool false])).next:=rfl;rw[e,asF (AW.aL _ _),jy,A0]
 have q2:V3.get (W.next+2)=some (.cells [.func (.func 208) #[] #[]]):=by rw[A0];exact AW.aL ((W.add (.cells (Am ch0))).add (.cells [.bool false])) _
 have q1:V3.get (W.next+1)=some (.cells [.bool false]):=by rw[A0];exact(AW.aG _ _ (by simp only[AW.av];omega)).trans (AW.aL (W.add (.cells (Am ch0))) _)
 have q0:V3.get W.next=some (.cells (Am ch0)):=by rw[A0];exact(AW.aG _ _ (by simp only[AW.av];omega)).trans ((AW.aG _ _ (by simp only[AW.av];omega)).trans (AW.aL _ _))
 obtain⟨V5,Ms⟩:∃V5,V5=(V3.add (.cells [lv])).add (.cells [.ae n]):=⟨_,rfl⟩;have n5:V5.next=W.next+5:=by rw[Ms,AW.av,AW.av,n3]
 have le5:Le V3 V5:=by rw[Ms];exact((Le.refl V3).add _).add _
 have q4:V5.get (W.next+4)=some (.cells [.ae n]):=by
  have e:W.next+4=(V3.add (.cells [lv])).next:=by rw[AW.av,n3]
  rw[e,Ms];exact AW.aL _ _
 have q3:V5.get (W.next+3)=some (.cells [lv]):=by rw[Ms,AW.aG _ _ (by rw[AW.av,n3];omega),<-n3];exact AW.aL _ _
 have hch:aY (.func (.func 210) #[] #[]) [lv,.ae n] V3=some (.func (.func 220) #[] #[ba (W.next+3),ba (W.next+4)],V5):=by
  have:pV aY lv (.ae n) V3=some (.func (.func 220) #[] #[ba (W.next+3),ba (W.next+4)],V5):=by unfold pV;rw[hlv];simp only[SX,n3,AW.av];rw[Ms,hlv]
  rw[BT this,jx rfl]
 simp only[SX,Xa,al4,aqj,AW.av,gV,Nat.reduceAdd,st3,hch];generalize hR:(q (q (cz 0 [lv,Value.int IntKind.i64 n] ai.blank) 4 [ba W.next,ba (W.next+1),ba (W.next+2)]) 8 [lv,Value.int IntKind.i64 n,Value.func (Fn.func 220) #[] #[ba (W.next+3),ba (W.next+4)]])=R;have R4:R 4=ba W.next:=by rw[<-hR];rfl
 have R5:R 5=ba (W.next+1):=by rw[<-hR];rfl
 have R6:R 6=ba (W.next+2):=by rw[<-hR];rfl
 clear hR;obtain⟨lp,hlp⟩:∃lp,lp=dH.loop .ready none R 26 #[11] (BP [1,1,0,1,0,0] (Fw 191)) (BP [1,1,0,1,0,1] (Fw 191)):=⟨_,rfl⟩;have I0:VB W (V5.add lp) lv n lp none:=by
  have g:∀d,d<W.next+5->(V5.add lp).get d=V5.get d:=λd hd=>AW.aG _ _ (by omega)
  have g':∀d,d<W.next+3->(V5.add lp).get d=V3.get d:=λd hd=>(g d (by omega)).trans (le5.get d (by omega))
  exact⟨(E2.trans le5).add _,by rw[AW.av];omega,(g' _ (by omega)).trans q0,(g' _ (by omega)).trans q1,(g' _ (by omega)).trans q2,(g _ (by omega)).trans q3,(g _ (by omega)).trans q4,by rw[<-n5];exact AW.aL _ _⟩
 obtain⟨W2,k1,k2⟩:=Qp (f:=.func (.yield V5.next) #[] #[]) (b1:=W.next+3) (b2:=W.next+4) (b0:=W.next+5) (W0:=W) (W:=V5.add lp) (n:=n) hl Yg hn hma
  (λpre V=>VB W V lv n lp (xG pre)) I0 (λpre V h=>⟨h.le,h.nx,h.g3,h.g4⟩) (λpre V cs h=>h.add _)
  (λpre c V h=>by
    have hg:V.get V5.next=some (.loop .ready none R 26 #[11] (BP [1,1,0,1,0,0] (Fw 191)) (BP [1,1,0,1,0,1] (Fw 191))):=by rw[n5,<-hlp];exact h.g5
    have Mi:=h.nx;have WO:fm 5 (ba V.next) (Tq c) (V.add (.cells (Am ch0)))=some (ak,V.add (.cells (Am c))):=by rw[afV (AW.aL _ _),jy]
    have h1:fW Tryz.prog aY false 26 (BP [1,1,0,1,0,0] (Fw 191)) LT (nS (#[11]:Array Tmp).toList [Tq c] R) V np=some (.normal,iJ (iJ R (some 11) (Tq c)) (some 7) (ba V.next),V.add (.cells (Am c))):=by rw[y8,asD];unfold uX;have e11:(iJ R (some 11) (Tq c):Nat->ad) 11=Tq c:=rfl;simp only[SX,Xa,e11,WO];rfl
    have hI2:=(h.add (.cells (Am c))).lp (.loop .busy none R 26 #[11] (BP [1,1,0,1,0,0] (Fw 191)) (BP [1,1,0,1,0,1] (Fw 191)));obtain⟨R',V',p1,p2,p3,p4⟩:=adT (c:=c) (cb:=V.next) (R:=iJ (iJ R (some 11) (Tq c)) (some 7) (ba V.next)) hI2 ((AW.ay _ _ (by omega)).trans (AW.aL _ _)) Mi R4 R5 R6 rfl;have hy:=E8 (P:=Tryz.prog) (bad:=VW) (spec:=specs) (args:=[Tq c]) hg rfl h1 ((AW.aG _ _ (by omega)).trans hg) (by rw[Af,n5];exact p1) (by rw[n5];exact p2.g5);refine⟨_,hy,?_,?_,λd hd hd2=>?_⟩
    ·have:=p2.lp lp;rw[hlp]at this;rw[n5];have e:xG (pre++[c])=RS (xG pre) c:=by unfold xG;rw[Bn];rfl
     rw[e,hlp];exact this
    ·show V.next<=V'.next;rw[p3,AW.bH,AW.av];omega
    ·rw[n5];exact(AW.ay _ _ (by omega)).trans ((p4 d hd).trans ((AW.ay _ _ (by omega)).trans (AW.aG _ _ (by omega)))))
 have hr:=wQ (call:=aY) (W:=V5) (obj:=lp) k1 (by rw[n5];rw[hlp]at k2;exact k2.g5) (by simp);rw[hlp]at hr;rw[hr];have o6:∀d,d<W.next+5->(W2.kill V5.next).get d=W2.get d:=λd hd=>AW.dm _ (by omega)
 have la:=af8 ((o6 _ (by omega)).trans k2.g0);have lb:bu (ba (W.next+1)) (W2.kill V5.next)=some (.bool (xG (rM n l)).isSome,W2.kill V5.next):=aP (ao ((o6 _ (by omega)).trans k2.g1)) rfl;have sa:=afV ((o6 _ (by omega)).trans k2.g0) (P7 (xG (rM n l)));have lc:bu (ba (W.next+1)) ((W2.kill V5.next).put W.next (.cells (Am (P7 (xG (rM n l))))))=some (.bool (xG (rM n l)).isSome,(W2.kill V5.next).put W.next (.cells (Am (P7 (xG (rM n l)))))):=
  aP (ao ((AW.ay _ _ (by omega)).trans ((o6 _ (by omega)).trans k2.g1))) rfl
 have sb:=aqQ (c:=(xG (rM n l)).isSome) ((AW.ay (W2.kill V5.next) (b:=W.next) (c:=W.next+1) (.cells (Am (P7 (xG (rM n l))))) (by omega)).trans ((o6 _ (by omega)).trans k2.g1));have ld:dF 5 (ba W.next) (((W2.kill V5.next).put W.next (.cells (Am (P7 (xG (rM n l)))))).put (W.next+1) (.cells [.bool (xG (rM n l)).isSome]))=some (Tq (P7 (xG (rM n l))),((W2.kill V5.next).put W.next (.cells (Am (P7 (xG (rM n l)))))).put (W.next+1) (.cells [.bool (xG (rM n l)).isSome])):=
  af8 ((AW.ay _ _ (by omega)).trans (AW.aW _ _ _))
 have le:bu (ba (W.next+1)) (((W2.kill V5.next).put W.next (.cells (Am (P7 (xG (rM n l)))))).put (W.next+1) (.cells [.bool (xG (rM n l)).isSome]))=some (.bool (xG (rM n l)).isSome,((W2.kill V5.next).put W.next (.cells (Am (P7 (xG (rM n l)))))).put (W.next+1) (.cells [.bool (xG (rM n l)).isSome])):=
  aP (ao (AW.aW _ _ _)) rfl
 simp only[SX,la,lb,sa,lc,cV,Lb,fM,sb,AS,aqD,oL4,ld,le,bM,af];exact⟨aj,((k2.le.kill (by omega)).put (aR _) _).put (by omega) _⟩
def aev:((#[135]:Array TypeId)[0]?).bind Tryz.prog.underlying=some (.slice 4):=by kernel_rfl
def Xv{l:List Bool}:∀(ms:List Nat) (r f:Nat) (x:RunT),(∀m∈ms,m<=64)->x∈rm l r f ms->0<x.ma/\x.ma<=64/\(f:Int)<=x.fi/\x.fi+x.ma<=((f+fD ms:Nat):Int)
 |[],r,f,x,_,h=>by cases h
 |m::t,r,f,x,hm,h=>by
  have e:fD (m::t)=m+fD t:=rfl;simp only[rm]at h;rcases mj.mp h with h|h
  ·obtain⟨a,c,K,e1,e2,e3,e4,-,-,e7⟩:=Lh (uQ l f m) f 0 x (by rw[show(f:Int)-((0:Nat):Int)=f by omega];exact h);simp only[List.replicate_zero,jG]at e7;have hl:=Tz l f m;rw[e7,cD,cD,mh]at hl;have:=hm m (by simp);omega
  ·have:=Xv t (r+1) (f+m) x (λm hm'=>hm m (by simp[hm'])) h;omega
def qS{v:ge}(he:(dn v).2=0){k:Nat}(hk:k<v.ax.length){free:List Bool}{x:RunT}(h:x∈dA v k free):0<x.ma/\x.ma<=64/\0<=x.fi/\x.fi+x.ma<=bG v.ax:=by obtain⟨s1,s2,s3,s4,s5,s6,s7,s8⟩:=BZ he hk;have h1:=Xv (vZ v k) 0 (CZ v k) x (λm hm=>by rw[s2]at hm;obtain⟨n,hn,rfl⟩:=mB.1 hm;have:=(s3 n hn).2;omega) h;have h2:=CB v.ax[k].rows (λn hn=>(s3 n hn).1);rw[<-s2]at h2;omega
def JL{n:Int}{l:List RunT}{c:zy}(h:c∈rM n l):c.r∈l/\0<=c.b/\c.b+n<=c.r.ma/\c.a=c.r.ma-n-c.b:=by unfold rM at h;obtain⟨r,hr,hc⟩:=List.mem_flatMap.1 h;unfold chR at hc;obtain⟨i,hi,rfl⟩:=mB.1 hc;rw[pL]at hi;exact⟨hr,by show(0:Int)<=(i:Int);omega,by show(i:Int)+n<=r.ma;omega,rfl⟩
def ada(l:List zy):∀(b:Option zy) (c:zy),l.foldl RS b=some c->c∈l\/b=some c:=by
 induction l with
 |nil=>intro b c h;exact .inr h
 |cons a l ih=>
  intro b c h;rw[uI]at h;rcases ih _ _ h with h|h
  ·exact .inl (by simp[h])
  ·cases b with
   |none=>injection h with h;subst h;exact .inl (by simp)
   |some d=>
    unfold RS at h;simp only at h;split at h
    ·injection h with h;subst h;exact .inl (by simp)
    ·exact .inr h
def O3{l:List zy}{c:zy}(h:xG l=some c):c∈l:=by
 rcases ada l none c h with h|h
 ·exact h
 ·cases h
def qQ(v:ge)(k:Nat)(n:Int)(free:List Bool):Int×Int:=match xG (rM n (dA v k free))with
 |none=>(0,15)
 |some c=>(c.r.fi+c.b,0)
def Qq{v:ge}(he:(dn v).2=0){k:Nat}(hk:k<v.ax.length){n:Int}{free:List Bool}(h:(qQ v k n free).2=0):0<=(qQ v k n free).1/\(qQ v k n free).1+n<=bG v.ax:=by
 unfold qQ at h|-;cases e:xG (rM n (dA v k free))with
 |none=>rw[e]at h;exact absurd h (by decide)
 |some c=>obtain⟨h1,h2,h3,-⟩:=JL (O3 e);have:=qS he hk h1;simp only;omega
def Hf{W:AW}{v:ge}{sv fv:ad}{free:List Bool}{k:Nat}(hs:fC W sv v.ax)(he:(dn v).2=0)(hv:v.ax.length<1000)(hk:k<v.ax.length)(hf:OV W fv free)(wO:(free.length:Int)=bG v.ax):
 aY (.func (.func 189) #[] #[]) [fH v sv,fv,.ae (k:Int)] W=some (.ae 0,W):=by
 refine aQ rfl ?_ D4;unfold AC;obtain⟨W1,hB,aM,hn,c4,c0,c3⟩:=jC v sv W;have n8:=KE (W:=W1) (hs.mono aM) hv;have e1:(cn v).2=0:=by unfold cn;rw[an he]
 have e2:(cn v).1=bG v.ax:=by unfold cn;rw[an he]
 rw[e1,e2]at n8;have d1:decide ((free.length:Int)=bG v.ax)=true:=aK wO;have d2:decide ((k:Int)<0)=false:=bS;have d3:decide ((v.ax.length:Int)<=(k:Int))=false:=bS;have d0:decide ((0:Int)=0)=true:=rfl;simp only[SX,hB,aI,c4 _ (Le.refl _),n8,jm hf aev,d1,d2,c3 _ (Le.refl _),Row.len hs.1 zg,d3,af];exact⟨aj,aM⟩
def RH{n:Int}(h:1<=n/\n<=8)(W:AW):aY (.func (.func 190) #[] #[]) [.ae n] W=some (.bool true,W):=by refine aQ rfl ?_ Dn;unfold zL;have d1:=aK h.1;have d2:=aK h.2;simp(maxDischargeDepth:=9) only[SX,MX,HX,d1,d2]
def ahQ{W:AW}{v:ge}{sv fv:ad}{free:List Bool}{k:Nat}{n:Int}(hs:fC W sv v.ax)(he:(dn v).2=0)(hv:v.ax.length<1000)(hk:k<v.ax.length)(hf:OV W fv free)(wO:(free.length:Int)=bG v.ax)(hn:1<=n/\n<=8):
 aY (.func (.func 153) #[] #[]) [fH v sv,fv,.ae (k:Int),.ae n] W=some (.tuple #[.ae (qQ v k n free).1,.ae (qQ v k n free).2],W):=by
 refine aQ rfl ?_ FB;unfold Cf;obtain⟨W1,hB,aM,Mi,c4,c0,c3⟩:=jC v sv W;obtain⟨u,W2,k1,k2,k3⟩:=afO (hs.mono aM) he hv hk (hf.keep aM) wO;have ht:=(BZ he hk).2.2.2.2.2.1;have nH:∀r∈dA v k free,0<r.ma/\r.ma<=10000:=λr hr=>by have:=qS he hk hr;omega
 have dS:(dA v k free).length<=100000:=by
  obtain⟨s1,s2,s3,s4,-⟩:=BZ he hk;have:=Ad free (vZ v k) 0 (CZ v k) (λm hm=>by rw[s2]at hm;obtain⟨n,hn,rfl⟩:=mB.1 hm;have:=(s3 n hn).2;omega);have e:(vZ v k).length<=16:=by rw[s2,fj];exact s4
  unfold dA;omega
 have hb:=agF k3 dS hn nH;have d0:decide ((0:Int)=0)=true:=rfl;have iN:=aM.trans k2;have WO:=afV (AW.aL W2 (.cells (Am ch0))) (P7 (xG (rM n (dA v k free))));rw[jy]at WO;have BU:Le W (W2.add (.cells (Am (P7 (xG (rM n (dA v k free))))))):=iN.add _;unfold qQ;cases e:xG (rM n (dA v k free))with
 |none=>rw[e]at hb WO BU;simp only[SX,hB,aI,c4 _ (Le.refl _),Hf (hs.mono aM) he hv hk (hf.keep aM) wO,RH hn,k1,hb,Xa,WO,vg,af];exact⟨aj,BU⟩
 |some c=>
  rw[e]at hb WO BU;obtain⟨h1,h2,h3,-⟩:=JL (O3 e);have h4:=qS he hk h1;have l1:bu (.pointer (some ⟨W2.next,1,none⟩)) (W2.add (.cells (Am (P7 (some c)))))=some (.ae c.r.fi,W2.add (.cells (Am (P7 (some c))))):=aP bC rfl;have l3:bu (.pointer (some ⟨W2.next,3,none⟩)) (W2.add (.cells (Am (P7 (some c)))))=some (.ae c.b,W2.add (.cells (Am (P7 (some c))))):=aP bC rfl;have a1:=λW'=>fh W' c.r.fi c.b
  simp only[SX,hB,aI,c4 _ (Le.refl _),Hf (hs.mono aM) he hv hk (hf.keep aM) wO,RH hn,k1,hb,Xa,WO,A7,l1,l3,a1,af];exact⟨aj,BU⟩
def y5(x:cS):List Bool:=x.st.map λs=>decide (s.st=0)
def qB(ow t:Int)(a:Nat)(y:cS)(i:Nat):cS:={y with st:=y.st.set (a+i) (M4 (cr y (a+i)) ow t)}
def Rs(x:cS)(a n:Nat)(ow t:Int):cS:=(List.range n).foldl (qB ow t a) x
def rpB(a n d:Int):mE:={gz with se:=a,n:=n,dl:=d}
def acn(a n d:Int)(W:AW):fd Tryz.prog 50 [(1,.ae a),(2,.ae n),(3,.ae d)] W=some (fX (rpB a n d),W):=aT (by kernel_rfl) rfl
def awf:Tryz.prog.underlying 135=some (.slice 4):=by kernel_rfl
def b4:(Tryz.prog.info? 4).map (·.bytes)=some 1:=by kernel_rfl
def t4:nX Tryz.prog 4=some 1:=by kernel_rfl
def z4:kG Tryz.prog 4=some (.bool false):=by kernel_rfl
def Nw(n:Nat):yA [.bool false] n=List.replicate n (.bool false):=by
 induction n with
 |zero=>rfl
 |succ n ih=>show [.bool false]++yA [.bool false] n=_;rw[ih,uU];rfl
def apR{n:Nat}(h:n<=10000)(W:AW):gh Tryz.prog 135 (.ae (n:Int)) (.ae (n:Int)) W=some (oa W.next n,W.add (.cells (List.replicate n (.bool false)))):=by
 show gh Tryz.prog 135 (.ae (Int.ofNat n)) (.ae (Int.ofNat n)) W=_;unfold gh;have e:=zn (z:=.bool false) (len:=n) (n:=1) rfl;have e2:(kF (.bool false) (n*1)).toList=List.replicate n (.bool false):=by rw[e];exact Nw n
 have e3:(List.replicate n (Value.bool false)).all cC=true:=by rw[<-Nw];exact vQ _ _ rfl n
 simp only[awf,t4,z4,b4];rw[e2,an ⟨aR _,by omega,by omega,e3⟩]
def zP(ow t:Int)(a:Nat)(x:cS)(L:List Nat):(L.foldl (qB ow t a) x).v=x.v/\(L.foldl (qB ow t a) x).now=x.now/\(L.foldl (qB ow t a) x).st.length=x.st.length/\(L.foldl (qB ow t a) x).qs=x.qs:=by
 induction L generalizing x with
 |nil=>exact⟨rfl,rfl,rfl,rfl⟩
 |cons i L ih=>rw[uI];obtain⟨a,b,c,d⟩:=ih (qB ow t a x i);exact⟨a,b,c.trans (by simp[qB]),d⟩
section
variable {W0 W V:AW} {ob sb qb:Nat} {bq:Nat->Nat} {x x':cS} {sv:ad} {o:kP} {s:Int}
def fA.Kd(h:fA W0 W ob sb qb bq x sv o s):bu (.pointer (some ⟨ob,12,none⟩)) W=some (.ae o.n,W):=h.ld rfl
def ahs{R:ai.Fr}{U:AW}{n:Nat}{v0 vr:ad}{K:LT->Option (ad×AW)}{G:ad×AW->Prop}(h:fA W0 U ob sb qb bq x sv o s)(hn:x.st.length=n)(hn2:n<=10000)
 (r0:R 0=v0)(r2:R 2=vr)(r3:R 3=oa U.next n)(r21:R 21=fI sb n)(r22:R 22=.ae (n:Int))(r23:R 23=.ae 0)
 (hK:∀R' V,R' 0=v0->R' 2=vr->R' 3=oa U.next n->Le U V->OV V (oa U.next n) (y5 x)->Ok (K (.exit 0,R',V)) G):Ok (eY (fV (gP aY) R (U.add (.cells (List.replicate n (.bool false))))) K) G:=by
 refine a8 n (by omega) (λk R V=>Le U V/\U.next<V.next/\R 0=v0/\R 2=vr/\R 3=oa U.next n/\R 21=fI sb n/\R 22=.ae (n:Int)/\R 23=.ae (k:Int)/\∃cs,V.get U.next=some (.cells cs)/\cs.length=n/\cs.take k=((y5 x).take k).map Value.bool)
  (λr=>r.1=.exit 0/\Le U r.2.2/\U.next<r.2.2.next/\r.2.1 0=v0/\r.2.1 2=vr/\r.2.1 3=oa U.next n/\r.2.2.get U.next=some (.cells ((y5 x).map Value.bool)))
  ⟨(Le.refl _).add _,by rw[AW.av];omega,r0,r2,r3,r21,r22,r23,_,AW.aL _ _,mh,by simp⟩ ?_ ?_ ?_
 ·rintro k R V hk ⟨aM,Mi,r0,r2,r3,r21,r22,r23,cs,c1,c2,c3⟩;unfold gP;have t1:decide ((k:Int)<(n:Int))=true:=cd;have t2:=λW'=>bc W' k 1
  have e3:((k+1:Nat):Int)=(k:Int)+1:=by omega
  have hV:=h.mono aM;have ls:=hV.lsi (show k<x.st.length by omega);have WO:=MF (x:=cr x k) (AW.aL V (.cells (dJ Cv)));rw[jy]at WO;have l0:bu (.pointer (some ⟨V.next,0,none⟩)) (V.add (.cells (dJ (cr x k))))=some (.ae (cr x k).st,V.add (.cells (dJ (cr x k)))):=aP bC rfl;have g1:(V.add (.cells (dJ (cr x k)))).get U.next=some (.cells cs):=(AW.aG _ _ (by omega)).trans c1;have sb1:fm 1 (.pointer (some ⟨U.next,k,none⟩)) (.bool (decide ((cr x k).st=0))) (V.add (.cells (dJ (cr x k))))=some (ak,(V.add (.cells (dJ (cr x k)))).put U.next (.cells (cs.set k (.bool (decide ((cr x k).st=0)))))):=by rw[Aq,cT g1,bM,kH]
  simp only[SX,r3,r21,r22,r23,t1,rE hk,ls,p7,WO,aI,l0,ixQ hk,sb1,t2,af];refine .inl ⟨aj,(aM.add _).put (aR _) _,by rw[AW.bH,AW.av];omega,r0,r2,r3,r21,r22,by rw[e3];rfl,_,AW.aW _ _ _,by simp[c2],?_⟩;have hkf:k<(y5 x).length:=by unfold y5;rw[fj];omega
  have ef:(y5 x)[k]=decide ((cr x k).st=0):=by simp only[y5,List.getElem_map];congr 2;simp[cr,bJ (show k<x.st.length by omega)]
  rw[iY (show k<(cs.set k (.bool (decide ((cr x k).st=0)))).length by simp;omega),List.take_set_of_le (aR _),AK,c3,iY hkf,qX,ef];rfl
 ·rintro R V ⟨aM,Mi,r0,r2,r3,r21,r22,r23,cs,c1,c2,c3⟩;unfold gP;have t1:decide ((n:Int)<(n:Int))=false:=bS;simp only[SX,r22,r23,t1,af];have e1:cs.take n=cs:=ou (by omega);have e2:(y5 x).take n=y5 x:=ou (by unfold y5;rw[fj];omega);rw[e1,e2]at c3;rw[c3]at c1;exact⟨by simp,aj,aM,Mi,r0,r2,r3,c1⟩
 ·rintro⟨e,R,V⟩ ⟨rfl,h1,h2,h3,h4,h5,h6⟩;have wO:(y5 x).length=n:=by unfold y5;rw[fj];exact hn
  refine hK R V h3 h4 h5 h1 ⟨_,n,by rw[wO],.inr ⟨U.next,0,_,rfl,h2,ao h6,?_⟩⟩;have e:(y5 x).flatMap blC=(y5 x).map Value.bool:=by
   induction y5 x with
   |nil=>rfl
   |cons a l ih=>rw[fN,ih];rfl
  rw[e,jB,iI,ou (by rw[fj];exact aR _)]
def aa7{R:ai.Fr}{U:AW}{a n:Nat}{t:Int}{vr:ad}{K:LT->Option (ad×AW)}{G:ad×AW->Prop}(h:fA W0 U ob sb qb bq x sv o s)(hx:a+n<=x.st.length)(hx2:x.st.length<=10000)(hn:n<=100)
 (r0:R 0=ba ob)(r2:R 2=vr)(r6:R 6=.ae (a:Int))(r8:R 8=.ae t)(r71:R 71=.ae (n:Int))(r72:R 72=.ae 0)
 (hK:∀R' V,R' 0=ba ob->R' 2=vr->R' 6=.ae (a:Int)->R' 8=.ae t->fA W0 V ob sb qb bq (Rs x a n o.ow t) sv o s->Fr U V sb qb->Ok (K (.exit 2,R',V)) G):Ok (eY (fV (gQ aY) R U) K) G:=by
 refine a8 n (by omega) (λk R V=>fA W0 V ob sb qb bq ((List.range k).foldl (qB o.ow t a) x) sv o s/\Fr U V sb qb/\R 0=ba ob/\R 2=vr/\R 6=.ae (a:Int)/\R 8=.ae t/\R 71=.ae (n:Int)/\R 72=.ae (k:Int))
  (λr=>r.1=.exit 2/\r.2.1 0=ba ob/\r.2.1 2=vr/\r.2.1 6=.ae (a:Int)/\r.2.1 8=.ae t/\fA W0 r.2.2 ob sb qb bq (Rs x a n o.ow t) sv o s/\Fr U r.2.2 sb qb) ⟨h,.refl _ _ _,r0,r2,r6,r8,r71,r72⟩ ?_ ?_ ?_
 ·rintro k R V hk ⟨hO,hF,r0,r2,r6,r8,r71,r72⟩;unfold gQ;have t1:decide ((k:Int)<(n:Int))=true:=cd;have t2:=λW'=>bc W' k 1
  have t3:=λW'=>fh W' a k
  have e3:((k+1:Nat):Int)=(k:Int)+1:=by omega
  have e4:(a:Int)+k=((a+k:Nat):Int):=by omega
  obtain⟨s1,s2,s3,s4⟩:=zP o.ow t a x (List.range k);generalize hy:(List.range k).foldl (qB o.ow t a) x=y at *;have hi:a+k<y.st.length:=by omega
  have LD:=hO.lsi hi;have ug:=zj (z:=M4 (cr y (a+k)) o.ow t) hO.gs (show y.st[a+k]? =some (cr y (a+k))by rw[bJ hi];simp[cr,bJ hi]);have Wz:∀b,b≠sb->(V.put sb (.cells ((y.st.set (a+k) (M4 (cr y (a+k)) o.ow t)).flatMap dJ))).get b=V.get b:=λb hb=>AW.ay _ _ (bh hb)
  have hf1:Fr V (V.put sb (.cells ((y.st.set (a+k) (M4 (cr y (a+k)) o.ow t)).flatMap dJ))) sb qb:=⟨aR _,λb _ h1 _=>Wz b h1⟩;have Pg:=hO.step (x':={y with st:=y.st.set (a+k) (M4 (cr y (a+k)) o.ow t)}) hf1 rfl rfl (by simp) rfl (AW.aW _ _ _) (hO.gq.keep (Wz _ (bh hO.ne.2.2)) λj=>Wz _ (hO.nq j).2.2.2.1);simp only[SX,r0,r6,r8,r71,r72,t1,t3,e4,aS,aI,Nat.reduceAdd,hO.l5,rE hi,LD,hO.l8,AV,cV,fJ,fM,ug,t2,af];refine .inl ⟨aj,?_,hF.trans hf1,r0,r2,r6,r8,r71,by rw[e3];rfl⟩;rw[qW,Bn,hy];exact Pg
 ·rintro R V ⟨hO,hF,r0,r2,r6,r8,r71,r72⟩;unfold gQ;have t1:decide ((n:Int)<(n:Int))=false:=bS;simp only[SX,r71,r72,t1,af];exact⟨by simp,aj,r0,r2,r6,r8,hO,hF⟩
 ·rintro⟨e,R,V⟩ ⟨rfl,a1,a2,a3,a4,a5,a6⟩;exact hK R V a1 a2 a3 a4 a5 a6
def nz(x:cS)(k:Nat)(n:Int):Int×Int:=qQ x.v k n (y5 x)
def oh(x:cS)(k:Nat)(n ow:Int):cS:=if(nz x k n).2=0 then Rs x (nz x k n).1.toNat n.toNat ow (eu x.now x.v.cL)else x
def Av(x:cS)(k:Nat)(n:Int):mE:=if(nz x k n).2=0 then rpB (nz x k n).1 n (eu x.now x.v.cL)else pY (nz x k n).2
def aaZ(h:fA W0 W ob sb qb bq x sv o s)(yS:sb<ob/\qb<ob)(he:(dn x.v).2=0)(hv:x.v.ax.length<1000){k:Nat}(PG:o.sc=(k:Int))(hk:k<x.v.ax.length)(ug:(x.st.length:Int)=bG x.v.ax)(hn:1<=o.n/\o.n<=8)(yx:x.now<9223372036854775808)(aj3:x.v.cL<9223372036854775808):
 lC W0 W ob sb qb bq sv o s 126 (oh x k o.n o.ow) (Av x k o.n):=by
 refine mS h yS yC ?_;unfold tD;obtain⟨V,al,aM,n2,g2⟩:=ni W;have h1:=h.mono aM;have ht:=(BZ he hk).2.2.2.2.2.1;have Uc:=h.hi;have wd:Le V (V.add (.cells (List.replicate x.st.length (.bool false)))):=(Le.refl V).add _;have Gb:=h1.mono wd;simp only[SX,al,aS,aI,h1.l5,df uK,apR (show x.st.length<=10000 by omega),Gb.l5];refine ahs (v0:=ba ob) (vr:=ba W.next) h1 rfl (by omega) rfl rfl rfl rfl rfl rfl ?_;intro R2 V2 q0 q2 q3 q4 q5;have h2:=h1.mono q4;have wO:((y5 x).length:Int)=bG x.v.ax:=by unfold y5;rw[fj];exact ug
 have Li:=ahQ (n:=o.n) (h2.sec.mono h2.le) he hv hk q5 wO hn;rw[show qQ x.v k o.n (y5 x)=nz x k o.n from rfl]at Li;have g3:V2.get W.next=some (.cells (jr gz)):=(q4.get _ (by omega)).trans g2;by_cases c:(nz x k o.n).2=0
 ·have e1:oh x k o.n o.ow=Rs x (nz x k o.n).1.toNat o.n.toNat o.ow (eu x.now x.v.cL):=an c;have e2:Av x k o.n=rpB (nz x k o.n).1 o.n (eu x.now x.v.cL):=an c;rw[e1,e2];have nH:=Qq he hk (show(qQ x.v k o.n (y5 x)).2=0 from c);rw[show qQ x.v k o.n (y5 x)=nz x k o.n from rfl]at nH;have d:=aK c;have ea:(nz x k o.n).1=(((nz x k o.n).1.toNat:Nat):Int):=by omega
  have en:o.n=((o.n.toNat:Nat):Int):=by omega
  simp only[SX,q0,q2,q3,aS,aI,Nat.reduceAdd,h2.l4,h2.l11,PG,h2.Kd,Li,d,h2.l1,ze h2 yx aj3];refine aa7 (a:=(nz x k o.n).1.toNat) (n:=o.n.toNat) (t:=eu x.now x.v.cL) (vr:=ba W.next) h2 (by omega) (by omega) (by omega) q0 q2 (by rw[<-ea];rfl) rfl (by rw[<-en];rfl) rfl ?_;intro R3 V3 z0 z2 z6 z8 zO zF;have g4:V3.get W.next=some (.cells (jr gz)):=(zF.2 _ (by have:=q4.next;omega) (by omega) (by omega)).trans g3;obtain⟨p1,p2⟩:=ud g4 (rpB (nz x k o.n).1 o.n (eu x.now x.v.cL));rw[<-ea]at z6;simp only[SX,z0,z2,z6,z8,aS,aI,Nat.reduceAdd,zO.Kd,acn,p1,p2,af];exact⟨aj,gt h zO ((Fr.of_le (aM.trans q4)).trans zF) (aR _) _⟩
 ·have e1:oh x k o.n o.ow=x:=aq c;have e2:Av x k o.n=pY (nz x k o.n).2:=aq c;rw[e1,e2];obtain⟨p1,p2⟩:=ud g3 (pY (nz x k o.n).2);have d:=aJ c;simp only[SX,q0,q2,q3,aS,aI,Nat.reduceAdd,h2.l4,h2.l11,PG,h2.Kd,Li,d,km,p1,p2,af];exact⟨aj,gt h h2 (.of_le (aM.trans q4)) (aR _) _⟩
end
def yM(x:cS)(k:Nat):Int:=if yK x.v k<((ik x k).length:Int)then 3 else if(ik x k).Nodup then 0 else 8
def qE(x:cS):Nat->Int
 |0=>0
 |k+1=>if qE x k=0 then yM x k else qE x k
def IB{x:cS}{k n:Nat}(h:qE x k≠0)(hn:k<=n):qE x n=qE x k:=by
 induction n with
 |zero=>obtain rfl:k=0:=by omega
        rfl
 |succ n ih=>
  by_cases e:k=n+1
  ·subst e;rfl
  ·have:=ih (by omega);show(if qE x n=0 then yM x n else qE x n)=_;rw[aq (by rw[this];exact h),this]
def T2(x:fq):Bool:= !decide (D8 x=0)
def Sn(x:cS):Int:=if(cn x.v).2=0 then(if x.now<0 then 7 else if(x.st.length:Int)≠(cn x.v).1 then 6 else if x.qs.length≠x.v.ax.length then 6 else if x.st.any T2=true then 6 else qE x x.qs.length)else(cn x.v).2
def afq(y:fq)(W:AW):aY (.func (.func 96) #[] #[]) [iS y] W=some (.bool (T2 y),W):=by refine aQ rfl ?_ Fg;unfold Ca T2;simp(maxDischargeDepth:=9) only[SX,MX,HX,Nat.reduceAdd,nu]
def aaU{f v:ad}{p:fq->Bool}{l:List fq}{W:AW}(h:Qb W v l)(hl:l.length<=10000)(hp:∀y,aY f [iS y] W=some (.bool (p y),W)):aY (.func (.func 121) #[] #[]) [v,f] W=some (.ae (nc p l),W):=by
 refine aQ rfl ?_ kM;unfold gg;simp only[SX,jm h uK];refine a8 l.length (by omega) (λk R W'=>W'=W/\R 0=v/\R 1=f/\R 7=.ae (l.length:Int)/\R 8=.ae (k:Int)/\(l.take k).any p=false)
  (λr=>r.2.2=W/\((r.1=.exit 0/\nc p l= -1)\/(r.1=.ret/\r.2.1 4=.ae (nc p l)))) ⟨rfl,rfl,rfl,rfl,rfl,rfl⟩ ?_ ?_ ?_
 ·rintro k R W' hk ⟨rfl,h0,h1,h7,h8,ha⟩;unfold dy;obtain⟨b,o,g1,-,g2⟩:=Qb.get h hk;have e1:((k:Int)<(l.length:Int)):=by omega
  have e2:(k:Int)+1=((k+1:Nat):Int):=by omega
  have ea:=bc W' k 1;simp only[SX,h0,h1,h7,h8,e1,g1,g2 _ rfl,hp];cases hx:p l[k]
  ·simp only[SX,ea,af];exact .inl ⟨aj,aj,h0,h1,h7,by rw[<-e2];rfl,qA hk hx ha⟩
  ·simp only[SX,af];exact .inr ⟨by simp,aj,.inr ⟨aj,by rw[wt hk hx ha];rfl⟩⟩
 ·rintro R W' ⟨rfl,h0,h1,h7,h8,ha⟩;unfold dy;have e1:¬((l.length:Int)<(l.length:Int)):=by omega
  rw[cO]at ha;simp only[SX,h7,h8,e1,af];exact⟨by simp,aj,.inl ⟨aj,wk ha⟩⟩
 ·rintro⟨y,R,W'⟩ ⟨hW,hq⟩;simp only at hW hq;subst hW;rcases hq with⟨rfl,hq⟩|⟨rfl,h4⟩
  ·simp(maxDischargeDepth:=9) only[SX,MX,HX,hq]
  ·simp(maxDischargeDepth:=9) only[SX,MX,HX,h4]
def QD{W:AW}{v:ad}{l:List fq}(h:Qb W v l)(hl:l.length<=10000):aY (.func (.func 95) #[] #[]) [v,.func (.func 96) #[] #[]] W=some (.bool (l.any T2),W):=by refine aQ rfl ?_ jK;unfold fB;simp(maxDischargeDepth:=9) only[SX,MX,HX,aaU h hl (λy=>afq y W),Ag]
def aqP:Tryz.prog.underlying 166=some (.map 43 4):=by kernel_rfl
def u35:Tryz.prog.underlying 43=some (.int .u32):=by kernel_rfl
def alW(W:AW):vf Tryz.prog 166 none W=some (.map (some W.next),W.add (.map [] 0)):=aT (by kernel_rfl) rfl
def akw{R:ai.Fr}{U:AW}{r:Nat}{n:Nat}{qv v1 v46 v47 v48:ad}{l:List Int}{K:LT->Option LT}{G:LT->Prop}(hq:Qa U qv l)(hn:l.length=n)(hn2:n<=10000)(hr:r=U.next)
 (r1:R 1=v1)(r46:R 46=v46)(r47:R 47=v47)(r48:R 48=v48)(r7:R 7=.map (some r))(r64:R 64=qv)(r65:R 65=.ae (n:Int))(r66:R 66=.ae 0)
 (hK:∀R' V x,Le U V->((x=.exit 3/\l.Nodup/\R' 1=v1/\R' 46=v46/\R' 47=v47/\R' 48=v48)\/(x=.ret/\¬l.Nodup/\R' 2=.ae 8))->Ok (K (x,R',V)) G):Ok (eY (fV (kI aY) R (U.add (.map [] 0))) K) G:=by
 subst hr;refine a8 n (by omega) (λk R V=>Le U V/\R 1=v1/\R 46=v46/\R 47=v47/\R 48=v48/\R 7=.map (some U.next)/\R 64=qv/\R 65=.ae (n:Int)/\R 66=.ae (k:Int)/\(l.take k).Nodup/\∃c,abR V U.next (λz=>if z∈l.take k then some (.bool true)else none) c)
  (λr=>Le U r.2.2/\((r.1=.exit 3/\l.Nodup/\r.2.1 1=v1/\r.2.1 46=v46/\r.2.1 47=v47/\r.2.1 48=v48)\/(r.1=.ret/\¬l.Nodup/\r.2.1 2=.ae 8)))
  ⟨(Le.refl _).add _,r1,r46,r47,r48,r7,r64,r65,r66,by simp,0,by simpa using abn⟩ ?_ ?_ ?_
 ·rintro k R V hk ⟨aM,r1,r46,r47,r48,r7,r64,r65,r66,G8,c,hm⟩;unfold kI;have hkl:k<l.length:=by omega
  have t1:decide ((k:Int)<(n:Int))=true:=cd;have t2:=λW'=>bc W' k 1
  have e3:((k+1:Nat):Int)=(k:Int)+1:=by omega
  obtain⟨b,o,g1,g2,g3⟩:=Qa.get hq hkl;have lk:=g3 V (aM.get _ g2);have hg:=acZ hm aqP u35 z4 l[k];have Lp:l.take (k+1)=l.take k++[l[k]]:=iY hkl;by_cases c0:l[k]∈l.take k
  ·rw[an c0]at hg;simp only[SX,r7,r64,r65,r66,t1,g1,lk,hg,oL,af];refine .inr ⟨by simp,aM,.inr ⟨aj,λhn=>?_,rfl⟩⟩;have h1:(l.take (k+1)).Nodup:=hn.sublist (List.take_sublist _ _);rw[Lp,Bt]at h1;exact h1.2.2 _ c0 _ (by simp) rfl
  ·rw[aq c0]at hg;obtain⟨es,cc,k1,k2⟩:=aap hm aqP u35 l[k] (.bool true);simp only[SX,r7,r64,r65,r66,t1,g1,lk,hg,Option.getD_none,k1,t2,af];refine .inl ⟨aj,aM.put (aR _) _,r1,r46,r47,r48,r7,r64,r65,by rw[e3];rfl,?_,(if(if l[k]∈l.take k then some (Value.bool true)else none).isSome then c else c+1),?_⟩
   ·rw[Lp,Bt];refine⟨G8,by simp,λa ha b hb=>?_⟩;rw[ki]at hb;subst hb;exactλe=>c0 (e▸ha)
   ·have e:(λz=>if z∈l.take (k+1)then some (Value.bool true)else none)=λz=>if z=l[k]then some (Value.bool true)else(if z∈l.take k then some (.bool true)else none):=by
     funext z;rw[Lp];by_cases h1:z=l[k]
     ·rw[an h1,an (by rw[h1];exact List.mem_append_right _ (List.mem_singleton_self _))]
     ·rw[aq h1];simp only[mj,ki,h1,or_false]
    rw[e];exact k2
 ·rintro R V ⟨aM,r1,r46,r47,r48,r7,r64,r65,r66,G8,c,hm⟩;unfold kI;have t1:decide ((n:Int)<(n:Int))=false:=bS;rw[<-hn,cO]at G8;simp only[SX,r65,r66,t1,af];exact⟨by simp,aM,.inl ⟨aj,G8,r1,r46,r47,r48⟩⟩
 ·rintro⟨e,R,V⟩ ⟨h1,h2⟩;exact hK R V e h1 h2
def VC{W:AW}{x:cS}{sv sq qq:ad}(hs:fC W sv x.v.ax)(hv:x.v.ax.length<1000)(n8:Qb W sq x.st)(hq:Qf W qq x.qs)(hn:x.st.length<=10000)(hqn:x.qs.length<=10000)(hl:∀l∈x.qs,l.length<=10000):
 aY (.func (.func 56) #[] #[]) [ky x sv sq qq] W=some (.ae (Sn x),W):=by
 refine aQ rfl ?_ Js;unfold HK Sn;obtain⟨V,hV⟩:∃V,V=W.add (.cells (eT x sv sq qq)):=⟨_,rfl⟩;have aM:Le W V:=by rw[hV];exact(Le.refl W).add _
 have g1:V.get W.next=some (.cells (eT x sv sq qq)):=by rw[hV];exact AW.aL _ _
 have nV:V.next=W.next+1:=by rw[hV];rfl
 have l4:dF 4 (.pointer (some ⟨W.next,0,none⟩)) V=some (fH x.v sv,V):=bz (ao g1) rfl;have l3:∀U,Le V U->bu (.pointer (some ⟨W.next,3,none⟩)) U=some (sv,U):=λU hU=>aP (ao ((hU.get _ (by omega)).trans g1)) rfl
 have ln:bu (.pointer (some ⟨W.next,4,none⟩)) V=some (.ae x.now,V):=aP (ao g1) rfl;have l5:bu (.pointer (some ⟨W.next,5,none⟩)) V=some (sq,V):=aP (ao g1) rfl;have l6:bu (.pointer (some ⟨W.next,6,none⟩)) V=some (qq,V):=aP (ao g1) rfl;have ug:=KE (W:=V) (hs.mono aM) hv;simp only[SX];rw[<-hV];clear hV;simp only[SX,aI,l4,ug];by_cases c1:(cn x.v).2=0;case neg=>have d:=aJ c1;simp only[SX,d,aq c1,af];exact⟨aj,aM⟩
 have d1:=aK c1;rw[an c1];by_cases c2:x.now<0
 ·have d:=aK c2;simp only[SX,d1,ln,d,an c2,af];exact⟨aj,aM⟩
 have d2:=aJ c2;rw[aq c2];have lq:=Row.len hq Ab;have LD:=jm n8 uK;by_cases c3:(x.st.length:Int)≠(cn x.v).1
 ·have d:=aJ c3;simp only[SX,d1,ln,d2,l5,LD,d,an c3,af];exact⟨aj,aM⟩
 have d3:decide ((x.st.length:Int)=(cn x.v).1)=true:=aK (Iz.1 c3);rw[aq c3];by_cases c4:x.qs.length≠x.v.ax.length
 ·have d:decide ((x.qs.length:Int)=(x.v.ax.length:Int))=false:=bS;simp only[SX,d1,aI,ln,d2,l5,LD,d3,l6,lq,l3 _ (Le.refl _),Row.len hs.1 zg,d,an c4,af];exact⟨aj,aM⟩
 have d4:decide ((x.qs.length:Int)=(x.v.ax.length:Int))=true:=cd;rw[aq c4];by_cases c5:x.st.any T2=true
 ·simp only[SX,d1,aI,ln,d2,l5,LD,d3,l6,lq,l3 _ (Le.refl _),Row.len hs.1 zg,d4,QD (n8.keep aM) hn,c5,bi,af];exact⟨aj,aM⟩
 have c5':x.st.any T2=false:=uY.2 c5;rw[aq c5];simp only[SX,d1,aI,ln,d2,l5,LD,d3,l6,lq,l3 _ (Le.refl _),Row.len hs.1 zg,d4,QD (n8.keep aM) hn,c5'];refine a8 x.qs.length (by omega) (λk R U=>Le V U/\R 1=ba W.next/\R 46=qq/\R 47=.ae (x.qs.length:Int)/\R 48=.ae (k:Int)/\qE x k=0)
  (λr=>Le V r.2.2/\((r.1=.exit 1/\qE x x.qs.length=0)\/(r.1=.ret/\r.2.1 2=.ae (qE x x.qs.length)))) ⟨Le.refl _,rfl,rfl,rfl,rfl,rfl⟩ ?_ ?_ ?_
 ·rintro k R U hk ⟨hU,r1,r46,r47,r48,hz⟩;unfold tN;have t1:decide ((k:Int)<(x.qs.length:Int))=true:=cd;have t2:=λW'=>bc W' k 1
  have e3:((k+1:Nat):Int)=(k:Int)+1:=by omega
  obtain⟨b,i,u,p1,p2,p3,p4⟩:=hq.get hk;have lu:=p4 U ((aM.trans hU).get _ p2);have Vb:k<x.v.ax.length:=by omega
  obtain⟨b',i',rv,s1,-,-,-,-,s5⟩:=ig.get hs.1 Vb;have e0:x.qs[k]=ik x k:=by simp[ik,bJ hk]
  have eq0:x.v.ax[k].q=yK x.v k:=by unfold yK;rw[bJ Vb];rfl
  have ZW:=s5 U (aM.trans hU);rw[eq0]at ZW;rw[e0]at p3;have ul:=jm p3 oJ;have uD:qE x (k+1)=yM x k:=by show(if qE x k=0 then yM x k else qE x k)=_;rw[an hz]
  by_cases c6:yK x.v k<((ik x k).length:Int)
  ·have d:=aK c6;simp only[SX,r1,r46,r47,r48,t1,p1,lu,ul,aI,l3 _ hU,s1,ZW,d,af];have hb:yM x k=3:=an c6;refine .inr ⟨by simp,hU,.inr ⟨aj,?_⟩⟩;rw[IB (k:=k+1) (by rw[uD,hb];decide) (by omega),uD,hb];rfl
  ·have d:=aJ c6;simp only[SX,r1,r46,r47,r48,t1,p1,lu,ul,aI,l3 _ hU,s1,ZW,d,alW];refine akw (U:=U) (r:=U.next) (n:=(ik x k).length) (qv:=u) (v1:=ba W.next) (v46:=qq) (v47:=.ae (x.qs.length:Int)) (v48:=.ae (k:Int)) (p3.keep (aM.trans hU)) rfl (by rw[<-e0];exact hl _ (cG _)) rfl r1 r46 r47 r48 rfl rfl rfl rfl ?_;intro R' V' e Zo hr;rcases hr with⟨rfl,G8,q1,q46,q47,q48⟩|⟨rfl,G8,q2⟩
   ·have hb:yM x k=0:=by unfold yM;rw[aq c6,an G8]
    simp only[SX,q48,t2,af];exact .inl ⟨aj,hU.trans Zo,q1,q46,q47,by rw[e3];rfl,by rw[uD,hb]⟩
   ·have hb:yM x k=8:=by unfold yM;rw[aq c6,aq G8]
    simp only[SX,af];refine .inr ⟨by simp,hU.trans Zo,.inr ⟨aj,?_⟩⟩;rw[IB (k:=k+1) (by rw[uD,hb];decide) (by omega),uD,hb];exact q2
 ·rintro R U ⟨hU,r1,r46,r47,r48,hz⟩;unfold tN;have t1:decide ((x.qs.length:Int)<(x.qs.length:Int))=false:=bS;simp only[SX,r47,r48,t1,af];exact⟨by simp,hU,.inl ⟨aj,hz⟩⟩
 ·rintro⟨e,R,U⟩ ⟨hU,hr⟩;rcases hr with⟨rfl,hz⟩|⟨rfl,hz⟩
  ·simp only[SX,hz,af];exact⟨aj,aM.trans hU⟩
  ·simp only at hz;simp only[SX,hz,af];exact⟨aj,aM.trans hU⟩
def QO(x:cS)(nw:Int):∃L,yb x nw L:=by
 classical
 refine⟨(fE x nw).mergeSort (λa b=>decide (Rx x a b\/a=b)),I6 _ _,?_⟩;have h1:=List.pairwise_mergeSort (le:=λa b=>decide (Rx x a b\/a=b)) (λa b c h1 h2=>by
  simp only[iA]at *;rcases h1 with h1|rfl
  ·rcases h2 with h2|rfl
   ·exact .inl (LF.trans h1 h2)
   ·exact .inl h1
  ·exact h2) (λa b=>by
  simp only[pd,iA];unfold Rx LF;omega) (fE x nw);have h2:((fE x nw).mergeSort (λa b=>decide (Rx x a b\/a=b))).Nodup:=(I6 _ _).nodup_iff.2 ((List.nodup_range (n:=x.st.length)).filter _);refine(h1.and h2).imp λ{a b} hh=>?_
 have h3:=hh.1;simp only[iA]at h3;rcases h3 with h3|h3
 ·exact h3
 ·exact absurd h3 hh.2
noncomputable def I8(x:cS)(nw:Int):List Nat:=Classical.choose (QO x nw)
def W9(x:cS)(nw:Int):yb x nw (I8 x nw):=xO (QO x nw)
def cN(o:kP):Int:=(FK o.k o.se o.sc o.t1 0).1
def pr(o:kP):Int:=(FK o.k o.se o.sc o.t1 0).2.1
noncomputable def bX(x:cS)(o:kP):cS×mE:=
 if o.k=1 then(x,Ul (eu x.now x.v.eO))else
 if o.k=2 then(Ng x (cN o).toNat (M4 (cr x (cN o).toNat) o.ow (eu x.now x.v.cL)) (Oj (cr x (cN o).toNat) (eu x.now x.v.cL)),hoR (Oj (cr x (cN o).toNat) (eu x.now x.v.cL)) (eu x.now x.v.cL))else
 if o.k=3 then(oh x (pr o).toNat o.n o.ow,Av x (pr o).toNat o.n)else
 if o.k=4 then(Tx x (cN o).toNat (Mg (cr x (cN o).toNat) o.ow) (lW (cr x (cN o).toNat) o.ow),pY (lW (cr x (cN o).toNat) o.ow))else
 if o.k=5 then(Ng x (cN o).toNat (Ge (cr x (cN o).toNat) o.ow) (EX (cr x (cN o).toNat) o.ow),Z3 (cN o).toNat (Ge (cr x (cN o).toNat) o.ow) (EX (cr x (cN o).toNat) o.ow))else
 if o.k=6 then(Ng x (cN o).toNat (Ym (cr x (cN o).toNat) (wE o) o.to) (Zh (cr x (cN o).toNat) (wE o)),Z3 (cN o).toNat (Ym (cr x (cN o).toNat) (wE o) o.to) (Zh (cr x (cN o).toNat) (wE o)))else
 if o.k=7 then(Tx x (cN o).toNat (rfS (cr x (cN o).toNat) (wE o)) (Cz (cr x (cN o).toNat) (wE o)),pY (Cz (cr x (cN o).toNat) (wE o)))else
 if o.k=8 then(Tx x (cN o).toNat (rvS (cr x (cN o).toNat)) (Y7 (cr x (cN o).toNat)),pY (Y7 (cr x (cN o).toNat)))else
 if o.k=9 then(x,pY (Cz (cr x (cN o).toNat) (wE o)))else
 if o.k=10 then(yn x (pr o).toNat o.ow,y9 x (pr o).toNat o.ow)else
 if o.k=11 then(sI x (pr o).toNat o.ow,F3 x (pr o).toNat o.ow)else
 if o.nw<x.now then(x,pY 18)else(zl x o.nw (I8 x o.nw),gz)
def Qe(x:cS)(o:kP):Int:=wrE x.now (cN o) (pr o) (x.st.length:Int) (x.qs.length:Int) o
noncomputable def yX(x:cS)(o:kP):cS×mE×Int:=
 if zZ o=0 then(if Qe x o=0 then(if(bX x o).2.er=0 then((bX x o).1,(bX x o).2,0)else(x,(bX x o).2,0))else(x,pY (Qe x o),0))else(x,gz,zZ o)
noncomputable def wm(x:cS)(o:kP):cS×mE×Int:=if Sn x=0 then yX x o else(x,gz,Sn x)
structure MdG (x:cS):Prop where
 Db:(dn x.v).2=0
 now:0<=x.now
 st:(x.st.length:Int)=bG x.v.ax
 qs:x.qs.length=x.v.ax.length
 se:∀y∈x.st,D8 y=0
 q:∀k,k<x.qs.length->(ik x k).length<=64/\(ik x k).Nodup
def adm{x:cS}:∀{n:Nat},qE x n=0->∀k,k<n->yM x k=0
 |0,_,k,hk=>by omega
 |n+1,h,k,hk=>by
  have h':(if qE x n=0 then yM x n else qE x n)=0:=h;by_cases c:qE x n=0
  ·rw[an c]at h';by_cases e:k=n
   ·subst e;exact h'
   ·exact adm c k (by omega)
  ·rw[aq c]at h';exact absurd h' c
def abY{x:cS}(h:Sn x=0):MdG x:=by
 unfold Sn at h;have hv:(dn x.v).2=0:=by
  by_cases c:(dn x.v).2=0
  ·exact c
  ·exfalso;have e:(cn x.v).2≠0:=by unfold cn;rw[aq c];exact c
   rw[aq e]at h;exact e h
 have e2:(cn x.v).2=0:=by unfold cn;rw[an hv]
 have e1:(cn x.v).1=bG x.v.ax:=by unfold cn;rw[an hv]
 rw[an e2]at h;by_cases c1:x.now<0
 ·rw[an c1]at h;exact absurd h (by decide)
 rw[aq c1]at h;by_cases c2:(x.st.length:Int)≠(cn x.v).1
 ·rw[an c2]at h;exact absurd h (by decide)
 rw[aq c2]at h;by_cases c3:x.qs.length≠x.v.ax.length
 ·rw[an c3]at h;exact absurd h (by decide)
 rw[aq c3]at h;by_cases c4:x.st.any T2=true
 ·rw[an c4]at h;exact absurd h (by decide)
 rw[aq c4]at h;have hqs:x.qs.length=x.v.ax.length:=Iz.1 c3;refine⟨hv,by omega,by rw[<-e1];exact Iz.1 c2,hqs,λy hy=>?_,λk hk=>?_⟩
 ·have c5:=uY.2 c4;rw[IM]at c5;have:=c5 y hy;unfold T2 at this;simpa using this
 ·have hb:=adm h k hk;unfold yM at hb;by_cases c6:yK x.v k<((ik x k).length:Int)
  ·rw[an c6]at hb;exact absurd hb (by decide)
  rw[aq c6]at hb;have G8:(ik x k).Nodup:=by
   by_cases c7:(ik x k).Nodup
   ·exact c7
   ·rw[aq c7]at hb;exact absurd hb (by decide)
  refine⟨?_,G8⟩;have Vb:k<x.v.ax.length:=by omega
  obtain⟨-,-,-,EZ,-,-⟩:=cF hv;have hq:yK x.v k=x.v.ax[k].q:=by unfold yK;rw[bJ Vb];rfl
  have hz:wP x.v.ax[k] (x.v.ax.take k)=0:=by
   have aoO:oI x.v.ax k=none:=by
    cases e:oI x.v.ax k with
    |none=>rfl
    |some r=>rw[sy e (by omega:k<=x.v.ax.length)]at EZ;cases EZ
   have uD:=AP aoO Vb;by_cases e:wP x.v.ax[k] (x.v.ax.take k)=0
   ·exact e
   ·rw[aq e]at uD;rw[sy uD (by omega:k+1<=x.v.ax.length)]at EZ;cases EZ
  have:=(A6 hz).2.2.2.2.2;omega
def aeL{v:ge}(h:(dn v).2=0):1<=v.cL/\v.cL<=1000000000/\1<=v.eO/\v.eO<=1000000000/\1<=v.sh/\v.sh<=16:=by have:=(cF h).2.1;unfold Ev mu at this;simp at this;omega
def aeb{v:ge}(he:(dn v).2=0){s:Nat}(hs:(s:Int)<bG v.ax):tV v s<v.ax.length:=by
 obtain⟨hg,-,-,-,ht,-⟩:=cF he;have hl:=tB hg;unfold tV;rw[<-Nc];unfold Bg;have e2:(cn v).2=0:=by unfold cn;rw[an he]
 have e1:(cn v).1=bG v.ax:=by unfold cn;rw[an he]
 rw[an e2,e1,bL];simp only[vq];have Ti:s<(jb v.ax).length:=by omega
 have hm:(jb v.ax).getD s (0,0,0)∈jb v.ax:=by rw[pi,bJ Ti];exact cG _
 generalize(jb v.ax).getD s (0,0,0)=q at hm;rw[Au]at hm;obtain⟨r,hr,hq⟩:=List.mem_flatMap.1 hm;unfold yI at hq;obtain⟨j,-,rfl⟩:=mB.1 hq;exact(sK hr).1
def Wv{x:cS}{o:kP}(hk:o.k=2\/o.k=4\/o.k=5\/o.k=6\/o.k=7\/o.k=8\/o.k=9)(h:Qe x o=0):0<=cN o/\cN o<(x.st.length:Int):=by
 unfold Qe wrE BH ZX at h;rw[bL]at h;split at h
 ·omega
 split at h
 ·omega
 rw[bL]at h;split at h<;>omega
def K3{x:cS}{o:kP}(hk:o.k=3\/o.k=10\/o.k=11)(h:Qe x o=0):0<=pr o/\pr o<(x.qs.length:Int)/\(o.k=3->1<=o.n/\o.n<=8)/\o.sc=pr o:=by
 have e:pr o=o.sc:=by unfold pr FK;rw[aq (by simp),bL,bL,an hk]
 rw[e];unfold Qe wrE BH ZX at h;rw[e]at h;rw[bL]at h;split at h
 ·omega
 split at h
 ·omega
 split at h
 ·omega
 split at h<;>omega
def ahM{W0 U:AW}{ob sb qb:Nat}{bq:Nat->Nat}{x:cS}{sv:ad}{o:kP}(h:fA W0 U ob sb qb bq x sv o (cN o))(hx:QsX U qb bq x.qs)(yS:sb<ob/\qb<ob/\∀k,bq k<ob)(hg:MdG x)(hk:1<=o.k/\o.k<=12)(hw:Qe x o=0)(yx:x.now<9223372036854775808)(EO:o.nw<9223372036854775808):
 lC W0 U ob sb qb bq sv o (cN o) (123+o.k.toNat) (bX x o).1 (bX x o).2:=by
 have hvb:=aeL hg.Db;obtain⟨HE,-,Ti,-,an5,-⟩:=cF hg.Db;have dS:=HE.len;have ug:=hg.st;have hqs:=hg.qs;have Ls:sb<ob/\qb<ob:=⟨yS.1,yS.2.1⟩;have bP:(o.k=2\/o.k=4\/o.k=5\/o.k=6\/o.k=7\/o.k=8\/o.k=9)->cN o=(((cN o).toNat:Nat):Int)/\Bd x (cN o).toNat/\(cN o).toNat<4294967296:=λhk=>by obtain⟨h1,h2⟩:=Wv hk hw;refine⟨by omega,⟨by omega,?_,by omega,yx,by omega,by omega⟩,by omega⟩;rw[hqs];exact aeb hg.Db (by omega)
 have hh:∀{s:Nat},cN o=(s:Int)->fA W0 U ob sb qb bq x sv o (s:Int):=λe=>by rw[<-e];exact h
 have hl:∀k,k<x.qs.length->(ik x k).length<=1000:=λk hk=>by have:=(hg.q k hk).1;omega
 rcases(by omega:o.k=1\/o.k=2\/o.k=3\/o.k=4\/o.k=5\/o.k=6\/o.k=7\/o.k=8\/o.k=9\/o.k=10\/o.k=11\/o.k=12)with k|k|k|k|k|k|k|k|k|k|k|k
 ·have e:bX x o=(x,Ul (eu x.now x.v.eO)):=by unfold bX;rw[an k]
  rw[e,show 123+o.k.toNat=124 by rw[k];rfl];exact ZG h Ls yx (show x.v.eO<9223372036854775808 by omega)
 ·obtain⟨e1,e2,e3⟩:=bP (by omega);have e:=bX.eq_1 x o;simp only[k,Int.reduceEq,bi,b9]at e;rw[e,show 123+o.k.toNat=125 by rw[k];rfl];generalize(cN o).toNat=s at *;rw[e1]at h|-;exact Yx h Ls e2
 ·obtain⟨e1,e2,e3,e4⟩:=K3 (by omega) hw;have e:=bX.eq_1 x o;simp only[k,Int.reduceEq,bi,b9]at e;rw[e,show 123+o.k.toNat=126 by rw[k];rfl];exact aaZ h Ls hg.Db (by omega) (by rw[e4];omega) (by omega) ug (e3 k) yx (by omega)
 ·obtain⟨e1,e2,e3⟩:=bP (by omega);have e:=bX.eq_1 x o;simp only[k,Int.reduceEq,bi,b9]at e;rw[e,show 123+o.k.toNat=127 by rw[k];rfl];generalize(cN o).toNat=s at *;rw[e1]at h|-;exact Pq h Ls e2
 ·obtain⟨e1,e2,e3⟩:=bP (by omega);have e:=bX.eq_1 x o;simp only[k,Int.reduceEq,bi,b9]at e;rw[e,show 123+o.k.toNat=128 by rw[k];rfl];generalize(cN o).toNat=s at *;rw[e1]at h|-;exact aeN h Ls e2 e3
 ·obtain⟨e1,e2,e3⟩:=bP (by omega);have e:=bX.eq_1 x o;simp only[k,Int.reduceEq,bi,b9]at e;rw[e,show 123+o.k.toNat=129 by rw[k];rfl];generalize(cN o).toNat=s at *;rw[e1]at h|-;exact Mc h Ls e2 e3
 ·obtain⟨e1,e2,e3⟩:=bP (by omega);have e:=bX.eq_1 x o;simp only[k,Int.reduceEq,bi,b9]at e;rw[e,show 123+o.k.toNat=130 by rw[k];rfl];generalize(cN o).toNat=s at *;rw[e1]at h|-;exact S4 h Ls e2
 ·obtain⟨e1,e2,e3⟩:=bP (by omega);have e:=bX.eq_1 x o;simp only[k,Int.reduceEq,bi,b9]at e;rw[e,show 123+o.k.toNat=131 by rw[k];rfl];generalize(cN o).toNat=s at *;rw[e1]at h|-;exact QJ h Ls e2
 ·obtain⟨e1,e2,e3⟩:=bP (by omega);have e:=bX.eq_1 x o;simp only[k,Int.reduceEq,bi,b9]at e;rw[e,show 123+o.k.toNat=132 by rw[k];rfl];generalize(cN o).toNat=s at *;rw[e1]at h|-;exact TS h Ls e2
 ·obtain⟨e1,e2,e3,e4⟩:=K3 (by omega) hw;have e:=bX.eq_1 x o;simp only[k,Int.reduceEq,bi,b9]at e;rw[e,show 123+o.k.toNat=133 by rw[k];rfl];exact ah2 h hx yS (by omega) (by rw[e4];omega) (by omega) (hl _ (by omega))
 ·obtain⟨e1,e2,e3,e4⟩:=K3 (by omega) hw;have e:=bX.eq_1 x o;simp only[k,Int.reduceEq,bi,b9]at e;rw[e,show 123+o.k.toNat=134 by rw[k];rfl];exact aeB h hx yS (by omega) (by rw[e4];omega) (hl _ (by omega))
 ·have e:=bX.eq_1 x o;simp only[k,Int.reduceEq,b9]at e;rw[e,show 123+o.k.toNat=135 by rw[k];rfl];by_cases c:o.nw<x.now
  ·rw[an c];exact Sh h Ls c
  ·rw[aq c];obtain⟨L,hL,hD⟩:=afU h Ls ⟨by omega,hg.se,hg.now,EO,by omega,by omega,λi hi=>by rw[hqs];exact aeb hg.Db (by omega)⟩ c;rw[(W9 x o.nw).one hL];exact hD
def Gi(Z W:AW)(val:ad)(x:cS):Prop:=∃sv sq qq,val=ky x sv sq qq/\fC Z sv x.v.ax/\Qb W sq x.st/\Qf W qq x.qs
abbrev amj(W:AW)(val:ad)(x:cS):Prop:=Gi W W val x
def Gi.mono{Z W W':AW}{val:ad}{x:cS}(h:Gi Z W val x)(aM:Le W W'):Gi Z W' val x:=by obtain⟨sv,sq,qq,e,h1,h2,h3⟩:=h;exact⟨sv,sq,qq,e,h1,h2.keep aM,h3.mono aM⟩
def Gi.at{Z W:AW}{val:ad}{x:cS}(h:Gi Z W val x)(hz:Le Z W):amj W val x:=by obtain⟨sv,sq,qq,e,h1,h2,h3⟩:=h;exact⟨sv,sq,qq,e,h1.mono hz,h2,h3⟩
def MdK(Z W V:AW)(val:ad)(x:cS):Prop:=∀U,V.next<=U.next->(∀b,b<Z.next\/W.next<=b->b<V.next->U.get b=V.get b)->Gi Z U val x
def MdK.at{Z W V:AW}{val:ad}{x:cS}(h:MdK Z W V val x):Gi Z V val x:=h V (aR _) λ_ _ _=>rfl
def Xn(Z W V:AW)(v0:ad)(x0:cS)(val:ad)(x:cS):Prop:=(val=v0/\x=x0)\/MdK Z W V val x
def Xn.at{Z W V:AW}{v0 val:ad}{x0 x:cS}(h:Xn Z W V v0 x0 val x)(h0:Gi Z V v0 x0):Gi Z V val x:=by
 rcases h with⟨rfl,rfl⟩|h
 ·exact h0
 ·exact h.at
def QA.rd{W:AW}{u:ad}{l:List Int}{B:Nat}(h:QA W u l B)(hB:B<W.next):Qa W u l:=by
 rcases h with⟨rfl,rfl|⟨a,rfl⟩⟩|⟨o,cs,rfl,h2,h3⟩
 ·exact⟨_,_,rfl,.inl rfl⟩
 ·exact⟨_,_,rfl,.inl rfl⟩
 ·exact⟨_,_,rfl,.inr ⟨B,o,cs,rfl,hB,ao h2,by rw[iI,h3,oX]⟩⟩
def aiU(x:cS)(sv sq qq:ad)(o:kP)(s:Int)(W:AW):fd Tryz.prog 170 [(0,ky x sv sq qq),(1,yc o),(2,.ae s)] W=some (.agg (NT x.v sv x.now sq qq o s).toArray,W):=aT (by kernel_rfl) rfl
def abj:Array ad:=#[.nilFunc,.func (.func 124) #[] #[],.func (.func 125) #[] #[],.func (.func 126) #[] #[],.func (.func 127) #[] #[],.func (.func 128) #[] #[],.func (.func 129) #[] #[],.func (.func 130) #[] #[],.func (.func 131) #[] #[],.func (.func 132) #[] #[],.func (.func 133) #[] #[],.func (.func 134) #[] #[],.func (.func 135) #[] #[]]
abbrev QL:ad:=.agg abj
def aeo(W:AW):∃W',aY (.func (.func 101) #[] #[]) [] W=some (QL,W')/\Le W W':=by
 have:Ok (CL aY W) λr=>r.1=QL/\Le W r.2:=by
  unfold CL;have a1:dg Tryz.prog 172 W=some (ba W.next,W.add (.cells (List.replicate 13 .nilFunc))):=aT (by kernel_rfl) rfl;have a2:∀V,fd Tryz.prog 172 [(1,wI 124),(2,wI 125),(3,wI 126),(4,wI 127),(5,wI 128),(6,wI 129),(7,wI 130),(8,wI 131),(9,wI 132),(10,wI 133),(11,wI 134),(12,wI 135)] V=some (QL,V):=λV=>aT (by kernel_rfl) rfl
  simp only[abL]at a2;have a3:∀(x:ad) V,iU Tryz.prog 172 x V=dF 13 x V:=λx V=>by kernel_rfl
  have st:=gU (n:=13) (b:=W.next) (vs:=abj) (AW.aL W (.cells (List.replicate 13 .nilFunc))) rfl rfl rfl;rw[jy]at st;have st':fm 13 (ba W.next) QL (W.add (.cells (List.replicate 13 .nilFunc)))=_:=st;have ld:=bz (n:=13) (o:=0) (W:=W.add (.cells abj.toList)) bC rfl;simp only[↓PX,SX,a1,a2,st',rT,a3,ld,bM,af];exact⟨rfl,(Le.refl W).add _⟩
 obtain⟨⟨v,V⟩,h1,rfl,h2⟩:=this;exact⟨V,by rw[L1 h1,jx rfl],h2⟩
def aih{o:kP}(hk:1<=o.k/\o.k<=12)(W:AW):rf Tryz.prog 172 QL (.ae o.k) W=some (.func (.func (123+o.k.toNat)) #[] #[],W):=by rcases(by omega:o.k=1\/o.k=2\/o.k=3\/o.k=4\/o.k=5\/o.k=6\/o.k=7\/o.k=8\/o.k=9\/o.k=10\/o.k=11\/o.k=12)with k|k|k|k|k|k|k|k|k|k|k|k<;>rw[k]<;>exact aT (by kernel_rfl) rfl
def C5{α:Type}{z:Nat}{f:α->List ad}{W:AW}{v:ad}{l:List α}(h:Rd W z f v l):Eng.one v=true:=by obtain⟨a,c,rfl,-⟩:=h;rfl
def row_one{α:Type}{z:Nat}{f:List ad->Nat->α->Prop}{W:AW}{v:ad}{l:List α}(h:Row W z f v l):Eng.one v=true:=by obtain⟨a,c,rfl,-⟩:=h;rfl
def JM{o:kP}(h:zZ o=0):1<=o.k/\o.k<=12:=by
 unfold zZ zI at h;split at h
 ·exact absurd h (by decide)
 ·omega
def aeS{o:kP}(h:zZ o=0):FK o.k o.se o.sc o.t1 (zZ o)=(cN o,pr o,0):=by
 have e3:(FK o.k o.se o.sc o.t1 0).2.2=0:=by
  unfold FK;rw[aq (by simp)];repeat' split
  all_goals rfl
 rw[h];exact Prod.ext rfl (Prod.ext rfl e3)
def C4{V:AW}{b2 b3:Nat}{x:cS}{sv sq qq:ad}{c2:List ad}{r0:mE}(h1:Eng.one sv=true)(h2:Eng.one sq=true)(h3:Eng.one qq=true)(g2:V.get b2=some (.cells c2))(hc:c2.length=7)(g3:V.get b3=some (.cells (jr r0)))(fe:b2≠b3)(r:mE)(e:ad):
 ∃V1 V2,fm 7 (ba b2) (ky x sv sq qq) V=some (ak,V1)/\V1.get b3=some (.cells (jr r0))/\(∀b,b≠b2->V1.get b=V.get b)/\fm 9 (ba b3) (fX r) V1=some (ak,V2)/\iP Tryz.prog [(ba b2,some 34),(ba b3,some 50),(e,none)] V2=some (.tuple #[ky x sv sq qq,fX r,e],V2)/\V2.next=V.next/\∀b,b≠b2->b≠b3->V2.get b=V.get b:=by
 have s1:=gU (W:=V) (b:=b2) (n:=7) (vs:=(eT x sv sq qq).toArray) g2 hc rfl (by simp[dz,h1,h2,h3,cI]);obtain⟨V1,ko⟩:∃V1,V1=V.put b2 (.cells (eT x sv sq qq)):=⟨_,rfl⟩;have k3:V1.get b3=some (.cells (jr r0)):=by rw[ko];exact(AW.ay _ _ fe).trans g3
 have k2:V1.get b2=some (.cells (eT x sv sq qq)):=by rw[ko];exact AW.aW _ _ _
 have s2:=gU (W:=V1) (b:=b3) (n:=9) (vs:=(jr r).toArray) k3 rfl rfl rfl;obtain⟨V2,BO⟩:∃V2,V2=V1.put b3 (.cells (jr r)):=⟨_,rfl⟩;have m3:V2.get b3=some (.cells (jr r)):=by rw[BO];exact AW.aW _ _ _
 have m2:V2.get b2=some (.cells (eT x sv sq qq)):=by rw[BO];exact(AW.ay _ _ (bh fe)).trans k2
 refine⟨V1,V2,by rw[ko];exact s1,k3,λb hb=>by rw[ko];exact AW.ay _ _ (bh hb),by rw[BO];exact s2,?_,by rw[BO,ko];rfl,λb hb lA=>by rw[BO,ko];exact(AW.ay _ _ (bh lA)).trans (AW.ay _ _ (bh hb))⟩;rw[DI,EG,adX,bz (n:=7) (o:=0) (ao m2) rfl,bM,bz (n:=9) (o:=0) (ao m3) rfl];rfl
def aa8(x:cS)(o:kP):(bX x o).1.v=x.v:=by
 have Ja:∀(y:cS) i,(lz y i).v=y.v:=λy i=>(wC y i).1
 have E1:∀s y e,(Tx x s y e).v=x.v:=λs y e=>by
  unfold Tx;split
  ·exact Ja _ _
  ·rfl
 have hch:∀s y e,(Ng x s y e).v=x.v:=λs y e=>by unfold Ng;split<;>rfl
 have e:=bX.eq_1 x o;by_cases k1:o.k=1
 ·rw[an k1]at e;rw[e]
 rw[aq k1]at e;by_cases k2:o.k=2
 ·rw[an k2]at e;rw[e];exact hch _ _ _
 rw[aq k2]at e;by_cases k3:o.k=3
 ·rw[an k3]at e;rw[e];show(oh x _ _ _).v=x.v;unfold oh;split
  ·exact(zP _ _ _ _ _).1
  ·rfl
 rw[aq k3]at e;by_cases k4:o.k=4
 ·rw[an k4]at e;rw[e];exact E1 _ _ _
 rw[aq k4]at e;by_cases k5:o.k=5
 ·rw[an k5]at e;rw[e];exact hch _ _ _
 rw[aq k5]at e;by_cases k6:o.k=6
 ·rw[an k6]at e;rw[e];exact hch _ _ _
 rw[aq k6]at e;by_cases k7:o.k=7
 ·rw[an k7]at e;rw[e];exact E1 _ _ _
 rw[aq k7]at e;by_cases k8:o.k=8
 ·rw[an k8]at e;rw[e];exact E1 _ _ _
 rw[aq k8]at e;by_cases k9:o.k=9
 ·rw[an k9]at e;rw[e]
 rw[aq k9]at e;by_cases k10:o.k=10
 ·rw[an k10]at e;rw[e];show(yn x _ _).v=x.v;unfold yn;split<;>rfl
 rw[aq k10]at e;by_cases k11:o.k=11
 ·rw[an k11]at e;rw[e];show(sI x _ _).v=x.v;unfold sI;split<;>rfl
 rw[aq k11]at e;rw[e];split
 ·rfl
 ·exact(BG _ _ _).1
def aq0{W0 W:AW}{x:cS}{o:kP}{val:ad}(hG:GW W)(hm0:Gi W0 W val x)(h00:Le W0 W)(hx:Sn x=0)(yx:x.now<9223372036854775808)(EO:o.nw<9223372036854775808):
 ∃dQ W',aY (.func (.func 57) #[] #[]) [val,yc o] W=some (.tuple #[dQ,fX (yX x o).2.1,.ae (yX x o).2.2],W')/\Le W W'/\Xn W0 W W' val x dQ (yX x o).1:=by
 obtain⟨sv,sq,qq,rfl,GZ,n8,hq⟩:=id hm0;have hs:=GZ.mono h00;have avw:=h00.next;have hg:=abY hx;have HY:=row_one hs.1;have DA:=C5 n8;have EF:=row_one hq;have jL:Ok (JT aY (ky x sv sq qq) (yc o) W) λr=>∃dQ,r.1=.tuple #[dQ,fX (yX x o).2.1,.ae (yX x o).2.2]/\Le W r.2/\Xn W0 W r.2 (ky x sv sq qq) x dQ (yX x o).1:=by
  unfold JT;obtain⟨V,hV⟩:∃V,V=(((W.add (.cells (eT x sv sq qq))).add (.cells (Da o))).add (.cells [.ae 0,.ae 0,.ae 0,.slice none 0 0,.ae 0,.slice none 0 0,.slice none 0 0])).add (.cells (jr gz)):=⟨_,rfl⟩;have aM:Le W V:=by rw[hV];exact((((Le.refl W).add _).add _).add _).add _
  have c0:aH V W.next=some (eT x sv sq qq):=by rw[hV];simp(maxDischargeDepth:=9) only[MX,HX,Nat.reduceAdd,Nat.reduceEqDiff]
  have c1:aH V (W.next+1)=some (Da o):=by rw[hV];simp(maxDischargeDepth:=9) only[MX,HX,Nat.reduceAdd,Nat.reduceEqDiff]
  have nV:V.next=W.next+4:=by rw[hV];rfl
  have g2:V.get (W.next+2)=some (.cells [.ae 0,.ae 0,.ae 0,.slice none 0 0,.ae 0,.slice none 0 0,.slice none 0 0]):=by rw[hV];exact(AW.aG _ _ (by simp only[AW.av];omega)).trans (AW.aL ((W.add (.cells (eT x sv sq qq))).add (.cells (Da o))) _)
  have g3:V.get (W.next+3)=some (.cells (jr gz)):=by rw[hV];exact AW.aL (((W.add (.cells (eT x sv sq qq))).add (.cells (Da o))).add (.cells [.ae 0,.ae 0,.ae 0,.slice none 0 0,.ae 0,.slice none 0 0,.slice none 0 0])) _
  have l7:∀U,U.get W.next=V.get W.next->dF 7 (ba W.next) U=some (ky x sv sq qq,U):=λU hU=>bz (cs:=eT x sv sq qq) (by unfold aH at c0|-;rw[hU];exact c0) rfl
  have Kd:∀U,U.get (W.next+1)=V.get (W.next+1)->dF 12 (ba (W.next+1)) U=some (yc o,U):=λU hU=>bz (cs:=Da o) (by unfold aH at c1|-;rw[hU];exact c1) rfl
  have lk:∀U,U.get (W.next+1)=V.get (W.next+1)->bu (ba (W.next+1)) U=some (.ae o.k,U):=λU hU=>aP (cs:=Da o) (by unfold aH at c1|-;rw[hU];exact c1) rfl
  have atr:aY (.func (.func 98) #[] #[]) [yc o] V=some (VP (FK o.k o.se o.sc o.t1 (zZ o)),V):=Mr _ _ _ _ _ _ _ _ _ _ _ _ (hG.mono aM);have e1:(W.add (.cells (eT x sv sq qq))).next=W.next+1:=rfl;simp only[SX,nO,Cb,AW.av,gV,Nat.reduceAdd];rw[<-hV];clear hV;have same:∀(r:mE) (e:Int),∃V1 V2,fm 7 (ba (W.next+2)) (ky x sv sq qq) V=some (ak,V1)/\fm 9 (ba (W.next+3)) (fX r) V1=some (ak,V2)/\iP Tryz.prog [(ba (W.next+2),some 34),(ba (W.next+3),some 50),(.ae e,none)] V2=some (.tuple #[ky x sv sq qq,fX r,.ae e],V2)/\Le W V2/\Xn W0 W V2 (ky x sv sq qq) x (ky x sv sq qq) x:=λr e=>by obtain⟨V1,V2,k1,-,-,k2,k3,k4,k5⟩:=C4 (x:=x) HY DA EF g2 rfl g3 (by omega) r (.ae e);have iN:Le W V2:=⟨by omega,λb hb=>(k5 b (by omega) (by omega)).trans (aM.get b hb)⟩;exact⟨V1,V2,k1,k2,k3,iN,.inl ⟨rfl,rfl⟩⟩
  simp only[SX,Kd V rfl,atr];by_cases d1:zZ o=0;case neg=>
   have e3:(FK o.k o.se o.sc o.t1 (zZ o)).2.2=zZ o:=by unfold FK;rw[an d1]
   have eD:yX x o=(x,gz,zZ o):=by unfold yX;rw[aq d1]
   rw[eD];obtain⟨V1,V2,k1,k2,k3,k4,k5⟩:=same gz (zZ o);unfold VP;rw[e3];have d:=aJ d1;simp only[SX,d,l7 V rfl,CO,k1,k2,k3,af];exact⟨_,rfl,k4,k5⟩
  have hk:=JM d1;rw[aeS d1];unfold VP;have akn:∀W',aZ Tryz.prog .len #[31] 3 #[false] [sq] W'=some (.ae (x.st.length:Int),W'):=λW'=>jm n8 uK _ _ _
  have aaG:∀W',aZ Tryz.prog .len #[32] 3 #[false] [qq] W'=some (.ae (x.qs.length:Int),W'):=λW'=>(hq.len Ab) W' _ _
  have adY:=UY (W:=V) (sh:=x.v.sh) (cL:=x.v.cL) (eO:=x.v.eO) (now:=x.now) (bP:=cN o) (sec:=pr o) (sv:=sv) (o:=o) akn aaG;rw[show wrE x.now (cN o) (pr o) (x.st.length:Int) (x.qs.length:Int) o=Qe x o from rfl]at adY;have d0:decide ((0:Int)=0)=true:=rfl;by_cases d2:Qe x o=0;case neg=>
   have eD:yX x o=(x,pY (Qe x o),0):=by unfold yX;rw[an d1,aq d2]
   rw[eD];obtain⟨V1,V2,k1,k2,k3,k4,k5⟩:=same (pY (Qe x o)) 0;have d:=aJ d2;simp only[SX,l7 V rfl,Kd V rfl,adY,d,km,k1,k2,k3,af];exact⟨_,rfl,k4,k5⟩
  rw[d2]at adY;have ako:x.st≠[]:=λe=>by
   obtain⟨-,-,Ti,-⟩:=cF hg.Db;have h8:=(BZ hg.Db Ti).2.2.2.2.1;have h9:=(BZ hg.Db Ti).2.2.2.2.2.2.2;have:=hg.st;rw[e]at this;simp at this;have:(0:Int)<=CZ x.v 0:=by omega
   omega
  have ht:=(cF hg.Db).2.2.2.2.1;have awE:=(cF hg.Db).1.len;obtain⟨V2,sb,qb,bq,c2,Q3⟩:=ZP (W:=V) (x:=x) (sv:=sv) (n8.keep aM) (hq.mono aM) HY ako (by have:=hg.st;omega) (by have:=hg.qs;omega) (λl hl=>by obtain⟨k,hk,rfl⟩:=By hl;have:=(hg.q k hk).1;simp only[ik,List.getD,bJ hk,oL]at this;omega);have e12:V2.get (W.next+1)=V.get (W.next+1):=Q3.le.get _ (by omega);obtain⟨V3,A0⟩:∃V3,V3=V2.add (.cells (NT x.v sv x.now (fI sb x.st.length) (oa qb x.qs.length) o (cN o))):=⟨_,rfl⟩;have E2:Le V2 V3:=by rw[A0];exact(Le.refl _).add _
  have n3:V3.next=V2.next+1:=by rw[A0];rfl
  have auk:=Q3.lo;have hO:fA V V3 V2.next sb qb bq x sv o (cN o):={
   le:=Q3.le.trans E2
   lo:=⟨Q3.le.next,auk.1,by omega⟩
   hi:=by omega
   ne:=by omega
   nq:=λk=>by have:=Q3.nq k;omega
   sec:=hs.mono aM
   go:=by rw[A0];exact AW.aL _ _
   gs:=(E2.get _ (by omega)).trans Q3.gs
   gq:=by obtain⟨qv,y1,y2,y3,-⟩:=Q3.qx;exact⟨qv,(E2.get _ (by omega)).trans y1,y2,λk hk=>let⟨u,u1,u2⟩:=y3 k hk;⟨u,u1,(u2.mono E2).qa⟩⟩};have hX3:QsX V3 qb bq x.qs:=Q3.qx.mono (by omega) E2;obtain⟨V5,a5,b5⟩:=aeo (V3.add (.cells (jr gz)));have le5:Le V3 V5:=((Le.refl V3).add _).trans b5;have g30:V5.get V3.next=some (.cells (jr gz)):=(b5.get _ (by rw[AW.av];omega)).trans (AW.aL _ _);have n5:V3.next<V5.next:=by have:=b5.next;rw[AW.av]at this;omega
  have hO5:=hO.mono le5;have hX5:QsX V5 qb bq x.qs:=hX3.mono (by omega) le5;obtain⟨V6,bq6,a6,O6,n6,f6,h6⟩:=ahM hO5 hX5 ⟨by omega,by omega,λk=>(Q3.nq k).2.1⟩ hg hk d2 yx EO;have g31:V6.get V3.next=some (.cells (jr gz)):=(f6 _ (by omega) n5).trans g30;obtain⟨V7,hV7⟩:∃V7,V7=V6.put V3.next (.cells (jr (bX x o).2)):=⟨_,rfl⟩;have s30:fm 9 (ba V3.next) (fX (bX x o).2) V6=some (ak,V7):=by rw[hV7];exact gU (vs:=(jr (bX x o).2).toArray) g31 rfl rfl rfl
  have g32:V7.get V3.next=some (.cells (jr (bX x o).2)):=by rw[hV7];exact AW.aW _ _ _
  have f7:∀b,b≠V3.next->V7.get b=V6.get b:=λb hb=>by rw[hV7];exact AW.ay _ _ (bh hb)
  have n7:V7.next=V6.next:=by rw[hV7];rfl
  have le7:Le V V7:=⟨by have:=O6.le.next;omega,λb hb=>(f7 b (by have:=Q3.le.next;omega)).trans (O6.le.get b hb)⟩;have lV:∀b,b<V.next->V7.get b=V.get b:=λb hb=>le7.get b hb
  have ler:bu (ba V3.next) V7=some (.ae (bX x o).2.er,V7):=aP (ao g32) rfl;have l9:∀U,U.get V3.next=V7.get V3.next->dF 9 (ba V3.next) U=some (fX (bX x o).2,U):=λU hU=>bz (cs:=jr (bX x o).2) (ao (hU.trans g32)) rfl
  have l93:bu (ba (W.next+1)) V3=some (.ae o.k,V3):=lk V3 ((E2.get _ (by have:=Q3.le.next;omega)).trans e12);have lk5:bu (ba (W.next+1)) V5=some (.ae o.k,V5):=lk V5 ((le5.get _ (by have:=Q3.le.next;omega)).trans ((E2.get _ (by have:=Q3.le.next;omega)).trans e12));have vk:iw (.ae o.k) (.ae o.k)=true:=i9 _ _;have bx:rD (.agg (NT x.v sv x.now (fI sb x.st.length) (oa qb x.qs.length) o (cN o)).toArray) V2=some (ba V2.next,V3):=by rw[jR,A0]
  by_cases d3:(bX x o).2.er=0
  ·have eD:yX x o=((bX x o).1,(bX x o).2,0):=by unfold yX;rw[an d1,an d2,an d3]
   rw[eD];have o7:dF 7 (ba V2.next) V7=some (ky (bX x o).1 sv (fI sb (bX x o).1.st.length) (oa qb (bX x o).1.qs.length),V7):=bz (ao ((f7 _ (by omega)).trans O6.go)) rfl;obtain⟨V8,V9,k1,k0,k01,k2,k3,k4,k5⟩:=C4 (V:=V7) (b2:=W.next+2) (b3:=W.next+3) (x:=(bX x o).1) HY (rfl:Eng.one (fI sb (bX x o).1.st.length)=true) (rfl:Eng.one (oa qb (bX x o).1.qs.length)=true) ((lV _ (by omega)).trans g2) rfl ((lV _ (by omega)).trans g3) (by omega) (bX x o).2 (.ae 0);have d:=aK d3;simp only[SX,l7 V rfl,Kd V rfl,adY,c2,Kd V2 e12,cV,Ea,fM,aiU,bx,aI,l93,a5,lk5,vk,aih hk,a6,s30,ler,d,aS,o7,l9 V7 rfl,k1,l9 V8 (k01 _ (by have:=Q3.le.next;omega)),wo,k2,k3,af];have Rl:Le W V9:=⟨by have:=le7.next;omega,λb hb=>(k5 b (by omega) (by omega)).trans ((lV b (by omega)).trans (aM.get b hb))⟩;refine⟨_,rfl,Rl,.inr ?_⟩;have f9:∀b,V.next<=b->b≠V3.next->V9.get b=V6.get b:=λb hb lA=>(k5 b (by omega) (by omega)).trans (f7 b lA)
   have n9:V9.next=V6.next:=by rw[k4,n7]
   have ax8:=O6.hi;intro U hUn hU;have hW2:=Q3.le.next;have fU:∀b,V.next<=b->b≠V3.next->b<V9.next->U.get b=V6.get b:=λb hb lA hb3=>(hU b (.inr (by omega)) hb3).trans (f9 b hb lA)
   have azg:Le W0 U:=⟨by have:=Rl.next;omega,λb hb=>(hU b (.inl hb) (by have:=Rl.next;omega)).trans ((h00.trans Rl).get b hb)⟩;have hsU:fC W0 sv (bX x o).1.v.ax:=by rw[aa8];exact GZ
   refine⟨sv,_,_,rfl,hsU,⟨_,_,rfl,.inr ⟨sb,0,_,rfl,by omega,ao ((fU sb (by omega) (by omega) (by omega)).trans O6.gs),?_⟩⟩,?_⟩
   ·rw[jB,<-cm na (bX x o).1.st,cO]
   ·obtain⟨qv,q1,q2,q3⟩:=O6.gq;refine⟨_,_,rfl,.inr ⟨qb,0,qv,rfl,by omega,ao ((fU qb (by omega) (by omega) (by omega)).trans q1),λi hi=>?_⟩⟩;obtain⟨u,u1,u2⟩:=q3 i hi;have hq6:=O6.nq i;have fe:bq6 i≠V3.next:=by
     rcases h6 i with e|e
     ·have:=(Q3.nq i).2.1;omega
     ·omega
    exact⟨u,by rw[aI,iI];exact u1,(u2.keep (fU _ hq6.1 fe (by omega))).rd (by omega)⟩
  ·have eD:yX x o=(x,(bX x o).2,0):=by unfold yX;rw[an d1,an d2,aq d3]
   rw[eD];obtain⟨V8,V9,k1,k0,k01,k2,k3,k4,k5⟩:=C4 (V:=V7) (b2:=W.next+2) (b3:=W.next+3) (x:=x) HY DA EF ((lV _ (by omega)).trans g2) rfl ((lV _ (by omega)).trans g3) (by omega) (bX x o).2 (.ae 0);have d:=aJ d3;simp only[SX,l7 V rfl,Kd V rfl,adY,c2,Kd V2 e12,cV,Ea,fM,aiU,bx,l93,a5,lk5,vk,aih hk,a6,s30,ler,d,l7 V7 (lV _ (by omega)),l9 V7 rfl,k1,l9 V8 (k01 _ (by have:=Q3.le.next;omega)),wo,k2,k3,af];have Rl:Le W V9:=⟨by have:=le7.next;omega,λb hb=>(k5 b (by omega) (by omega)).trans ((lV b (by omega)).trans (aM.get b hb))⟩;exact⟨_,rfl,Rl,.inl ⟨rfl,rfl⟩⟩
 obtain⟨⟨v,V⟩,h1,dQ,rfl,h2,h3⟩:=jL;have rJ:=QT h1;unfold OG at rJ;by_cases hp:(bN (.tuple #[dQ,fX (yX x o).2.1,.ae (yX x o).2.2])&& !Yq (.tuple #[dQ,fX (yX x o).2.1,.ae (yX x o).2.2]))=true
 ·obtain⟨Wl,sq',qq',rfl,m1,m2,m3⟩:=h3.at (hm0.mono h2);exfalso;have hv:(yX x o).1.v=x.v:=by
   unfold yX;split
   ·split
    ·split
     ·exact aa8 x o
     ·rfl
    ·rfl
   ·rfl
  rw[hv]at m1;obtain⟨-,a,c,rfl,-,h4⟩:=m1;obtain⟨b,o',rfl⟩:=h4 (λe=>by have:=(cF hg.Db).2.2.1;rw[e]at this;exact absurd this (by simp));simp[bN,eI,cC]at hp
 ·rw[jx (uY.2 hp)]at rJ;exact⟨_,V,rJ,h2,h3⟩
structure Bnd (x:cS):Prop where
 v:x.v.ax.length<1000
 st:x.st.length<=10000
 qs:x.qs.length<=10000
 q:∀l∈x.qs,l.length<=10000
 now:x.now<9223372036854775808
def Gi.flat{Z Z' W U:AW}{x:cS}{sv sq qq e:ad}{r:mE}(h:(bN (.tuple #[ky x sv sq qq,fX r,e])&& !Yq (.tuple #[ky x sv sq qq,fX r,e]))=true)(m1:fC Z sv x.v.ax)(m2:Qb W sq x.st)(m3:Qf W qq x.qs):Gi Z' U (ky x sv sq qq) x:=by
 obtain⟨⟨a,c,rfl,k1⟩,k2⟩:=m1;obtain⟨a2,c2,rfl,k3⟩:=m2;obtain⟨a3,c3,rfl,k4⟩:=m3;cases a with
 |some a=>simp[bN,eI,cC]at h
 |none=>
 cases a2 with
 |some a=>simp[bN,eI,cC]at h
 |none=>
 cases a3 with
 |some a=>simp[bN,eI,cC]at h
 |none=>
 refine⟨_,_,_,rfl,⟨⟨none,c,rfl,k1.imp id λ⟨b,o,cs,e,_⟩=>by cases e⟩,k2⟩,⟨none,c2,rfl,k3.imp id λ⟨b,o,cs,e,_⟩=>by cases e⟩,⟨none,c3,rfl,k4.imp id λ⟨b,o,cs,e,_⟩=>by cases e⟩⟩
def apK{W0 W:AW}{x:cS}{o:kP}{val:ad}(hG:GW W)(hm:Gi W0 W val x)(h00:Le W0 W)(hb:Bnd x)(EO:o.nw<9223372036854775808):
 ∃dQ W',aY (.func (.func 25) #[] #[]) [val,yc o] W=some (.tuple #[dQ,fX (wm x o).2.1,.ae (wm x o).2.2],W')/\Le W W'/\Xn W0 W W' val x dQ (wm x o).1:=by
 obtain⟨sv,sq,qq,rfl,GZ,n8,hq⟩:=id hm;have hs:=GZ.mono h00;have avw:=h00.next;have jL:Ok (Lj aY (ky x sv sq qq) (yc o) W) λr=>∃dQ,r.1=.tuple #[dQ,fX (wm x o).2.1,.ae (wm x o).2.2]/\Le W r.2/\Xn W0 W r.2 (ky x sv sq qq) x dQ (wm x o).1:=by
  unfold Lj;obtain⟨V,hV⟩:∃V,V=(((W.add (.cells (eT x sv sq qq))).add (.cells (Da o))).add (.cells [.ae 0,.ae 0,.ae 0,.slice none 0 0,.ae 0,.slice none 0 0,.slice none 0 0])).add (.cells (jr gz)):=⟨_,rfl⟩;have aM:Le W V:=by rw[hV];exact((((Le.refl W).add _).add _).add _).add _
  have c0:aH V W.next=some (eT x sv sq qq):=by rw[hV];simp(maxDischargeDepth:=9) only[MX,HX,Nat.reduceAdd,Nat.reduceEqDiff]
  have c1:aH V (W.next+1)=some (Da o):=by rw[hV];simp(maxDischargeDepth:=9) only[MX,HX,Nat.reduceAdd,Nat.reduceEqDiff]
  have nV:V.next=W.next+4:=by rw[hV];rfl
  have g2:V.get (W.next+2)=some (.cells [.ae 0,.ae 0,.ae 0,.slice none 0 0,.ae 0,.slice none 0 0,.slice none 0 0]):=by rw[hV];exact(AW.aG _ _ (by simp only[AW.av];omega)).trans (AW.aL ((W.add (.cells (eT x sv sq qq))).add (.cells (Da o))) _)
  have g3:V.get (W.next+3)=some (.cells (jr gz)):=by rw[hV];exact AW.aL (((W.add (.cells (eT x sv sq qq))).add (.cells (Da o))).add (.cells [.ae 0,.ae 0,.ae 0,.slice none 0 0,.ae 0,.slice none 0 0,.slice none 0 0])) _
  have l7:dF 7 (ba W.next) V=some (ky x sv sq qq,V):=bz c0 rfl;have Kd:dF 12 (ba (W.next+1)) V=some (yc o,V):=bz c1 rfl;simp only[SX,nO,Cb,AW.av,gV,Nat.reduceAdd];rw[<-hV];clear hV;have hck:=VC (W:=V) (x:=x) (sv:=sv) (hs.mono aM) hb.v (n8.keep aM) (hq.mono aM) hb.st hb.qs hb.q;by_cases d1:Sn x=0
  ·have eM:wm x o=yX x o:=an d1;rw[eM];have d:=aK d1;obtain⟨dQ,V2,k1,k2,hK⟩:=aq0 (hG.mono aM) (hm.mono aM) (h00.trans aM) d1 hb.now EO (o:=o);obtain⟨Wl,sq',qq',rfl,m1,m2,m3⟩:=hK.at (hm.mono (aM.trans k2));obtain⟨V8,V9,p1,p0,QM,p2,p3,p4,p5⟩:=C4 (V:=V2) (b2:=W.next+2) (b3:=W.next+3) (x:=(yX x o).1) (row_one m1.1) (C5 m2) (row_one m3) ((k2.get _ (by omega)).trans g2) rfl ((k2.get _ (by omega)).trans g3) (by omega) (yX x o).2.1 (.ae (yX x o).2.2);simp only[SX,l7,Kd,hck,d,k1,p1,p2,p3,af];have k2n:=k2.next;refine⟨_,rfl,⟨by omega,λb hb=>(p5 b (by omega) (by omega)).trans ((k2.get _ (by omega)).trans (aM.get b hb))⟩,?_⟩;rcases hK with hK|hK
   ·exact .inl hK
   refine .inr λU hUn hU=>?_
   exact hK U (by omega) λb hb lA=>(hU b (by omega) (by omega)).trans (p5 b (by omega) (by omega))
  ·have eM:wm x o=(x,gz,Sn x):=aq d1;rw[eM];have d:=aJ d1;obtain⟨V8,V9,p1,p0,QM,p2,p3,p4,p5⟩:=C4 (V:=V) (b2:=W.next+2) (b3:=W.next+3) (x:=x) (row_one hs.1) (C5 n8) (row_one hq) g2 rfl g3 (by omega) gz (.ae (Sn x));simp only[SX,l7,Kd,hck,d,CO,p1,p2,p3,af];have Rl:Le W V9:=⟨by omega,λb hb=>(p5 b (by omega) (by omega)).trans (aM.get b hb)⟩;exact⟨_,rfl,Rl,.inl ⟨rfl,rfl⟩⟩
 obtain⟨⟨v,V⟩,h1,dQ,rfl,h2,h3⟩:=jL;have rJ:=RZ h1;unfold OG at rJ;unfold gc at rJ;by_cases hp:(bN (.tuple #[dQ,fX (wm x o).2.1,.ae (wm x o).2.2])&& !Yq (.tuple #[dQ,fX (wm x o).2.1,.ae (wm x o).2.2]))=true/\Le W V
 ·rw[an hp]at rJ;refine⟨_,W,rJ,.refl _,?_⟩;obtain⟨Wl,sq',qq',rfl,m1,m2,m3⟩:=h3.at (hm.mono h2);exact .inr λU hUn hU=>Gi.flat hp.1 m1 m2 m3
 ·rw[aq hp]at rJ;exact⟨_,V,rJ,h2,h3⟩
abbrev lG(b n:Nat):ad:=.slice (some ⟨b,0,none⟩) n (eJ+1)
def LS(lo sb qb:Nat)(W:AW)(u:ad)(l:List Int):Prop:=(l=[]/\(u=.slice none 0 0\/∃B,u=.slice (some ⟨B,0,none⟩) 0 0))\/(l≠[]/\∃B c,lo<=B/\B<W.next/\B≠sb/\B≠qb/\u=.slice (some ⟨B,0,none⟩) l.length c/\(c=eJ+1\/c=l.length)/\W.get B=some (.cells (l.flatMap qI)))
section
variable {Z W V V':AW} {lo sb qb:Nat} {u:ad} {l:List Int}
def LS.el(h:LS lo sb qb W u l):EL lo W 1 qI u l:=by
 rcases h with h|⟨h0,B,c,h1,h2,h3,h4,h5,h6,h7⟩
 ·exact .inl h
 ·exact .inr ⟨h0,B,c,h1,h2,h5,h6,h7⟩
def LS.acJ{Iv:Nat}(h:EL Iv W 1 qI u l)(h0:lo<=Iv)(h1:sb<Iv)(h2:qb<Iv):LS lo sb qb W u l:=by
 rcases h with h|⟨h0,B,c,h1,h2,h3,h4,h5⟩
 ·exact .inl h
 ·exact .inr ⟨h0,B,c,by omega,h2,by omega,by omega,h3,h4,h5⟩
def LS.fr(h:LS lo sb qb W u l)(hf:Fr W V sb qb):LS lo sb qb V u l:=by
 rcases h with h|⟨h0,B,c,h1,h2,h3,h4,h5,h6,h7⟩
 ·exact .inl h
 ·exact .inr ⟨h0,B,c,h1,by have:=hf.1;omega,h3,h4,h5,h6,(hf.2 B h2 h3 h4).trans h7⟩
def LS.rd(h:LS lo sb qb W u l):Qa W u l:=h.el.rd iu
structure kb (Z W V:AW) (sb qb:Nat) (x:cS) (sv:ad):Prop where
 z:Le Z W
 le:Le W V
 lo:W.next<=sb/\W.next<=qb/\sb<V.next/\qb<V.next/\sb≠qb
 sec:fC Z sv x.v.ax
 gs:V.get sb=some (.cells (x.st.flatMap dJ))
 gq:∃qv,V.get qb=some (.cells qv)/\qv.length=x.qs.length/\∀k (h:k<x.qs.length),∃u,qv[k]? =some u/\LS W.next sb qb V u x.qs[k]
variable {x x':cS} {sv:ad}
abbrev ku(sb qb:Nat)(x:cS)(sv:ad):ad:=ky x sv (fI sb x.st.length) (lG qb x.qs.length)
def kb.step(h:kb Z W V sb qb x sv)(hf:Fr V V' sb qb)(e1:x'.v=x.v)
 (gs:V'.get sb=some (.cells (x'.st.flatMap dJ)))(gq:∃qv,V'.get qb=some (.cells qv)/\qv.length=x'.qs.length/\∀k (h:k<x'.qs.length),∃u,qv[k]? =some u/\LS W.next sb qb V' u x'.qs[k]):kb Z W V' sb qb x' sv where
 z:=h.z
 le:=⟨dW h.le.next hf.1,λb hb=>(hf.2 b (fb hb h.le.next) (by have:=h.lo;omega) (by have:=h.lo;omega)).trans (h.le.get b hb)⟩
 lo:=by have:=h.lo;have:=hf.1;omega
 sec:=by rw[e1];exact h.sec
 gs:=gs
 gq:=gq
def abM{qs:List (List Int)}(h:∃qv,V.get qb=some (.cells qv)/\qv.length=qs.length/\∀k (h:k<qs.length),∃u,qv[k]? =some u/\LS lo sb qb V u qs[k])(hf:Fr V V' sb qb)(hq:V'.get qb=V.get qb):∃qv,V'.get qb=some (.cells qv)/\qv.length=qs.length/\∀k (h:k<qs.length),∃u,qv[k]? =some u/\LS lo sb qb V' u qs[k]:=by obtain⟨qv,a,b,c⟩:=h;exact⟨qv,hq.trans a,b,λk hk=>let⟨u,c1,c2⟩:=c k hk;⟨u,c1,c2.fr hf⟩⟩
def kb.mono(h:kb Z W V sb qb x sv)(aM:Le V V'):kb Z W V' sb qb x sv:=
 h.step (.of_le aM) rfl ((aM.get _ h.lo.2.2.1).trans h.gs) (abM h.gq (.of_le aM) (aM.get _ h.lo.2.2.2.1))
def kb.ax(h:kb Z W V sb qb x sv):fC V sv x.v.ax:=h.sec.mono (h.z.trans h.le)
def BB{val:ad}{a b c Wl sq qq:ad}{now more:Int}(hv:val=.agg #[a,b,c,Wl,.ae now,sq,qq])(h1:now<9223372036854775808)(h2:more<9223372036854775808)(ha:Eng.one a=true)(hb:Eng.one b=true)(hc:Eng.one c=true)(hs:Eng.one Wl=true)(hq:Eng.one sq=true)(hqq:Eng.one qq=true):aY (.func (.func 35) #[] #[]) [val,.ae more] W=some (.ae (eu now more),W):=by refine aQ rfl ?_ KG;unfold Hn;subst hv;simp(maxDischargeDepth:=9) only[SX,MX,HX,Zp h1 h2]
end
section
variable {Z W V V':AW} {lo sb qb:Nat} {x x':cS} {sv:ad}
def TH:sH Tryz.prog 88=some 1:=by kernel_rfl
def ixL{n b k:Nat}(hk:k<n)(W':AW):nY 1 (lG b n) (.ae (k:Int)) W'=some (.pointer (some ⟨b,k,none⟩),W'):=by have:=rH (z:=1) (b:=b) (o:=0) (c:=eJ+1) (W:=W') (k:=.i64) hk;rwa [aI,iI]at this
def aq5{b i:Nat}{cs:List ad}{u:ad}(hg:V.get b=some (.cells cs))(hi:i<cs.length){l:List Int}{lo:Nat}{U:AW}(hu:EL lo U 1 qI u l):fm 1 (.pointer (some ⟨b,i,none⟩)) u V=some (ak,V.put b (.cells (cs.set i u))):=by rcases hu with⟨-,rfl|⟨B,rfl⟩⟩|⟨-,B,c,-,-,rfl,-⟩<;>rw[jh,cT hg,bM,an hi]
structure Bx (V:AW) (b0:Nat) (x:cS) (sv sq qq:ad):Prop where
 g:V.get b0=some (.cells (eT x sv sq qq))
def Bx.l{b0:Nat}{sq qq:ad}(h:Bx V b0 x sv sq qq){i:Nat}{u:ad}(hi:(eT x sv sq qq)[i]? =some u):bu (.pointer (some ⟨b0,i,none⟩)) V=some (u,V):=aP (ao h.g) hi
def Nt(h:kb Z W V sb qb x sv){i:Nat}(hs:i<x.st.length)(hk:tV x.v i<x.qs.length)(hv:x.v.ax.length<1000)(hr:∀s∈x.v.ax,s.rows.length<1000)(hl:∀l∈x.qs,l.length<=10000)(h1:x.now<9223372036854775808)(h2:x.v.cL<9223372036854775808):
 ∃V',aY (.func (.func 70) #[] #[]) [ku sb qb x sv,.ae (i:Int)] V=some (ku sb qb (lz x i) sv,V')/\kb Z W V' sb qb (lz x i) sv/\Fr V V' sb qb:=by
 have hq:Ok (vI aY (ku sb qb x sv) (.ae (i:Int)) V) λr=>r.1=ku sb qb (lz x i) sv/\kb Z W r.2 sb qb (lz x i) sv/\Fr V r.2 sb qb:=by
  unfold vI;obtain⟨V1,ko⟩:∃V1,V1=(V.add (.cells (eT x sv (fI sb x.st.length) (lG qb x.qs.length)))).add (.cells [.ae 0,.ae 0,.ae 0,.slice none 0 0,.ae 0,.slice none 0 0,.slice none 0 0]):=⟨_,rfl⟩;have Xh:Le V V1:=by rw[ko];exact((Le.refl V).add _).add _
  have g0:V1.get V.next=some (.cells (eT x sv (fI sb x.st.length) (lG qb x.qs.length))):=by rw[ko];exact(AW.aG _ _ (by rw[AW.av];omega)).trans (AW.aL _ _)
  have g1:V1.get (V.next+1)=some (.cells [.ae 0,.ae 0,.ae 0,.slice none 0 0,.ae 0,.slice none 0 0,.slice none 0 0]):=by rw[ko,<-AW.av V (.cells (eT x sv (fI sb x.st.length) (lG qb x.qs.length)))];exact AW.aL _ _
  have n1:V1.next=V.next+2:=by rw[ko];rfl
  simp only[SX,nO,AW.av];rw[<-ko];clear ko;have h':=h.mono Xh;have l4:dF 4 (ba V.next) V1=some (fH x.v sv,V1):=bz (ao g0) rfl;have pP:=QK (v:=x.v) (sv:=sv) (W:=V1) (bP:=(i:Int)) h'.ax.1 hv hr;obtain⟨V2,a1,n2,JU,r2⟩:=ad3 V1;have b1:=Hh (a:=((dC x.v i).1.1:Int)) (c:=((dC x.v i).1.2.1:Int)) (d:=((dC x.v i).1.2.2:Int)) r2;obtain⟨V3,A0⟩:∃V3,V3=V2.put V1.next (.cells [.ae ((dC x.v i).1.1:Int),.ae ((dC x.v i).1.2.1:Int),.ae ((dC x.v i).1.2.2:Int)]):=⟨_,rfl⟩;have gb:V3.get V1.next=some (.cells [.ae ((dC x.v i).1.1:Int),.ae ((dC x.v i).1.2.1:Int),.ae ((dC x.v i).1.2.2:Int)]):=by rw[A0];exact AW.aW _ _ _
  have E2:Le V1 V3:=by rw[A0];exact JU.put (aR _) _
  have n3:V3.next=V1.next+1:=by rw[A0];exact n2
  simp only[SX,aI,l4,pP,a1,b1];rw[<-A0];clear A0 b1;have h3:=h'.mono E2;have b0:Bx V3 V.next x sv (fI sb x.st.length) (lG qb x.qs.length):=⟨(E2.get _ (by omega)).trans g0⟩;have gi:∀U:AW,U.get V1.next=V3.get V1.next->bu (.pointer (some ⟨V1.next,0,none⟩)) U=some (.ae (tV x.v i:Int),U):=λU hU=>aP (ao (hU.trans gb)) rfl
  obtain⟨qv,q1,q2,q3⟩:=h3.gq;obtain⟨u,u1,u2⟩:=q3 _ hk;have lu:bu (.pointer (some ⟨qb,tV x.v i,none⟩)) V3=some (u,V3):=aP (ao q1) u1;obtain⟨ua,uc,ue⟩:=u2.el.slice;have ul:∀U:AW,aZ Tryz.prog .len #[88] 3 #[false] [u] U=some (.ae ((x.qs[tV x.v i]).length:Int),U):=λU=>by rw[ue];exact df oJ _ _ _
  have l6:=b0.l (i:=6) (u:=lG qb x.qs.length) rfl;simp only[SX,gi V3 rfl,l6,ixL hk,lu,ul];cases he:x.qs[tV x.v i]with
  |nil=>
   have e0:lz x i=x:=by unfold lz;rw[bJ hk,he]
   rw[e0];have l7:dF 7 (ba V.next) V3=some (ku sb qb x sv,V3):=bz (ao b0.g) rfl;have g1':V3.get (V.next+1)=_:=(E2.get _ (by omega)).trans g1;have s7:=gU (W:=V3) (b:=V.next+1) (n:=7) (vs:=(eT x sv (fI sb x.st.length) (lG qb x.qs.length)).toArray) g1' rfl rfl (by simp[dz,row_one h.sec.1,cI,cJ]);have Q1:fm 7 (ba (V.next+1)) (ku sb qb x sv) V3=some (ak,V3.put (V.next+1) (.cells (eT x sv (fI sb x.st.length) (lG qb x.qs.length)))):=s7;have l8:dF 7 (ba (V.next+1)) (V3.put (V.next+1) (.cells (eT x sv (fI sb x.st.length) (lG qb x.qs.length))))=some (ku sb qb x sv,V3.put (V.next+1) (.cells (eT x sv (fI sb x.st.length) (lG qb x.qs.length)))):=bz (ao (AW.aW _ _ _)) rfl;have d0:decide ((([]:List Int).length:Int)=0)=true:=rfl;simp only[SX,d0,l7,Q1,rT,EG,l8,bM,af];have le4:Le V (V3.put (V.next+1) (.cells (eT x sv (fI sb x.st.length) (lG qb x.qs.length)))):=(Xh.trans E2).put (by omega) _;exact⟨aj,h.mono le4,.of_le le4⟩
  |cons a t=>
   have e0:lz x i={x with st:=x.st.set i (mI x i a),qs:=x.qs.set (tV x.v i) t}:=by unfold lz;rw[bJ hk,he]
   rw[e0];rw[he]at u2;rcases id u2 with⟨hx,_⟩|⟨-,B,c,j1,j2,j3,j4,rfl,j6,j7⟩
   ·cases hx
   have t8:decide ((((a::t).length:Nat):Int)=0)=false:=aJ (by rw[cP];omega);have Zj:=bJ hs;have hg0:x.st.getD i Cv=x.st[i]:=by simp[List.getD,Zj]
   have l5:=b0.l (i:=5) (u:=fI sb x.st.length) rfl;have l7:dF 7 (ba V.next) V3=some (ku sb qb x sv,V3):=bz (ao b0.g) rfl;have lt:=b0.l (i:=1) (u:=.ae x.v.cL) rfl;have LD:=Gn (W:=V3) h3.gs Zj;have ix0:∀U:AW,nY 1 (.slice (some ⟨B,0,none⟩) (a::t).length c) (.ae 0) U=some (.pointer (some ⟨B,0,none⟩),U):=λU=>by have:=rH (z:=1) (b:=B) (o:=0) (l:=(a::t).length) (i:=0) (c:=c) (W:=U) (k:=.i64) (by rw[cP];omega);rwa [uV,eQ]at this
   have la:bu (.pointer (some ⟨B,0,none⟩)) V3=some (.int .u32 a,V3):=aP (ao j7) rfl;have lun:=BB (W:=V3) (val:=ku sb qb x sv) (more:=x.v.cL) rfl h1 h2 (cI _ _) (cI _ _) (cI _ _) (row_one h.sec.1) (cJ _ _ _) (cJ _ _ _);have hho:M4 x.st[i] a (eu x.now x.v.cL)=mI x i a:=by unfold mI;rw[hg0]
   have st:=zj (z:=mI x i a) h3.gs Zj;simp only[SX,t8,l5,rE hs,LD,ix0,la,l7,lt,lun,cV,i9,qO,fJ,fM,C6,hho,st];obtain⟨V4,hV4⟩:∃V4,V4=V3.put sb (.cells ((x.st.set i (mI x i a)).flatMap dJ)):=⟨_,rfl⟩;have g4:V4.get sb=some (.cells ((x.st.set i (mI x i a)).flatMap dJ)):=by rw[hV4];exact AW.aW _ _ _
   have o4:∀b,b≠sb->V4.get b=V3.get b:=λb hb=>by rw[hV4];exact AW.ay _ _ (bh hb)
   have n4:V4.next=V3.next:=by rw[hV4];rfl
   rw[<-hV4];clear hV4 st;have zB:=h.lo;have b4:Bx V4 V.next x sv (fI sb x.st.length) (lG qb x.qs.length):=⟨(o4 _ (by omega)).trans b0.g⟩;have l6':=b4.l (i:=6) (u:=lG qb x.qs.length) rfl;have f4:Fr V V4 sb qb:=⟨by omega,λb As lA hb3=>(o4 b lA).trans ((E2.get _ (by omega)).trans (Xh.get b As))⟩;have f34:Fr V3 V4 sb qb:=⟨by omega,λb As lA hb3=>o4 b lA⟩;have u4:=u2.fr f34;obtain⟨w,hw1,hw2⟩:=u4.el.from (P:=Tryz.prog) (t:=88) (kk:=.i64) (k:=1) TH (by omega) iu (by rw[cP];omega) (by have:=hl _ (cG hk);rw[he]at this;omega);have awj:∀U:AW,eP Tryz.prog 88 (.slice (some ⟨B,0,none⟩) (a::t).length c) (some (.ae 1)) none none U=some (w,U):=hw1;have avS:Rd V4 1 qI w t:=hw2;have tl:t.length<=10000:=by have:=hl _ (cG hk);rw[he,cP]at this;omega
   obtain⟨u',V5,k1,k2,k3⟩:=Ak Cm iu ol avS (by omega) (by omega);have b5:Bx V5 V.next x sv (fI sb x.st.length) (lG qb x.qs.length):=⟨(k2.get _ (by omega)).trans b4.g⟩;have gi4:=gi V4 (o4 _ (by omega));have gi5:=gi V5 ((k2.get _ (by omega)).trans (o4 _ (by omega)));have l6v:=b5.l (i:=6) (u:=lG qb x.qs.length) rfl;have q5:V5.get qb=some (.cells qv):=(k2.get _ (by omega)).trans ((o4 _ (bh zB.2.2.2.2)).trans q1);have NM:tV x.v i<qv.length:=by omega
   have sq:=aq5 q5 NM k3;simp only[SX,l6',gi4,Dm,awj,k1,l6v,gi5,cV,i9,fJ,fM,ixL hk,sq];obtain⟨V6,hV6⟩:∃V6,V6=V5.put qb (.cells (qv.set (tV x.v i) u')):=⟨_,rfl⟩;have g6:V6.get qb=some (.cells (qv.set (tV x.v i) u')):=by rw[hV6];exact AW.aW _ _ _
   have o6:∀b,b≠qb->V6.get b=V5.get b:=λb hb=>by rw[hV6];exact AW.ay _ _ (bh hb)
   have n6:V6.next=V5.next:=by rw[hV6];rfl
   rw[<-hV6];clear hV6 sq;have k2n:=k2.next;have b6:Bx V6 V.next x sv (fI sb x.st.length) (lG qb x.qs.length):=⟨(o6 _ (by omega)).trans b5.g⟩;have l76:dF 7 (ba V.next) V6=some (ku sb qb x sv,V6):=bz (ao b6.g) rfl;have g1':V6.get (V.next+1)=_:=(o6 _ (by omega)).trans ((k2.get _ (by omega)).trans ((o4 _ (by omega)).trans ((E2.get _ (by omega)).trans g1)));have s7:=gU (W:=V6) (b:=V.next+1) (n:=7) (vs:=(eT x sv (fI sb x.st.length) (lG qb x.qs.length)).toArray) g1' rfl rfl (by simp[dz,row_one h.sec.1,cI,cJ]);obtain⟨V7,hV7⟩:∃V7,V7=V6.put (V.next+1) (.cells (eT x sv (fI sb x.st.length) (lG qb x.qs.length))):=⟨_,rfl⟩;have Q1:fm 7 (ba (V.next+1)) (ku sb qb x sv) V6=some (ak,V7):=by rw[hV7];exact s7
   have l8:dF 7 (ba (V.next+1)) V7=some (ku sb qb x sv,V7):=by rw[hV7];exact bz (ao (AW.aW _ _ _)) rfl
   have o7:∀b,b≠V.next+1->V7.get b=V6.get b:=λb hb=>by rw[hV7];exact AW.ay _ _ (bh hb)
   have n7:V7.next=V6.next:=by rw[hV7];rfl
   simp only[SX,l76,Q1,rT,EG,l8,bM,af];have f57:∀b,b<V5.next->b≠qb->b≠V.next+1->V7.get b=V5.get b:=λb _ h2 h3=>(o7 b h3).trans (o6 b h2)
   have f7:Fr V V7 sb qb:=⟨by omega,λb As lA hb3=>(f57 b (by omega) hb3 (by omega)).trans ((k2.get _ (by omega)).trans (f4.2 b As lA hb3))⟩;refine⟨by unfold ku;simp only[xU],h.step (x':={x with st:=x.st.set i (mI x i a),qs:=x.qs.set (tV x.v i) t}) f7 rfl ((f57 _ (by omega) zB.2.2.2.2 (by omega)).trans ((k2.get _ (by omega)).trans g4)) ⟨_,(o7 _ (by omega)).trans g6,by simp[q2],λk ya=>?_⟩,f7⟩;have WS:k<x.qs.length:=by simpa using ya
   have key:∀{u:ad} {l:List Int},LS W.next sb qb V5 u l->(∀b,b=V.next+1->∀cs:List Int,V5.get b≠some (.cells (cs.flatMap qI)))->LS W.next sb qb V7 u l:=by
    intro u l hu hb;rcases hu with hu|⟨z0,B',c',z1,z2,z3,z4,z5,z6,z7⟩
    ·exact .inl hu
    ·exact .inr ⟨z0,B',c',z1,by omega,z3,z4,z5,z6,(f57 _ z2 z4 λe=>hb B' e _ z7).trans z7⟩
   have hb:∀b,b=V.next+1->∀cs:List Int,V5.get b≠some (.cells (cs.flatMap qI)):=by intro b hb cs e;subst hb;have e2:=(k2.get (V.next+1) (by omega)).trans ((o4 _ (by omega)).trans ((E2.get _ (by omega)).trans g1));rw[e2,oX]at e;injection e with e;injection e with e;rcases cs with - |⟨a',- |⟨b',cs⟩⟩<;>simp at e
   by_cases Xm:tV x.v i=k
   ·subst Xm;refine⟨_,y6 NM,?_⟩;rw[AK];exact key (.acJ k3 (by have:=h.le.next;omega) (by omega) (by omega)) hb
   ·obtain⟨u'',v1,v2⟩:=q3 k WS;refine⟨u'',by rw[Ah Xm];exact v1,?_⟩;rw[Ds Xm];exact key ((v2.fr f34).fr (.of_le k2)) hb
 obtain⟨⟨v,V2⟩,k1,rfl,k2⟩:=hq;exact⟨V2,by rw[FG k1,jx (by simp[bN,eI,cC])],k2⟩
end
def Se{l:List Int}{k:Nat}(hk:k<l.length):nc (λy=>decide (l[k]=y)) l<(k:Int)<->l[k]∈l.take k:=by
 have hp:(λy=>decide (l[k]=y)) l[k]=true:=by simp
 have hf:l.findIdx (λy=>decide (l[k]=y))<l.length:=List.findIdx_lt_length.2 ⟨l[k],cG hk,hp⟩;have e:nc (λy=>decide (l[k]=y)) l=((l.findIdx λy=>decide (l[k]=y):Nat):Int):=by unfold nc;rw[List.findIdx?_eq_some_iff_findIdx_eq.2 ⟨hf,rfl⟩]
 rw[e];constructor
 ·intro h;have h1:=List.findIdx_getElem (w:=hf);have h2:l[k]=l[l.findIdx λy=>decide (l[k]=y)]:=DS h1;rw[Br];exact⟨_,by omega,h2.symm⟩
 ·intro h;rw[Br]at h;obtain⟨j,hj,e2⟩:=h;rcases qf (l.findIdx λy=>decide (l[k]=y)) k with h|h
  ·omega
  ·have h3:=List.not_of_lt_findIdx (p:=λy=>decide (l[k]=y)) (xs:=l) (i:=j) (by omega);exfalso;exact of_decide_eq_false h3 e2.symm
def NG{W:AW}{v:ad}{l:List Int}(h:Qa W v l)(hl:l.length<=10000)(x:Int):aY (.func (.func 64) #[] #[]) [v,.int .u32 x] W=some (.ae (nc (λy=>decide (x=y)) l),W):=by
 refine aQ rfl ?_ JN;unfold Hj;refine a8 l.length (by omega) (λk R W'=>W'=W/\R 0=v/\R 1=.int .u32 x/\R 5=.ae (k:Int)/\(l.take k).any (λy=>decide (x=y))=false)
  (λr=>r.2.2=W/\((r.1=.exit 0/\nc (λy=>decide (x=y)) l= -1)\/(r.1=.ret/\r.2.1 4=.ae (nc (λy=>decide (x=y)) l)))) ⟨rfl,rfl,rfl,rfl,rfl⟩ ?_ ?_ ?_
 ·rintro k R W' hk ⟨rfl,h0,h1,h5,ha⟩;unfold sX;obtain⟨b,o,g1,-,g2⟩:=Qa.get h hk;have e1:((k:Int)<(l.length:Int)):=by omega
  have e2:(k:Int)+1=((k+1:Nat):Int):=by omega
  have ea:=bc W' k 1;have lv:=jm h oJ;by_cases hx:x=l[k]
  ·have d:decide (l[k]=x)=true:=aK hx.symm;simp only[SX,h0,h1,h5,lv,e1,g1,g2 _ rfl,d,af];exact .inr ⟨by simp,aj,.inr ⟨aj,by rw[wt hk (aK hx) ha];rfl⟩⟩
  ·have d:decide (l[k]=x)=false:=aJ λe=>hx e.symm
   simp only[SX,h0,h1,h5,lv,e1,g1,g2 _ rfl,d,ea,af];exact .inl ⟨aj,aj,h0,h1,by rw[<-e2];rfl,qA hk (aJ hx) ha⟩
 ·rintro R W' ⟨rfl,h0,h1,h5,ha⟩;unfold sX;have e1:¬((l.length:Int)<(l.length:Int)):=by omega
  rw[cO]at ha;simp only[SX,h0,h5,jm h oJ,e1,af];exact⟨by simp,aj,.inl ⟨aj,wk ha⟩⟩
 ·rintro⟨y,R,W'⟩ ⟨hW,hq⟩;simp only at hW hq;subst hW;rcases hq with⟨rfl,hq⟩|⟨rfl,h4⟩
  ·simp(maxDischargeDepth:=9) only[SX,MX,HX,hq]
  ·simp(maxDischargeDepth:=9) only[SX,MX,HX,h4]
def af9{R:ai.Fr}{U:AW}{qv v1 v6:ad}{l:List Int}{K:LT->Option LT}{G:LT->Prop}(hq:Qa U qv l)(hn2:l.length<=10000)
 (r1:R 1=v1)(r6:R 6=v6)(r7:R 7=qv)(r8:R 8=.ae 0)
 (hK:∀R' x,((x=.exit 4/\l.Nodup/\R' 1=v1/\R' 6=v6)\/(x=.ret/\¬l.Nodup/\R' 2=.ae 8))->Ok (K (x,R',U)) G):Ok (eY (fV (kL aY) R U) K) G:=by
 refine a8 l.length (by omega) (λk R V=>V=U/\R 1=v1/\R 6=v6/\R 7=qv/\R 8=.ae (k:Int)/\(l.take k).Nodup)
  (λr=>r.2.2=U/\((r.1=.exit 4/\l.Nodup/\r.2.1 1=v1/\r.2.1 6=v6)\/(r.1=.ret/\¬l.Nodup/\r.2.1 2=.ae 8)))
  ⟨rfl,r1,r6,r7,r8,by simp⟩ ?_ ?_ ?_
 ·rintro k R V hk ⟨rfl,r1,r6,r7,r8,G8⟩;unfold kL;have t1:decide ((k:Int)<(l.length:Int))=true:=cd;have t2:=λW'=>bc W' k 1
  have e3:((k+1:Nat):Int)=(k:Int)+1:=by omega
  obtain⟨b,o,g1,g2,g3⟩:=Qa.get hq hk;have lk:=g3 V rfl;have lv:=jm hq oJ;have hp:=NG hq hn2 l[k];have Lp:l.take (k+1)=l.take k++[l[k]]:=iY hk;by_cases c0:l[k]∈l.take k
  ·have d:=aK ((Se hk).2 c0);simp only[SX,r7,r8,lv,t1,g1,lk,hp,d,af];refine .inr ⟨by simp,aj,.inr ⟨aj,λhn=>?_,rfl⟩⟩;have h1:(l.take (k+1)).Nodup:=hn.sublist (List.take_sublist _ _);rw[Lp,Bt]at h1;exact h1.2.2 _ c0 _ (by simp) rfl
  ·have d:=aJ λe=>c0 ((Se hk).1 e)
   simp only[SX,r7,r8,lv,t1,g1,lk,hp,d,t2,af];refine .inl ⟨aj,aj,r1,r6,r7,by rw[e3];rfl,?_⟩;rw[Lp,Bt];refine⟨G8,by simp,λa ha b hb=>?_⟩;rw[ki]at hb;subst hb;exactλe=>c0 (e▸ha)
 ·rintro R V ⟨rfl,r1,r6,r7,r8,G8⟩;unfold kL;have t1:decide ((l.length:Int)<(l.length:Int))=false:=bS;rw[cO]at G8;simp only[SX,r7,r8,jm hq oJ,t1,af];exact⟨by simp,aj,.inl ⟨aj,G8,r1,r6⟩⟩
 ·rintro⟨e,R,V⟩ ⟨h1,h2⟩;simp only at h1 h2;subst h1;exact hK R e h2
def agE{y:fq}:T2 y=true<->D8 y≠0:=by unfold T2;simp
def Vt{W:AW}{x:cS}{sv sq qq:ad}(hs:fC W sv x.v.ax)(hv:x.v.ax.length<1000)(hr:∀s∈x.v.ax,s.rows.length<1000)(n8:Qb W sq x.st)(hq:Qf W qq x.qs)(hn:x.st.length<=10000)(hqn:x.qs.length<=10000)(hl:∀l∈x.qs,l.length<=10000):
 aY (.func (.func 31) #[] #[]) [ky x sv sq qq] W=some (.ae (Sn x),W):=by
 refine aQ rfl ?_ Jb;unfold Hq Sn;obtain⟨V,hV⟩:∃V,V=W.add (.cells (eT x sv sq qq)):=⟨_,rfl⟩;have aM:Le W V:=by rw[hV];exact(Le.refl W).add _
 have g1:V.get W.next=some (.cells (eT x sv sq qq)):=by rw[hV];exact AW.aL _ _
 have nV:V.next=W.next+1:=by rw[hV];rfl
 have l4:dF 4 (.pointer (some ⟨W.next,0,none⟩)) V=some (fH x.v sv,V):=bz (ao g1) rfl;have l3:bu (.pointer (some ⟨W.next,3,none⟩)) V=some (sv,V):=aP (ao g1) rfl;have ln:bu (.pointer (some ⟨W.next,4,none⟩)) V=some (.ae x.now,V):=aP (ao g1) rfl;have l5:bu (.pointer (some ⟨W.next,5,none⟩)) V=some (sq,V):=aP (ao g1) rfl;have l6:bu (.pointer (some ⟨W.next,6,none⟩)) V=some (qq,V):=aP (ao g1) rfl;have ug:=uJ (W:=V) (hs.mono aM).1 hv hr;simp only[SX];rw[<-hV];clear hV;simp only[SX,aI,l4,ug];by_cases c1:(cn x.v).2=0;case neg=>have d:=aJ c1;simp only[SX,d,aq c1,af];exact⟨aj,aM⟩
 have d1:=aK c1;rw[an c1];by_cases c2:x.now<0
 ·have d:=aK c2;simp only[SX,d1,ln,d,an c2,af];exact⟨aj,aM⟩
 have d2:=aJ c2;rw[aq c2];have lq:=Row.len hq Ab;have LD:=jm n8 uK;by_cases c3:(x.st.length:Int)≠(cn x.v).1
 ·have d:=aJ c3;simp only[SX,d1,ln,d2,l5,LD,d,an c3,af];exact⟨aj,aM⟩
 have d3:decide ((x.st.length:Int)=(cn x.v).1)=true:=aK (Iz.1 c3);rw[aq c3];by_cases c4:x.qs.length≠x.v.ax.length
 ·have d:decide ((x.qs.length:Int)=(x.v.ax.length:Int))=false:=bS;simp only[SX,d1,aI,ln,d2,l5,LD,d3,l6,lq,l3,Row.len hs.1 zg,d,an c4,af];exact⟨aj,aM⟩
 have d4:decide ((x.qs.length:Int)=(x.v.ax.length:Int))=true:=cd;rw[aq c4];simp only[SX,d1,aI,ln,d2,l5,LD,d3,l6,lq,l3,Row.len hs.1 zg,d4];have e5:(cn x.v).1=(x.st.length:Int):=by omega
 refine a8 x.st.length (by omega) (λk R U=>U=V/\R 1=ba W.next/\R 3=.ae (x.st.length:Int)/\R 5=.ae (k:Int)/\(x.st.take k).any T2=false)
  (λr=>r.2.2=V/\r.2.1 1=ba W.next/\((r.1=.exit 0/\x.st.any T2=false)\/(r.1=.ret/\x.st.any T2=true/\r.2.1 2=.ae 6))) ⟨rfl,rfl,by rw[<-e5];rfl,rfl,rfl⟩ ?_ ?_ ?_
 ·rintro k R U hk ⟨rfl,r1,r3,r5,ha⟩;unfold tn;have t1:decide ((k:Int)<(x.st.length:Int))=true:=cd;have t2:=λW'=>bc W' k 1
  have e3:((k+1:Nat):Int)=(k:Int)+1:=by omega
  obtain⟨b,o,p1,p2,p3⟩:=Qb.get (n8.keep aM) hk;by_cases c6:D8 x.st[k]=0
  ·have d:=aK c6;have hx:T2 x.st[k]=false:=by unfold T2;rw[d];rfl
   simp only[SX,r1,r3,r5,t1,aI,l5,p1,p3 _ rfl,io,d,t2,af];exact .inl ⟨aj,aj,r1,r3,by rw[e3];rfl,qA hk hx ha⟩
  ·have d:=aJ c6;simp only[SX,r1,r3,r5,t1,aI,l5,p1,p3 _ rfl,io,d,af];exact .inr ⟨by simp,aj,r1,.inr ⟨aj,xA.2 ⟨_,cG hk,agE.2 c6⟩,rfl⟩⟩
 ·rintro R U ⟨rfl,r1,r3,r5,ha⟩;unfold tn;have t1:decide ((x.st.length:Int)<(x.st.length:Int))=false:=bS;rw[cO]at ha;simp only[SX,r3,r5,t1,af];exact⟨by simp,aj,r1,.inl ⟨aj,ha⟩⟩
 rintro⟨e,R,U⟩ ⟨h1,h2,h3⟩;simp only at h1 h2 h3;subst h1;rcases h3 with⟨rfl,ha⟩|⟨rfl,ha,r2⟩;case inr=>simp only[SX,r2,an ha,af];exact⟨aj,aM⟩
 rw[aq (by rw[ha];decide)];simp only[SX];refine a8 x.qs.length (by omega) (λk R W'=>W'=U/\R 1=ba W.next/\R 6=.ae (k:Int)/\qE x k=0)
  (λr=>r.2.2=U/\((r.1=.exit 2/\qE x x.qs.length=0)\/(r.1=.ret/\r.2.1 2=.ae (qE x x.qs.length)))) ⟨rfl,h2,rfl,rfl⟩ ?_ ?_ ?_
 ·rintro k R U hk ⟨rfl,r1,r6,hz⟩;unfold tA;have t1:decide ((k:Int)<(x.qs.length:Int))=true:=cd;have t2:=λW'=>bc W' k 1
  have e3:((k+1:Nat):Int)=(k:Int)+1:=by omega
  obtain⟨b,i,u,p1,p2,p3,p4⟩:=hq.get hk;have lu:=p4 U (aM.get _ p2);have Vb:k<x.v.ax.length:=by omega
  obtain⟨b',i',rv,s1,-,-,-,-,s5⟩:=ig.get hs.1 Vb;have e0:x.qs[k]=ik x k:=by simp[ik,bJ hk]
  have eq0:x.v.ax[k].q=yK x.v k:=by unfold yK;rw[bJ Vb];rfl
  have ZW:=s5 U aM;rw[eq0]at ZW;rw[e0]at p3;have ul:=jm p3 oJ;have uD:qE x (k+1)=yM x k:=by show(if qE x k=0 then yM x k else qE x k)=_;rw[an hz]
  by_cases c6:yK x.v k<((ik x k).length:Int)
  ·have d:=aK c6;simp only[SX,r1,r6,t1,l6,lq,p1,lu,ul,aI,l3,s1,ZW,d,af];have hb:yM x k=3:=an c6;refine .inr ⟨by simp,aj,.inr ⟨aj,?_⟩⟩;rw[IB (k:=k+1) (by rw[uD,hb];decide) (by omega),uD,hb];rfl
  ·have d:=aJ c6;simp only[SX,r1,r6,t1,l6,lq,p1,lu,ul,aI,l3,s1,ZW,d];refine af9 (U:=U) (qv:=u) (v1:=ba W.next) (v6:=.ae (k:Int)) (l:=ik x k) (p3.keep aM) (by rw[<-e0];exact hl _ (cG _)) r1 r6 rfl rfl ?_;rintro R' y (⟨rfl,G8,q1,q6⟩|⟨rfl,G8,q2⟩)
   ·simp only[SX,q6,t2,af];refine .inl ⟨aj,aj,q1,by rw[e3];rfl,?_⟩;rw[uD];unfold yM;rw[aq c6,an G8]
   ·simp only[SX,af];have hb:yM x k=8:=by unfold yM;rw[aq c6,aq G8]
    refine .inr ⟨by simp,aj,.inr ⟨aj,?_⟩⟩;rw[IB (k:=k+1) (by rw[uD,hb];decide) (by omega),uD,hb];exact q2
 ·rintro R W' ⟨rfl,r1,r6,hz⟩;unfold tA;have t1:decide ((x.qs.length:Int)<(x.qs.length:Int))=false:=bS;simp only[SX,r1,r6,aI,l6,lq,t1,af];exact⟨by simp,aj,.inl ⟨aj,hz⟩⟩
 ·rintro⟨y,R,W'⟩ ⟨hW,hq⟩;simp only at hW hq;subst hW;rcases hq with⟨rfl,hq⟩|⟨rfl,h4⟩
  ·simp only[SX,hq,af];exact⟨aj,aM⟩
  ·simp only[SX,h4,af];exact⟨aj,aM⟩
def QU(k:Int):Bool:=decide (k≠1/\k≠9/\k≠12)
def U9(k:Int)(W:AW):aY (.func (.func 65) #[] #[]) [.ae k] W=some (.bool (QU k),W):=by
 refine aQ rfl ?_ FU;unfold B3 QU;by_cases k1:k=1
 ·have d:=aK k1;have e:=aJ (show¬(k≠1/\k≠9/\k≠12)by omega);simp(maxDischargeDepth:=9) only[SX,MX,HX,d,e]
 have d1:=aJ k1;by_cases k9:k=9
 ·have d:=aK k9;have e:=aJ (show¬(k≠1/\k≠9/\k≠12)by omega);simp(maxDischargeDepth:=9) only[SX,MX,HX,d1,d,e]
 have d9:=aJ k9;by_cases k12:k=12
 ·have d:=aK k12;have e:=aJ (show¬(k≠1/\k≠9/\k≠12)by omega);simp(maxDischargeDepth:=9) only[SX,MX,HX,d1,d9,d,e]
 ·have d:=aJ k12;have e:=aK (show(k≠1/\k≠9/\k≠12)by omega);simp(maxDischargeDepth:=9) only[SX,MX,HX,d1,d9,d,e]
section
variable {W:AW} {b ob:Nat} {sh cL eO now bP sec ns nq:Int} {sv sq qq:ad} {o:kP}
def af6(hc:aH W b=some [.ae sh,.ae cL,.ae eO,sv,.ae now,sq,qq])(ho:aH W ob=some (Da o))(hs:∀W',aZ Tryz.prog .len #[31] 3 #[false] [sq] W'=some (.ae ns,W'))(hq:∀W',aZ Tryz.prog .len #[22] 3 #[false] [sv] W'=some (.ae nq,W'))(c:Bool):
 lh aY (ba b) (ba ob) (.ae bP) (.ae sec) (.bool c) W=some (.ae (bif c then ZX o.k sec nq o.n else BH bP ns),W):=by
 unfold lh;cases c
 ·unfold BH;by_cases c:bP<0
  ·have d:=aK c;simp(maxDischargeDepth:=9) only[SX,MX,d,gp,an (Or.inl c)]
  ·have d:=aJ c;by_cases c2:ns<=bP
   ·have d2:=aK c2;simp(maxDischargeDepth:=9) only[SX,MX,d,hc,hs,d2,gp,an (Or.inr c2)]
   ·have d2:=aJ c2;simp(maxDischargeDepth:=9) only[SX,MX,d,hc,hs,d2,gp,aq (show¬(bP<0\/ns<=bP)by omega)]
 unfold ZX;by_cases c:sec<0
 ·have d:=aK c;simp(maxDischargeDepth:=9) only[SX,MX,d,eV,an (Or.inl c)]
 have d:=aJ c;by_cases c2:nq<=sec
 ·have d2:=aK c2;simp(maxDischargeDepth:=9) only[SX,MX,d,hc,hq,d2,eV,an (Or.inr c2)]
 have d2:=aJ c2;have e0:¬(sec<0\/nq<=sec):=by omega
 by_cases k3:o.k=3
 ·have d3:=aK k3;by_cases n1:o.n<1
  ·have d4:=aK n1;simp(maxDischargeDepth:=9) only[SX,MX,d,hc,hq,ho,d2,d3,d4,eV,aq e0,an (show o.k=3/\(o.n<1\/8<o.n)from⟨k3,.inl n1⟩)]
  ·have d4:=aJ n1;by_cases n2:8<o.n
   ·have d5:=aK n2;simp(maxDischargeDepth:=9) only[SX,MX,d,hc,hq,ho,d2,d3,d4,d5,eV,aq e0,an (show o.k=3/\(o.n<1\/8<o.n)from⟨k3,.inr n2⟩)]
   ·have d5:=aJ n2;simp(maxDischargeDepth:=9) only[SX,MX,d,hc,hq,ho,d2,d3,d4,d5,eV,aq e0,aq (show¬(o.k=3/\(o.n<1\/8<o.n))by omega)]
 ·have d3:=aJ k3;simp(maxDischargeDepth:=9) only[SX,MX,HX,d,hc,hq,ho,d2,d3,eV,aq e0,aq (show¬(o.k=3/\(o.n<1\/8<o.n))fromλz=>k3 z.1)]
def auF(hc:aH W b=some [.ae sh,.ae cL,.ae eO,sv,.ae now,sq,qq])(ho:aH W ob=some (Da o))(hs:∀W',aZ Tryz.prog .len #[31] 3 #[false] [sq] W'=some (.ae ns,W'))(hq:∀W',aZ Tryz.prog .len #[22] 3 #[false] [sv] W'=some (.ae nq,W'))(c:Bool):
 lj aY (ba b) (ba ob) (.ae bP) (.ae sec) (.ae o.k) (.bool c) W=some (.ae (bif c then 0 else w3 o.k (ZX o.k sec nq o.n) (BH bP ns)),W):=by
 unfold lj w3;cases c
 ·by_cases k3:o.k=3
  ·have d3:=aK k3;simp(maxDischargeDepth:=9) only[SX,d3,af6 hc ho hs hq,eV,gp,an (show o.k=3\/o.k=10\/o.k=11 from .inl k3)]
  have d3:=aJ k3;by_cases k4:o.k=10
  ·have d4:=aK k4;simp(maxDischargeDepth:=9) only[SX,d3,d4,af6 hc ho hs hq,eV,gp,an (show o.k=3\/o.k=10\/o.k=11 from .inr (.inl k4))]
  have d4:=aJ k4;by_cases k5:o.k=11
  ·have d5:=aK k5;simp(maxDischargeDepth:=9) only[SX,d3,d4,d5,af6 hc ho hs hq,eV,gp,an (show o.k=3\/o.k=10\/o.k=11 from .inr (.inr k5))]
  ·have d5:=aJ k5;simp(maxDischargeDepth:=9) only[SX,d3,d4,d5,af6 hc ho hs hq,gp,aq (show¬(o.k=3\/o.k=10\/o.k=11)by omega)]
 ·simp(maxDischargeDepth:=9) only[SX,eV]
end
def li{o:kP}(h:zZ o=0)(W:AW):aY (.func (.func 66) #[] #[]) [yc o] W=some (.tuple #[.ae (cN o),.ae (pr o),.ae 0],W):=by have:=PU o.k o.ow o.un o.se o.sc o.n o.to o.t1 o.t2 o.t3 o.t4 o.nw W;rw[show zI o.k o.ow o.un o.se o.sc o.n o.to o.t1 o.t2 o.t3 o.t4 o.nw=zZ o from rfl,aeS h]at this;exact this
def YN{W:AW}{x:cS}{sv sq qq:ad}{o:kP}(hk:zZ o=0)(hs:fC W sv x.v.ax)(n8:Qb W sq x.st)(hq:x.qs.length=x.v.ax.length):
 aY (.func (.func 33) #[] #[]) [ky x sv sq qq,yc o] W=some (.ae (Qe x o),W):=by
 refine aQ rfl ?_ JD;unfold HB Qe wrE;obtain⟨V,hV⟩:∃V,V=(W.add (.cells (eT x sv sq qq))).add (.cells (Da o)):=⟨_,rfl⟩;have aM:Le W V:=by rw[hV];exact((Le.refl W).add _).add _
 have hc:aH V W.next=some (eT x sv sq qq):=by rw[hV];simp(maxDischargeDepth:=9) only[MX,HX]
 have ho:aH V (W.next+1)=some (Da o):=by rw[hV];simp(maxDischargeDepth:=9) only[MX,HX]
 have Kd:dF 12 (ba (W.next+1)) V=some (yc o,V):=bz ho rfl;have akn:∀W',aZ Tryz.prog .len #[31] 3 #[false] [sq] W'=some (.ae (x.st.length:Int),W'):=λW'=>jm n8 uK _ _ _
 have aaG:∀W',aZ Tryz.prog .len #[22] 3 #[false] [sv] W'=some (.ae (x.qs.length:Int),W'):=λW'=>by rw[hq];exact Row.len hs.1 zg _ _ _
 have hK:=JM hk;have key:Ok (lj aY (ba W.next) (ba (W.next+1)) (.ae (cN o)) (.ae (pr o)) (.ae o.k) (.bool (decide (o.k=1))) V) (λr=>True)\/True:=.inr trivial;have j2:=λc=>auF (W:=V) (b:=W.next) (ob:=W.next+1) (bP:=cN o) (sec:=pr o) (o:=o) hc ho akn aaG c
 simp only[SX,AW.av];rw[<-hV];clear hV;have lk:bu (ba (W.next+1)) V=some (.ae o.k,V):=aP ho rfl;have lo1:bu (.pointer (some ⟨W.next+1,1,none⟩)) V=some (.int .u32 o.ow,V):=aP ho rfl;have lo2:bu (.pointer (some ⟨W.next+1,2,none⟩)) V=some (.ae o.un,V):=aP ho rfl;have lo8:bu (.pointer (some ⟨W.next+1,8,none⟩)) V=some (.int .u32 o.t2,V):=aP ho rfl;have ln:bu (.pointer (some ⟨W.next,4,none⟩)) V=some (.ae x.now,V):=aP hc rfl;have K8:=U9 o.k V;have mf:∀(P:Prop),(o.k=1\/o.k=12<->P)->True:=λ_ _=>trivial
 by_cases k1:o.k=1
 ·have s0:QU o.k=false:=bS;have d8:=aJ (show¬o.k=8 by omega);have d6:=aJ (show¬o.k=6 by omega);have d7:=aJ (show¬o.k=7 by omega);have d1:=aK k1;rw[an (.inl k1)];simp only[SX,aI,lk,K8,s0,d8,d6,d7,Kd,li hk,d1,j2,eV,af];exact⟨aj,aM⟩
 have d1:=aJ k1;by_cases k12:o.k=12
 ·have s0:QU o.k=false:=bS;have d8:=aJ (show¬o.k=8 by omega);have d6:=aJ (show¬o.k=6 by omega);have d7:=aJ (show¬o.k=7 by omega);have d12:=aK k12;rw[an (.inr k12)];simp only[SX,aI,lk,K8,s0,d8,d6,d7,Kd,li hk,d1,d12,j2,eV,af];exact⟨aj,aM⟩
 have d12:=aJ k12;rw[bL];by_cases ce:o.k≠9/\o.un<=x.now
 ·have s0:QU o.k=true:=cd;have d:=aK ce.2;rw[an ce];simp only[SX,aI,lk,K8,s0,lo2,ln,d,af];exact⟨aj,aM⟩
 rw[aq ce];by_cases cw:(o.k=8/\o.ow≠0)\/((o.k=6\/o.k=7)/\o.ow≠o.t2)
 ·have s0:QU o.k=true:=cd;have d:=aJ (show¬o.un<=x.now by omega);rw[an cw];by_cases k8:o.k=8
  ·have d8:=aK k8;have dw:=aJ (show¬o.ow=0 by omega);simp only[SX,aI,lk,K8,s0,lo2,ln,d,d8,lo1,dw,ais,af];exact⟨aj,aM⟩
  ·have d8:=aJ k8;have dw:=aJ (show¬o.t2=o.ow by omega);by_cases k6:o.k=6
   ·have d6:=aK k6;simp only[SX,aI,lk,K8,s0,lo2,ln,d,d8,d6,lo1,lo8,dw,af];exact⟨aj,aM⟩
   ·have d6:=aJ k6;have d7:=aK (show o.k=7 by omega);simp only[SX,aI,lk,K8,s0,lo2,ln,d,d8,d6,d7,lo1,lo8,dw,af];exact⟨aj,aM⟩
 rw[aq cw];have eR:w3 o.k (ZX o.k (pr o) (x.qs.length:Int) o.n) (BH (cN o) (x.st.length:Int))=if o.k=3\/o.k=10\/o.k=11 then ZX o.k (pr o) (x.qs.length:Int) o.n else BH (cN o) (x.st.length:Int):=rfl
 rw[<-eR];by_cases k9:o.k=9
 ·have s0:QU o.k=false:=bS;have d8:=aJ (show¬o.k=8 by omega);have d6:=aJ (show¬o.k=6 by omega);have d7:=aJ (show¬o.k=7 by omega);simp only[SX,aI,lk,K8,s0,d8,d6,d7,Kd,li hk,d1,d12,j2,gp,af];exact⟨aj,aM⟩
 have s0:QU o.k=true:=cd;have d:=aJ (show¬o.un<=x.now by omega);by_cases k8:o.k=8
 ·have d8:=aK k8;have dw:=aK (show o.ow=0 by omega);have d6:=aJ (show¬o.k=6 by omega);have d7:=aJ (show¬o.k=7 by omega);simp only[SX,aI,lk,K8,s0,lo2,ln,d,d8,lo1,dw,d6,d7,Kd,li hk,d1,d12,j2,gp,af];exact⟨aj,aM⟩
 have d8:=aJ k8;by_cases k6:o.k=6
 ·have d6:=aK k6;have dw:=aK (show o.t2=o.ow by omega);simp only[SX,aI,lk,K8,s0,lo2,ln,d,d8,d6,lo1,lo8,dw,Kd,li hk,d1,d12,j2,gp,af];exact⟨aj,aM⟩
 have d6:=aJ k6;by_cases k7:o.k=7
 ·have d7:=aK k7;have dw:=aK (show o.t2=o.ow by omega);simp only[SX,aI,lk,K8,s0,lo2,ln,d,d8,d6,d7,lo1,lo8,dw,Kd,li hk,d1,d12,j2,gp,af];exact⟨aj,aM⟩
 have d7:=aJ k7;simp only[SX,aI,lk,K8,s0,lo2,ln,d,d8,d6,d7,Kd,li hk,d1,d12,j2,gp,af];exact⟨aj,aM⟩
abbrev TD:Type:={v:ad//Eng.one v=true}
def Cx(a:TD):List ad:=[a.1]
def Lq(a:TD):(Cx a).length=1:=rfl
def Qi(a:TD):(Cx a).all Eng.one=true:=by unfold Cx;simp[a.2]
def ajh:mL Tryz.prog #[32,32] 1 24=true:=by kernel_rfl
def aia{u:ad}(h:Mx u)(W:AW):cX Tryz.prog 32 1 [(0,u)] W=some (.slice (some ⟨W.next,0,none⟩) 1 1,W.add (.cells [u])):=by rcases h with⟨b,l,c,rfl⟩|⟨l,c,rfl⟩<;>exact aT (by kernel_rfl) rfl
def LS.Mx{lo sb qb:Nat}{W:AW}{u:ad}{l:List Int}(h:LS lo sb qb W u l):Eng.Mx u:=by
 rcases h with⟨-,rfl|⟨B,rfl⟩⟩|⟨-,B,c,-,-,-,-,rfl,-⟩
 ·exact .inr ⟨_,_,rfl⟩
 ·exact .inl ⟨_,_,_,rfl⟩
 ·exact .inl ⟨_,_,_,rfl⟩
def YD{R:ai.Fr}{U:AW}{lo sb b0:Nat}{v2 sq qq:ad}{x:cS}{sv:ad}{K:LT->Option (ad×AW)}{G:ad×AW->Prop}(hq:Qf U qq x.qs)(hqn:x.qs.length<=10000)(hl:∀l∈x.qs,l.length<=10000)(g0:U.get b0=some (.cells (eT x sv sq qq)))(Tu:b0<U.next)(zB:lo<=U.next)(hsb:sb<U.next)(h0:x.qs≠[])
 (r1:R 1=ba b0)(r2:R 2=v2)(r3:R 3=.slice none 0 0)(r4:R 4=.ae 0)
 (hK:∀R' V qb,R' 1=ba b0->R' 2=v2->R' 3=lG qb x.qs.length->Le U V->U.next<=qb->qb<V.next->(∃qv,V.get qb=some (.cells qv)/\qv.length=x.qs.length/\∀k (h:k<x.qs.length),∃u,qv[k]? =some u/\LS lo sb qb V u x.qs[k])->Ok (K (.exit 0,R',V)) G):Ok (eY (fV (qc aY) R U) K) G:=by
 refine a8 x.qs.length (by omega) (λk R V=>Le U V/\R 1=ba b0/\R 2=v2/\R 4=.ae (k:Int)/\
  ∃(us:List TD) (bo:Option Nat) (out:ad),R 3=out/\us.length=k/\g9 V 1 Cx out us bo/\(∀B,bo=some B->U.next<=B)/\∀j (h:j<us.length) (h':j<x.qs.length),LS lo sb (bo.getD b0) V us[j].1 x.qs[j])
  (λr=>r.1=.exit 0/\Le U r.2.2/\r.2.1 1=ba b0/\r.2.1 2=v2/\
    ∃(us:List TD) (bo:Option Nat) (out:ad),r.2.1 3=out/\us.length=x.qs.length/\g9 r.2.2 1 Cx out us bo/\(∀B,bo=some B->U.next<=B)/\∀j (h:j<us.length) (h':j<x.qs.length),LS lo sb (bo.getD b0) r.2.2 us[j].1 x.qs[j])
  ⟨Le.refl _,r1,r2,r4,[],none,_,r3,rfl,.inl ⟨rfl,rfl,rfl⟩,λ_ h=>(by cases h),λj h=>absurd h (by simp)⟩ ?_ ?_ ?_
 ·rintro k R V hk ⟨aM,r1,r2,r4,us,bo,out,r3,e1,e2,e3,e4⟩;unfold qc;have t1:decide ((k:Int)<(x.qs.length:Int))=true:=cd;have t2:=λW'=>bc W' k 1
  have e5:((k+1:Nat):Int)=(k:Int)+1:=by omega
  have l6:∀V',Le U V'->bu (.pointer (some ⟨b0,6,none⟩)) V'=some (qq,V'):=λV' h=>aP (ao ((h.get _ Tu).trans g0)) rfl
  have lq:=Row.len hq Ab;obtain⟨b,i,u,p1,p2,p3,p4⟩:=hq.get hk;have lu:=p4 (V.add (.cells [])) ((aM.trans ((Le.refl V).add _)).get _ p2);obtain⟨u',V2,c1,c2,c3⟩:=Ak Cm iu ol (p3.keep aM) (by have:=hl _ (cG hk);omega) (by have:=hl _ (cG hk);omega);have hUV:=aM.next;have c2n:=c2.next;have amG:∀B,bo=some B->B<V.next:=λB h=>e2.lt h
  have avm:bo.getD b0<V.next:=by
   cases bo with
   |none=>exact fb Tu hUV
   |some B=>exact amG B rfl
  have hLS:LS lo sb (bo.getD b0) V2 u' x.qs[k]:=.acJ c3 (by omega) (by omega) avm;have e2':g9 (V2.add (.cells (Cx ⟨u',hLS.Mx.one⟩))) 1 Cx out us bo:=e2.keep (by rw[AW.av];omega) λB hB=>(AW.aG _ _ (by have:=amG B hB;omega)).trans (c2.get _ (amG B hB))
  obtain⟨v',V3,k1,k2,k3,k4⟩:=e2'.push ajh Lq Qi (b:=V2.next) (c:=1) bC (by omega) (by omega);have k1':dB Tryz.prog (V2.add (.cells [u'])) #[32,32] out (.slice (some ⟨V2.next,0,none⟩) 1 1)=some (v',V3):=k1;rw[AW.av]at k2 k3 k4;simp only[SX,r1,r3,r4,aI,l6 V aM,lq,t1,Dm,l6 _ (aM.trans ((Le.refl V).add _)),p1,lu,c1,aia hLS.Mx,k1',t2,af];have aij:∀{u l},LS lo sb (bo.getD b0) V2 u l->LS lo sb (V2.next+1) V3 u l:=by
   intro u l hu;rcases hu with hu|⟨z0,B',c',z1,z2,z3,z4,z5,z6,z7⟩
   ·exact .inl hu
   ·refine .inr ⟨z0,B',c',z1,by omega,z3,by omega,z5,z6,(k4 B' (by omega) λe=>?_).trans ((AW.aG _ _ (by omega)).trans z7)⟩;rw[e]at z4;exact z4 rfl
  refine .inl ⟨aj,⟨by omega,λc hc=>(k4 c (by omega) λe=>by have:=e3 c e;omega).trans ((AW.aG _ _ (by omega)).trans ((c2.get _ (by omega)).trans (aM.get _ hc)))⟩,r1,r2,by rw[e5];rfl,us++[⟨u',hLS.Mx.one⟩],some (V2.next+1),v',rfl,by simp[e1],k2,λB hB=>by injection hB with hB;omega,λj hj hj'=>?_⟩;rw[oL];rw[cD,EW]at hj;rcases qf j us.length with ZZ|ZZ
  ·rw[List.getElem_append_left ZZ];exact aij ((e4 j ZZ hj').fr (.of_le c2))
  ·have:j=us.length:=by omega
   subst this;rw[List.getElem_append_right (aR _)];simp only[Bb,List.getElem_cons_zero];have:x.qs[us.length]=x.qs[k]:=by simp[e1]
   rw[this];exact aij hLS
 ·rintro R V ⟨aM,r1,r2,r4,us,bo,out,r3,e1,e2,e3,e4⟩;unfold qc;have t1:decide ((x.qs.length:Int)<(x.qs.length:Int))=false:=bS;have l6:bu (.pointer (some ⟨b0,6,none⟩)) V=some (qq,V):=aP (ao ((aM.get _ Tu).trans g0)) rfl;simp only[SX,r1,r4,aI,l6,Row.len hq Ab,t1,af];exact⟨by simp,aj,aM,r1,r2,us,bo,out,r3,e1,e2,e3,e4⟩
 ·rintro⟨e,R,V⟩ ⟨rfl,a1,a2,a3,us,bo,out,r3,e1,e2,e3,e4⟩;rcases e2 with⟨e2,-⟩|⟨-,B,rfl,h1,h2,h3⟩
  ·exact absurd (mi.1 (by rw[<-e1,e2];rfl)) h0
  rw[e1]at h2;refine hK R V B a2 a3 (r3.trans h2) a1 (e3 B rfl) h1 ⟨_,h3,by rw[cm Lq,iI,e1],λk hk=>⟨_,?_,e4 k (by omega) hk⟩⟩;have hf:us.flatMap Cx=us.map (·.1):=by
   clear e4 h3 h2 e1;induction us with
   |nil=>rfl
   |cons a us ih=>rw[fN,ih];rfl
  rw[hf,ly,bJ (by omega)];rfl
def ab8{Z W:AW}{x:cS}{sv sq qq:ad}(hz:Le Z W)(hs:fC Z sv x.v.ax)(n8:Qb W sq x.st)(hq:Qf W qq x.qs)(h0:x.st≠[])(h0q:x.qs≠[])(hn:x.st.length<=10000)(hqn:x.qs.length<=10000)(hl:∀l∈x.qs,l.length<=10000):
 ∃V sb qb,aY (.func (.func 34) #[] #[]) [ky x sv sq qq] W=some (ku sb qb x sv,V)/\kb Z W V sb qb x sv:=by
 have hq':Ok (C8 aY (ky x sv sq qq) W) λr=>∃sb qb,r.1=ku sb qb x sv/\kb Z W r.2 sb qb x sv:=by
  unfold C8;obtain⟨V,hV⟩:∃V,V=(W.add (.cells (eT x sv sq qq))).add (.cells [.ae 0,.ae 0,.ae 0,.slice none 0 0,.ae 0,.slice none 0 0,.slice none 0 0]):=⟨_,rfl⟩;have aM:Le W V:=by rw[hV];exact((Le.refl W).add _).add _
  have g1:V.get W.next=some (.cells (eT x sv sq qq)):=by rw[hV];exact(AW.aG _ _ (by rw[AW.av];omega)).trans (AW.aL _ _)
  have g2:V.get (W.next+1)=some (.cells [.ae 0,.ae 0,.ae 0,.slice none 0 0,.ae 0,.slice none 0 0,.slice none 0 0]):=by rw[hV,<-AW.av W (.cells (eT x sv sq qq))];exact AW.aL _ _
  have nV:V.next=W.next+2:=by rw[hV];rfl
  simp only[SX,nO,AW.av];rw[<-hV];clear hV;have akN:=n8.keep aM;obtain⟨u,V2,c1,c2,c3⟩:=Ud apX na WT akN (by omega) (by omega);rcases c3 with⟨h,-⟩|⟨-,sb,b1,b2,rfl,b4⟩
  ·exact absurd h h0
  have l5:bu (.pointer (some ⟨W.next,5,none⟩)) (V.add (.cells []))=some (sq,V.add (.cells [])):=aP (ao ((AW.aG _ _ (by omega)).trans g1)) rfl;have g1':V2.get W.next=some (.cells (eT x sv sq qq)):=(c2.get _ (by omega)).trans g1;have s5:fm 1 (.pointer (some ⟨W.next,5,none⟩)) (fI sb x.st.length) V2=some (ak,V2.put W.next (.cells (eT x sv (fI sb x.st.length) qq))):=by rw[jh,cT g1'];rfl
  simp only[SX,aI,aaf,l5,c1,s5];obtain⟨V3,A0⟩:∃V3,V3=V2.put W.next (.cells (eT x sv (fI sb x.st.length) qq)):=⟨_,rfl⟩;have g3:V3.get W.next=some (.cells (eT x sv (fI sb x.st.length) qq)):=by rw[A0];exact AW.aW _ _ _
  have o3:∀b,b≠W.next->V3.get b=V2.get b:=λb hb=>by rw[A0];exact AW.ay _ _ (bh hb)
  have n3:V3.next=V2.next:=by rw[A0];rfl
  have BU:Le W V3:=by rw[A0];exact(aM.trans c2).put (aR _) _
  rw[<-A0];clear A0;have c2n:=c2.next;refine YD (U:=V3) (lo:=W.next) (sb:=sb) (b0:=W.next) (v2:=ba (W.next+1)) (sv:=sv) (sq:=fI sb x.st.length) (x:=x) (hq.mono BU) hqn hl g3 (by omega) (by omega) (by omega) h0q rfl rfl rfl rfl ?_;intro R' V4 qb q1 q2 q3 q4 q5 q6 q7;have q4n:=q4.next;have g4:V4.get W.next=some (.cells (eT x sv (fI sb x.st.length) qq)):=(q4.get _ (by omega)).trans g3;have s6:fm 1 (.pointer (some ⟨W.next,6,none⟩)) (lG qb x.qs.length) V4=some (ak,V4.put W.next (.cells (eT x sv (fI sb x.st.length) (lG qb x.qs.length)))):=by rw[jh,cT g4];rfl
  have l7:dF 7 (ba W.next) (V4.put W.next (.cells (eT x sv (fI sb x.st.length) (lG qb x.qs.length))))=some (ku sb qb x sv,V4.put W.next (.cells (eT x sv (fI sb x.st.length) (lG qb x.qs.length)))):=
   bz (ao (AW.aW _ _ _)) rfl
  have g5:(V4.put W.next (.cells (eT x sv (fI sb x.st.length) (lG qb x.qs.length)))).get (W.next+1)=some (.cells [.ae 0,.ae 0,.ae 0,.slice none 0 0,.ae 0,.slice none 0 0,.slice none 0 0]):=
   (AW.ay _ _ (by omega)).trans ((q4.get _ (by omega)).trans ((o3 _ (by omega)).trans ((c2.get _ (by omega)).trans g2)))
  have s7:=gU (W:=V4.put W.next (.cells (eT x sv (fI sb x.st.length) (lG qb x.qs.length)))) (vs:=(eT x sv (fI sb x.st.length) (lG qb x.qs.length)).toArray) g5 (n:=7) rfl rfl (by simp[dz,row_one hs.1,cI,cJ]);obtain⟨V5,Ms⟩:∃V5,V5=(V4.put W.next (.cells (eT x sv (fI sb x.st.length) (lG qb x.qs.length)))).put (W.next+1) (.cells (eT x sv (fI sb x.st.length) (lG qb x.qs.length))):=⟨_,rfl⟩;have l8:dF 7 (ba (W.next+1)) V5=some (ku sb qb x sv,V5):=by rw[Ms];exact bz (ao (AW.aW _ _ _)) rfl
  have o5:∀b,b≠W.next->b≠W.next+1->V5.get b=V4.get b:=λb h1 h2=>by rw[Ms];exact(AW.ay _ _ (bh h2)).trans (AW.ay _ _ (bh h1))
  have n5:V5.next=V4.next:=by rw[Ms];rfl
  have Q1:fm 7 (ba (W.next+1)) (ku sb qb x sv) (V4.put W.next (.cells (eT x sv (fI sb x.st.length) (lG qb x.qs.length))))=some (ak,V5):=by rw[Ms];exact s7
  simp only[SX,aI,q1,q2,q3,s6,l7,Q1,rT,EG,l8,bM,af];have auK:Le W V5:=⟨by omega,λb hb=>(o5 b (by omega) (by omega)).trans ((q4.get _ (by omega)).trans (BU.get b hb))⟩;refine⟨sb,qb,rfl,hz,auK,by omega,hs,(o5 _ (by omega) (by omega)).trans ((q4.get _ (by omega)).trans ((o3 _ (by omega)).trans b4)),?_⟩;obtain⟨qv,y1,y2,y3⟩:=q7;refine⟨qv,(o5 _ (by omega) (by omega)).trans y1,y2,λk hk=>?_⟩;obtain⟨w,w1,w2⟩:=y3 k hk;refine⟨w,w1,?_⟩;rcases w2 with w2|⟨w3,B,c,w4,w5,w6,w7,w8,w9,UG⟩
  ·exact .inl w2
  ·refine .inr ⟨w3,B,c,w4,by omega,w6,w7,w8,w9,(o5 _ ?_ ?_).trans UG⟩
   ·intro e;rw[e,g4,oX]at UG;injection UG with UG;injection UG with UG;generalize x.qs[k]=lk at UG;rcases lk with - |⟨a',- |⟨b',cs⟩⟩<;>simp at UG
   ·intro e;rw[e,(q4.get (W.next+1) (by omega)).trans ((o3 _ (by omega)).trans ((c2.get _ (by omega)).trans g2)),oX]at UG;injection UG with UG;injection UG with UG;generalize x.qs[k]=lk at UG;rcases lk with - |⟨a',- |⟨b',cs⟩⟩<;>simp at UG
 obtain⟨⟨v,V⟩,h1,sb,qb,rfl,h2⟩:=hq';exact⟨V,sb,qb,by rw[Mt h1,jx (by simp[bN,eI,cC])],h2⟩
def afy{V:AW}{b2 b3:Nat}{x:cS}{sv sq qq:ad}{c2:List ad}{r0:mE}(h1:Eng.one sv=true)(h2:Eng.one sq=true)(h3:Eng.one qq=true)(g2:V.get b2=some (.cells c2))(hc:c2.length=7)(g3:V.get b3=some (.cells (jr r0)))(fe:b2≠b3)(r:mE):
 ∃V1 V2,fm 7 (ba b2) (ky x sv sq qq) V=some (ak,V1)/\V1.get b3=some (.cells (jr r0))/\(∀b,b≠b2->V1.get b=V.get b)/\fm 9 (ba b3) (fX r) V1=some (ak,V2)/\iP Tryz.prog [(ba b2,some 34),(ba b3,some 50)] V2=some (.tuple #[ky x sv sq qq,fX r],V2)/\V2.next=V.next/\∀b,b≠b2->b≠b3->V2.get b=V.get b:=by
 have s1:=gU (W:=V) (b:=b2) (n:=7) (vs:=(eT x sv sq qq).toArray) g2 hc rfl (by simp[dz,h1,h2,h3,cI]);obtain⟨V1,ko⟩:∃V1,V1=V.put b2 (.cells (eT x sv sq qq)):=⟨_,rfl⟩;have k3:V1.get b3=some (.cells (jr r0)):=by rw[ko];exact(AW.ay _ _ fe).trans g3
 have k2:V1.get b2=some (.cells (eT x sv sq qq)):=by rw[ko];exact AW.aW _ _ _
 have s2:=gU (W:=V1) (b:=b3) (n:=9) (vs:=(jr r).toArray) k3 rfl rfl rfl;obtain⟨V2,BO⟩:∃V2,V2=V1.put b3 (.cells (jr r)):=⟨_,rfl⟩;have m3:V2.get b3=some (.cells (jr r)):=by rw[BO];exact AW.aW _ _ _
 have m2:V2.get b2=some (.cells (eT x sv sq qq)):=by rw[BO];exact(AW.ay _ _ (bh fe)).trans k2
 refine⟨V1,V2,by rw[ko];exact s1,k3,λb hb=>by rw[ko];exact AW.ay _ _ (bh hb),by rw[BO];exact s2,?_,by rw[BO,ko];rfl,λb hb lA=>by rw[BO,ko];exact(AW.ay _ _ (bh lA)).trans (AW.ay _ _ (bh hb))⟩;rw[AS,EG,adX,bz (n:=7) (o:=0) (ao m2) rfl,bM,bz (n:=9) (o:=0) (ao m3) rfl];rfl
structure F4 (V V1:AW) (x:cS) (sv sq qq:ad) (o:kP):Prop where
 le:Le V V1
 n:V1.next=V.next+4
 g0:V1.get V.next=some (.cells (eT x sv sq qq))
 g1:V1.get (V.next+1)=some (.cells (Da o))
 g2:V1.get (V.next+2)=some (.cells [.ae 0,.ae 0,.ae 0,.slice none 0 0,.ae 0,.slice none 0 0,.slice none 0 0])
 g3:V1.get (V.next+3)=some (.cells (jr gz))
def f4(V:AW)(x:cS)(sv sq qq:ad)(o:kP):F4 V ((((V.add (.cells (eT x sv sq qq))).add (.cells (Da o))).add (.cells [.ae 0,.ae 0,.ae 0,.slice none 0 0,.ae 0,.slice none 0 0,.slice none 0 0])).add (.cells (jr gz))) x sv sq qq o where
 le:=((((Le.refl V).add _).add _).add _).add _
 n:=rfl
 g0:=by rw[AW.aG _ _ (by simp only[AW.av];omega),AW.aG _ _ (by simp only[AW.av];omega),AW.aG _ _ (by simp only[AW.av];omega)];exact AW.aL _ _
 g1:=by rw[AW.aG _ _ (by simp only[AW.av];omega),AW.aG _ _ (by simp only[AW.av];omega)];exact AW.aL (V.add _) _
 g2:=by rw[AW.aG _ _ (by simp only[AW.av];omega)];exact AW.aL ((V.add _).add _) _
 g3:=AW.aL (((V.add _).add _).add _) _
section
variable {Z W V V':AW} {lo sb qb k:Nat} {x x':cS} {sv:ad} {o:kP}
def kb.ass(h:kb Z W V sb qb x sv)(hk:k<x.qs.length){Iv:Nat}{qv:List ad}{u:ad}{l:List Int}(h1:V.next<=Iv)(hf:Fr V V' sb qb)(gs:V'.get sb=some (.cells (x'.st.flatMap dJ)))(hqv:V.get qb=some (.cells qv))(hq:V'.get qb=some (.cells (qv.set k u)))(hE:EL Iv V' 1 qI u l)(ev:x'.v=x.v)(eq:x'.qs=x.qs.set k l):kb Z W V' sb qb x' sv:=by
 have zB:=h.lo;have aM:=h.le.next;obtain⟨qv',q1,q2,q3⟩:=h.gq;rw[q1]at hqv;injection hqv with hqv;injection hqv with hqv;subst hqv;have NM:k<qv'.length:=by omega
 refine h.step hf ev gs ⟨_,hq,by simp[q2,eq],λj hj=>?_⟩;have ZZ:j<x.qs.length:=by rw[eq]at hj;simpa using hj
 simp only[eq];by_cases Xm:k=j
 ·subst Xm;refine⟨_,y6 NM,?_⟩;rw[AK];exact .acJ hE (by omega) (by omega) (by omega)
 ·obtain⟨u'',v1,v2⟩:=q3 j ZZ;refine⟨u'',by rw[Ah Xm];exact v1,?_⟩;rw[Ds Xm];exact v2.fr hf
def Yk(h:kb Z W V sb qb x sv)(hk:k<x.qs.length)(Vb:k<x.v.ax.length)(PG:o.sc=(k:Int))(hl:(ik x k).length<=1000)(Xm:o.k=10\/o.k=11):
 ∃V',aY (.func (.func 38) #[] #[]) [ku sb qb x sv,yc o] V=some (.tuple #[ku sb qb (if o.k=10 then yn x k o.ow else sI x k o.ow) sv,fX (if o.k=10 then y9 x k o.ow else F3 x k o.ow)],V')/\kb Z W V' sb qb (if o.k=10 then yn x k o.ow else sI x k o.ow) sv/\Fr V V' sb qb:=by
 have jL:∀X R,(if o.k=10 then yn x k o.ow else sI x k o.ow)=X->(if o.k=10 then y9 x k o.ow else F3 x k o.ow)=R->Ok (zh aY (ku sb qb x sv) (yc o) V) λr=>r.1=.tuple #[ku sb qb X sv,fX R]/\kb Z W r.2 sb qb X sv/\Fr V r.2 sb qb:=by
  intro X R hX hR;unfold zh;have zB:=h.lo;obtain⟨V1,ko⟩:∃V1,V1=((((V.add (.cells (eT x sv (fI sb x.st.length) (lG qb x.qs.length)))).add (.cells (Da o))).add (.cells [.ae 0,.ae 0,.ae 0,.slice none 0 0,.ae 0,.slice none 0 0,.slice none 0 0])).add (.cells (jr gz))):=⟨_,rfl⟩;have F:=f4 V x sv (fI sb x.st.length) (lG qb x.qs.length) o;rw[<-ko]at F;simp only[SX,nO,Cb,AW.av,gV,Nat.reduceAdd];rw[<-ko];clear ko;have h':=h.mono F.le;have n1:=F.n;have JJ:=row_one h.sec.1;have l0:∀{i:Nat} {u:ad} U,U.get V.next=V1.get V.next->(eT x sv (fI sb x.st.length) (lG qb x.qs.length))[i]? =some u->bu (.pointer (some ⟨V.next,i,none⟩)) U=some (u,U):=λU hU hi=>aP (ao (hU.trans F.g0)) hi
  have l1:∀{i:Nat} {u:ad} U,U.get (V.next+1)=V1.get (V.next+1)->(Da o)[i]? =some u->bu (.pointer (some ⟨V.next+1,i,none⟩)) U=some (u,U):=λU hU hi=>aP (ao (hU.trans F.g1)) hi
  have l7:∀U,U.get V.next=V1.get V.next->dF 7 (ba V.next) U=some (ku sb qb x sv,U):=λU hU=>bz (ao (hU.trans F.g0)) rfl
  have lk:bu (ba (V.next+1)) V1=some (.ae o.k,V1):=l1 (i:=0) V1 rfl rfl;have l6:=l0 (i:=6) V1 rfl rfl;have lsc:bu (.pointer (some ⟨V.next+1,4,none⟩)) V1=some (.ae (k:Int),V1):=by rw[<-PG];exact l1 (i:=4) V1 rfl rfl
  have low:=l1 (i:=1) V1 rfl rfl;have l3:=l0 (i:=3) V1 rfl rfl;obtain⟨qv,q1,q2,q3⟩:=h'.gq;obtain⟨u,u1,u2⟩:=q3 _ hk;have qV:V.get qb=some (.cells qv):=(F.le.get _ zB.2.2.2.1).symm.trans q1;have e0:x.qs[k]=ik x k:=by simp[ik,bJ hk]
  rw[e0]at u2;have lu:bu (.pointer (some ⟨qb,k,none⟩)) V1=some (u,V1):=aP (ao q1) u1;have lpl:=NG u2.rd (by omega) o.ow;have LM:nc (λy=>decide (o.ow=y)) (ik x k)=MP x k o.ow:=rfl;rw[LM]at lpl;have NM:k<qv.length:=by omega
  have same:∀(r:mE),∃V8 V9,fm 7 (ba (V.next+2)) (ku sb qb x sv) V1=some (ak,V8)/\fm 9 (ba (V.next+3)) (fX r) V8=some (ak,V9)/\iP Tryz.prog [(ba (V.next+2),some 34),(ba (V.next+3),some 50)] V9=some (.tuple #[ku sb qb x sv,fX r],V9)/\kb Z W V9 sb qb x sv/\Fr V V9 sb qb:=by intro r;obtain⟨V8,V9,p1,p0,QM,p2,p3,p4,p5⟩:=afy (x:=x) (sq:=fI sb x.st.length) (qq:=lG qb x.qs.length) JJ (cJ _ _ _) (cJ _ _ _) F.g2 rfl F.g3 (by omega) r;have le9:Le V V9:=⟨by omega,λb hb=>(p5 b (by omega) (by omega)).trans (F.le.get b hb)⟩;exact⟨V8,V9,p1,p2,p3,h.mono le9,.of_le le9⟩
  have put:∀(V5:AW) (u':ad) (l:List Int) (X:cS) (r:mE) Iv,V1.next<=Iv->V1.next<=V5.next->(∀b,b<V1.next->V5.get b=V1.get b)->EL Iv V5 1 qI u' l->X={x with qs:=x.qs.set k l}->
   ∃V6 V8 V9,fm 1 (.pointer (some ⟨qb,k,none⟩)) u' V5=some (ak,V6)/\V6.get V.next=V1.get V.next/\fm 7 (ba (V.next+2)) (ku sb qb x sv) V6=some (ak,V8)/\fm 9 (ba (V.next+3)) (fX r) V8=some (ak,V9)/\iP Tryz.prog [(ba (V.next+2),some 34),(ba (V.next+3),some 50)] V9=some (.tuple #[ku sb qb X sv,fX r],V9)/\kb Z W V9 sb qb X sv/\Fr V V9 sb qb:=by
   intro V5 u' l X r Iv aAf hn5 h5 hE eX;have q5:V5.get qb=some (.cells qv):=(h5 _ (by omega)).trans q1;have s1:=aq5 q5 NM hE;obtain⟨V6,hV6⟩:∃V6,V6=V5.put qb (.cells (qv.set k u')):=⟨_,rfl⟩;have g6:V6.get qb=some (.cells (qv.set k u')):=by rw[hV6];exact AW.aW _ _ _
   have o6:∀b,b≠qb->V6.get b=V5.get b:=λb hb=>by rw[hV6];exact AW.ay _ _ (bh hb)
   have n6:V6.next=V5.next:=by rw[hV6];rfl
   obtain⟨V8,V9,p1,p0,QM,p2,p3,p4,p5⟩:=afy (x:=x) (sq:=fI sb x.st.length) (qq:=lG qb x.qs.length) JJ (cJ _ _ _) (cJ _ _ _) ((o6 _ (by omega)).trans ((h5 _ (by omega)).trans F.g2)) rfl ((o6 _ (by omega)).trans ((h5 _ (by omega)).trans F.g3)) (by omega) r;have hf:Fr V V9 sb qb:=⟨by omega,λb hb h1 h2=>(p5 b (by omega) (by omega)).trans ((o6 b h2).trans ((h5 b (by omega)).trans (F.le.get b hb)))⟩;have gX:ky x sv (fI sb x.st.length) (lG qb x.qs.length)=ku sb qb X sv:=by rw[eX];unfold ku;simp only[xU]
   refine⟨V6,V8,V9,by rw[hV6];exact s1,(o6 _ (by omega)).trans (h5 _ (by omega)),p1,p2,by rw[<-gX];exact p3,?_,hf⟩;refine h.ass hk (Iv:=Iv) (by omega) hf ?_ qV ((p5 _ (by omega) (by omega)).trans g6) (hE.keep (by omega) λb hb lA=>?_) (by rw[eX]) (by rw[eX])
   ·rw[eX];exact(p5 _ (by omega) (by omega)).trans ((o6 _ zB.2.2.2.2).trans ((h5 _ (by omega)).trans ((F.le.get _ zB.2.2.1).trans h.gs)))
   ·exact(p5 _ (by omega) (by omega)).trans (o6 _ (by omega))
  by_cases k11:o.k=11
  ·have d11:=aK k11;rw[bL]at hX hR;by_cases c:MP x k o.ow<0
   ·have d:=aK c;have eX:X=x:=by rw[<-hX];exact an c
    have eR:R=pY 4:=by rw[<-hR];exact an c
    rw[eX,eR];obtain⟨V8,V9,p1,p2,p3,p4,p5⟩:=same (pY 4);simp only[SX,l6,lsc,ixL hk,lu,low,lpl,lk,d11,d,l7 V1 rfl,km,p1,p2,p3,af];exact⟨aj,p4,p5⟩
   ·have d:=aJ c;obtain⟨i,hi,hii⟩:=Wb (p:=λy=>decide (o.ow=y)) (l:=ik x k) c;have hio:MP x k o.ow=(i:Int):=hii;have eX:X={x with qs:=x.qs.set k ((ik x k).take i++(ik x k).drop (i+1))}:=by rw[<-hX];refine(aq c).trans ?_;rw[hio];rfl
    have eR:R=gz:=by rw[<-hR];exact aq c
    have t2:=λW'=>bc W' i 1
    obtain⟨w1,s1,s2⟩:=u2.el.to (P:=Tryz.prog) (t:=88) (kk:=.i64) (k:=i) TH (by omega) iu (by omega) (by omega);obtain⟨w2,s3,s4⟩:=u2.el.from (P:=Tryz.prog) (t:=88) (kk:=.i64) (k:=i+1) TH (by omega) iu (by omega) (by omega);rw[show((i+1:Nat):Int)=(i:Int)+1 by omega]at s3;obtain⟨u3,V3,m1,m2,m3⟩:=Ak Cm iu ol s2 (by rw[cR];omega) (by rw[cR];omega);obtain⟨u4,V4,m4,m5,m6,m7⟩:=m3.app Cm iu ol (s4.keep m2) (by rw[cR,mr];omega) (by rw[cR,mr];omega) m2.next;have m2n:=m2.next;have kp:∀b,b<V1.next->V4.get b=V1.get b:=λb hb=>(m7 b hb).trans (m2.get b hb)
    obtain⟨V6,V8,V9,p1,p0,p2,p3,p4,p5,p6⟩:=put V4 u4 _ X R V1.next (aR _) (by omega) kp m5 eX;rw[eR]at p3 p4|-;rw[hio]at lpl d;have a6:∀U,(∀b,b<V1.next->U.get b=V1.get b)->bu (.pointer (some ⟨V.next,6,none⟩)) U=some (lG qb x.qs.length,U):=λU hU=>l0 (i:=6) U (hU _ (by omega)) rfl
    have a4:∀U,(∀b,b<V1.next->U.get b=V1.get b)->bu (.pointer (some ⟨V.next+1,4,none⟩)) U=some (.ae (k:Int),U):=λU hU=>by rw[<-PG];exact l1 (i:=4) U (hU _ (by omega)) rfl
    simp only[SX,l6,lsc,ixL hk,lu,low,lpl,lk,d11,d,Dm,s1,t2,s3,m1,a6 V3 (λb hb=>m2.get b hb),a4 V3 (λb hb=>m2.get b hb),cV,i9,fJ,fM,m4,a6 V4 kp,a4 V4 kp,p1,l7 V6 p0,CO,p2,p3,p4,af];exact⟨aj,p5,p6⟩
  ·have k10:o.k=10:=by omega
   have d11:=aJ k11;rw[an k10]at hX hR;obtain⟨b',i',rv,s1,-,-,-,-,s5⟩:=ig.get h.sec.1 Vb;have eq0:x.v.ax[k].q=yK x.v k:=by unfold yK;rw[bJ Vb];rfl
   have ZW:=s5 V1 ((h.z.trans h.le).trans F.le);rw[eq0]at ZW;obtain⟨ua,uc,ue⟩:=u2.el.slice;have ul:∀U:AW,aZ Tryz.prog .len #[88] 3 #[false] [u] U=some (.ae ((ik x k).length:Int),U):=λU=>by rw[ue];exact df oJ _ _ _
   by_cases c:yK x.v k<=((ik x k).length:Int)
   ·have d:=aK c;have e1:wv x k o.ow=5:=an c;have eX:X=x:=by rw[<-hX];exact aq (by rw[e1];omega)
    have eR:R=pY 5:=by rw[<-hR];unfold y9;rw[e1,bL]
    rw[eX,eR];obtain⟨V8,V9,p1,p2,p3,p4,p5⟩:=same (pY 5);simp only[SX,l6,lsc,ixL hk,lu,low,lpl,lk,d11,ul,l3,s1,ZW,d,l7 V1 rfl,km,p1,p2,p3,af];exact⟨aj,p4,p5⟩
   have d:=aJ c;have dp:decide (0<=MP x k o.ow)=(ik x k).any λy=>decide (o.ow=y):=Ag
   by_cases c2:((ik x k).any λy=>decide (o.ow=y))=true
   ·have e1:wv x k o.ow=8:=by unfold wv;rw[aq c,an c2]
    have eX:X=x:=by rw[<-hX];exact aq (by rw[e1];omega)
    have eR:R=pY 8:=by rw[<-hR];unfold y9;rw[e1,bL]
    rw[eX,eR];rw[c2]at dp;obtain⟨V8,V9,p1,p2,p3,p4,p5⟩:=same (pY 8);simp only[SX,l6,lsc,ixL hk,lu,low,lpl,lk,d11,ul,l3,s1,ZW,d,dp,l7 V1 rfl,km,p1,p2,p3,af];exact⟨aj,p4,p5⟩
   have c2':((ik x k).any λy=>decide (o.ow=y))=false:=uY.2 c2;rw[c2']at dp;have e1:wv x k o.ow=0:=by unfold wv;rw[aq c,aq c2]
   have eX:X={x with qs:=x.qs.set k (ik x k++[o.ow])}:=by rw[<-hX];exact an e1
   have eR:R=rpP (((ik x k).length:Int)+1):=by rw[<-hR];exact an e1
   obtain⟨V2,BO⟩:∃V2,V2=(V1.add (.cells [])).add (.cells (qI o.ow)):=⟨_,rfl⟩;have JU:Le V1 V2:=by rw[BO];exact((Le.refl _).add _).add _
   have n2:V2.next=V1.next+2:=by rw[BO];rfl
   have g2':V2.get (V1.next+1)=some (.cells (qI o.ow)):=by rw[BO];exact AW.aL (V1.add (.cells [])) _
   have hE:EL V2.next V2 1 qI (.slice (some ⟨V1.next,0,none⟩) 0 0) []:=EL.anK _ _ _ _ _;obtain⟨u3,V3,m1,m2,m3,m4⟩:=hE.app Cm iu ol (u2.rd.keep JU) (by rw[p8];omega) (by rw[p8];omega) (aR _);rw[jG]at m2;have hR2:Rd V3 1 qI (.slice (some ⟨V1.next+1,0,none⟩) 1 1) [o.ow]:=⟨_,_,rfl,.inr ⟨V1.next+1,0,_,rfl,by omega,ao ((m4 _ (by omega)).trans g2'),rfl⟩⟩;obtain⟨u4,V4,m5,m6,m7,m8⟩:=m2.app Cm iu ol hR2 (by rw[EW];omega) (by rw[EW];omega) m3;have kp3:∀b,b<V1.next->V3.get b=V1.get b:=λb hb=>(m4 b (by omega)).trans (JU.get b hb)
   have kp:∀b,b<V1.next->V4.get b=V1.get b:=λb hb=>(m8 b (by omega)).trans (kp3 b hb)
   obtain⟨V6,V8,V9,p1,p0,p2,p3,p4,p5,p6⟩:=put V4 u4 _ X R V2.next (by omega) (by omega) kp m6 eX;rw[eR]at p3 p4|-;have a6:∀U,(∀b,b<V1.next->U.get b=V1.get b)->bu (.pointer (some ⟨V.next,6,none⟩)) U=some (lG qb x.qs.length,U):=λU hU=>l0 (i:=6) U (hU _ (by omega)) rfl
   have a4:∀U,(∀b,b<V1.next->U.get b=V1.get b)->bu (.pointer (some ⟨V.next+1,4,none⟩)) U=some (.ae (k:Int),U):=λU hU=>by rw[<-PG];exact l1 (i:=4) U (hU _ (by omega)) rfl
   have a1:∀U,(∀b,b<V1.next->U.get b=V1.get b)->bu (.pointer (some ⟨V.next+1,1,none⟩)) U=some (.int .u32 o.ow,U):=λU hU=>l1 (i:=1) U (hU _ (by omega)) rfl
   have t3:=λW'=>bc W' ((ik x k).length:Int) 1
   have b2:cX Tryz.prog 88 1 [(0,.int .u32 o.ow)] (V1.add (.cells []))=some (.slice (some ⟨V1.next+1,0,none⟩) 1 1,V2):=by rw[BO];exact aiJ _ _
   have k1':=λb hb=>AW.aG V1 (.cells []) (show V1.next≠b from hb)
   simp only[SX,l6,lsc,ixL hk,lu,low,lpl,lk,d11,ul,l3,s1,ZW,d,dp,Dm,a1 (V1.add (.cells [])) (λb hb=>AW.aG _ _ (by omega)),b2,m1,a6 V3 kp3,a4 V3 kp3,a1 V3 kp3,cV,i9,fJ,fM,m5,a6 V4 kp,a4 V4 kp,p1,l7 V6 p0,t3,aaK,p2,p3,p4,af];exact⟨aj,p5,p6⟩
 obtain⟨⟨v,V2⟩,k1,rfl,k2⟩:=jL _ _ rfl rfl;exact⟨V2,by rw[KL k1,jx (by simp[bN,eI,cC])],k2⟩
end
section
variable {Z W V U U':AW} {lo sb qb k:Nat} {x x' X:cS} {sv:ad} {o:kP} {y:fq} {R0:mE}
def kb.box(h:kb Z W U sb qb X sv)(hn:U.next<=U'.next)(hb:∀b,b<U.next->U'.get b=U.get b\/(W.next<=b/\b≠sb/\b≠qb/\∃c cs,U.get b=some (.cells (.ae c::cs)))):kb Z W U' sb qb X sv:=by
 have zB:=h.lo;have wj:∀b,b<U.next->(b<W.next\/b=sb\/b=qb)->U'.get b=U.get b:=λb h1 h2=>by
  rcases hb b h1 with e|⟨e1,e2,e3,-⟩
  ·exact e
  ·omega
 refine⟨h.z,⟨dW h.le.next hn,λb IE=>(wj b (by have:=h.le.next;omega) (.inl IE)).trans (h.le.get b IE)⟩,by omega,h.sec,(wj _ (by omega) (.inr (.inl rfl))).trans h.gs,?_⟩;obtain⟨qv,q1,q2,q3⟩:=h.gq;refine⟨qv,(wj _ (by omega) (.inr (.inr rfl))).trans q1,q2,λk hk=>?_⟩;obtain⟨u,u1,u2⟩:=q3 k hk;refine⟨u,u1,?_⟩;rcases u2 with u2|⟨z0,B,c,z1,z2,z3,z4,z5,z6,z7⟩
 ·exact .inl u2
 ·refine .inr ⟨z0,B,c,z1,by omega,z3,z4,z5,z6,?_⟩;rcases hb B z2 with e|⟨-,-,-,c',cs,e⟩
  ·exact e.trans z7
  ·rw[e,oX]at z7;injection z7 with z7;injection z7 with z7;generalize X.qs[k]=l at z7;cases l<;>simp at z7
structure G6 (V U:AW) (sb qb:Nat) (x:cS) (sv:ad) (o:kP) (y:fq) (R0:mE):Prop where
 f:Fr V U sb qb
 n:V.next+6<=U.next
 lo:sb<V.next/\qb<V.next
 one:Eng.one sv=true
 g0:U.get V.next=some (.cells (eT x sv (fI sb x.st.length) (lG qb x.qs.length)))
 g1:U.get (V.next+1)=some (.cells (Da o))
 g2:U.get (V.next+2)=some (.cells [.ae 0,.ae 0,.ae 0,.slice none 0 0,.ae 0,.slice none 0 0,.slice none 0 0])
 g3:U.get (V.next+3)=some (.cells (jr gz))
 g4:U.get (V.next+4)=some (.cells (dJ y))
 g5:U.get (V.next+5)=some (.cells (jr R0))
structure Sm (x X:cS):Prop where
 v:X.v=x.v
 now:X.now=x.now
 st:X.st.length=x.st.length
 qs:X.qs.length=x.qs.length
def Sm.rs(h:Sm x X)(sb qb:Nat)(sv:ad):ku sb qb X sv=ku sb qb x sv:=by unfold ku ky;rw[h.v,h.now,h.st,h.qs]
def G6.l7(g:G6 V U sb qb x sv o y R0):dF 7 (ba V.next) U=some (ku sb qb x sv,U):=bz (ao g.g0) rfl
def G6.l5(g:G6 V U sb qb x sv o y R0):dF 5 (ba (V.next+4)) U=some (iS y,U):=bz (ao g.g4) rfl
def G6.l9(g:G6 V U sb qb x sv o y R0):dF 9 (ba (V.next+5)) U=some (fX R0,U):=bz (ao g.g5) rfl
def Wt(g:G6 V U sb qb x sv o y R0)(h:kb Z W U sb qb X sv)(hW:W.next<=V.next)(hS:Sm x X)(r:mE):
 ∃V8 V9,fm 7 (ba (V.next+2)) (ku sb qb x sv) U=some (ak,V8)/\(∀b,b≠V.next+2->V8.get b=U.get b)/\fm 9 (ba (V.next+3)) (fX r) V8=some (ak,V9)/\iP Tryz.prog [(ba (V.next+2),some 34),(ba (V.next+3),some 50)] V9=some (.tuple #[ku sb qb X sv,fX r],V9)/\kb Z W V9 sb qb X sv/\Fr V V9 sb qb:=by
 obtain⟨V8,V9,p1,p0,QM,p2,p3,p4,p5⟩:=afy (x:=x) (sq:=fI sb x.st.length) (qq:=lG qb x.qs.length) g.one (cJ _ _ _) (cJ _ _ _) g.g2 rfl g.g3 (by omega) r;have hn:=g.n;have hl:=g.lo;refine⟨V8,V9,p1,QM,p2,by rw[hS.rs];exact p3,h.box (by omega) λb hb=>?_,⟨by omega,λb hb h1 h2=>(p5 b (by omega) (by omega)).trans (g.f.2 b hb h1 h2)⟩⟩;by_cases e2:b=V.next+2
 ·exact .inr ⟨by omega,by omega,by omega,_,_,by rw[e2];exact g.g2⟩
 by_cases e3:b=V.next+3
 ·exact .inr ⟨by omega,by omega,by omega,_,_,by rw[e3];exact g.g3⟩
 ·exact .inl (p5 b e2 e3)
def Vm(g:G6 V U sb qb x sv o y R0)(h:kb Z W U sb qb X sv)(hW:W.next<=V.next)(hS:Sm x X):
 Ok (fG aY (ba V.next) (ba (V.next+2)) (ba (V.next+3)) (ba (V.next+5)) U) λr=>r.1=.tuple #[ku sb qb X sv,fX R0]/\kb Z W r.2 sb qb X sv/\Fr V r.2 sb qb:=by
 obtain⟨V8,V9,p1,p0,p2,p3,p4,p5⟩:=Wt g h hW hS R0;unfold fG;have l9':dF 9 (ba (V.next+5)) V8=some (fX R0,V8):=bz (ao ((p0 _ (by omega)).trans g.g5)) rfl;simp only[SX,g.l7,g.l9,p1,l9',cV,wo,fM,p2,p3,af];exact⟨aj,p4,p5⟩
end
section
variable {Z W V U U':AW} {lo sb qb k:Nat} {x x' X:cS} {sv:ad} {o:kP} {y:fq} {R0:mE}
def G6.fr(g:G6 V U sb qb x sv o y R0)(hf:Fr U U' sb qb):G6 V U' sb qb x sv o y R0:=by
 have hn:=g.n;have hl:=g.lo;have hk:∀j,j<6->U'.get (V.next+j)=U.get (V.next+j):=λj hj=>hf.2 _ (by omega) (by omega) (by omega)
 exact⟨g.f.trans hf,by have:=hf.1;omega,g.lo,g.one,(hk 0 (by omega)).trans g.g0,(hk 1 (by omega)).trans g.g1,(hk 2 (by omega)).trans g.g2,(hk 3 (by omega)).trans g.g3,(hk 4 (by omega)).trans g.g4,(hk 5 (by omega)).trans g.g5⟩
def aj8(g:G6 V U sb qb x sv o y R0){j:Nat}(c:dH):Fr V (U.put (V.next+j) c) sb qb:=⟨by rw[AW.bH];exact g.f.1,λb hb h1 h2=>(AW.ay _ _ (by omega)).trans (g.f.2 b hb h1 h2)⟩
def G6.w5(g:G6 V U sb qb x sv o y R0)(R1:mE):G6 V (U.put (V.next+5) (.cells (jr R1))) sb qb x sv o y R1:=
 ⟨aj8 g _,g.n,g.lo,g.one,(AW.ay _ _ (by omega)).trans g.g0,(AW.ay _ _ (by omega)).trans g.g1,(AW.ay _ _ (by omega)).trans g.g2,(AW.ay _ _ (by omega)).trans g.g3,(AW.ay _ _ (by omega)).trans g.g4,AW.aW _ _ _⟩
def G6.w4(g:G6 V U sb qb x sv o y R0)(y1:fq):G6 V (U.put (V.next+4) (.cells (dJ y1))) sb qb x sv o y1 R0:=
 ⟨aj8 g _,g.n,g.lo,g.one,(AW.ay _ _ (by omega)).trans g.g0,(AW.ay _ _ (by omega)).trans g.g1,(AW.ay _ _ (by omega)).trans g.g2,(AW.ay _ _ (by omega)).trans g.g3,AW.aW _ _ _,(AW.ay _ _ (by omega)).trans g.g5⟩
def G6.w0(g:G6 V U sb qb x sv o y R0):G6 V (U.put V.next (.cells (eT x sv (fI sb x.st.length) (lG qb x.qs.length)))) sb qb x sv o y R0:=
 ⟨aj8 (j:=0) g _,g.n,g.lo,g.one,AW.aW _ _ _,(AW.ay _ _ (by omega)).trans g.g1,(AW.ay _ _ (by omega)).trans g.g2,(AW.ay _ _ (by omega)).trans g.g3,(AW.ay _ _ (by omega)).trans g.g4,(AW.ay _ _ (by omega)).trans g.g5⟩
def G6.box(g:G6 V U sb qb x sv o y R0)(h:kb Z W U sb qb X sv)(hW:W.next<=V.next){j:Nat}{c:dH}{a:Int}{cs:List ad}(hg:U.get (V.next+j)=some (.cells (.ae a::cs))):kb Z W (U.put (V.next+j) c) sb qb X sv:=by
 have hl:=g.lo;refine h.box (aR _) λb hb=>?_
 by_cases e:b=V.next+j
 ·exact .inr ⟨by omega,by omega,by omega,_,_,by rw[e];exact hg⟩
 ·exact .inl (AW.ay _ _ (bh e))
def rpW(R:mE)(t:LG):mE:={R with t1:=t.a,t2:=t.b,t3:=t.c,t4:=t.d}
def st4{b:Nat}{R:mE}(hg:U.get b=some (.cells (jr R)))(t:LG):fm 4 (.pointer (some ⟨b,4,none⟩)) (RW t) U=some (ak,U.put b (.cells (jr (rpW R t)))):=
 (zx (n:=4) (o:=4) (v:=RW t) hg rfl (show 4+4<=9 by omega) rfl).trans rfl
def alr(g:G6 V U sb qb x sv o y R0)(h:kb Z W U sb qb X sv)(hW:W.next<=V.next)(hS:Sm x X){i:Nat}(hb:Bd X i)(hi:i<4294967296)(hr:∀s∈X.v.ax,s.rows.length<1000)(hl:∀l∈X.qs,l.length<=10000)(c:Bool):
 Ok (qe aY (ba V.next) (ba (V.next+2)) (ba (V.next+3)) (.ae (i:Int)) (ba (V.next+4)) (ba (V.next+5)) (.ae o.k) (.bool c) U) λr=>
  r.1=.tuple #[ku sb qb (if c=true then X else if o.k=4\/o.k=7\/o.k=8 then lz X i else X) sv,fX (if c=true then rpW R0 (Qu y i)else R0)]/\kb Z W r.2 sb qb (if c=true then X else if o.k=4\/o.k=7\/o.k=8 then lz X i else X) sv/\Fr V r.2 sb qb:=by
 unfold qe;cases c
 ·obtain⟨U1,k1,k2,k3⟩:=Nt h hb.i hb.k hb.v hr hl hb.now hb.cL;rw[hS.rs]at k1;have hS':Sm x (lz X i):=by obtain⟨a,b,c,d⟩:=wC X i;exact⟨a.trans hS.v,b.trans hS.now,c.trans hS.st,d.trans hS.qs⟩
  rw[hS'.rs]at k1;have g1:=g.fr k3;have s7:=gU (W:=U1) (b:=V.next) (n:=7) (vs:=(eT x sv (fI sb x.st.length) (lG qb x.qs.length)).toArray) g1.g0 rfl rfl (by simp[dz,g.one,cI,cJ]);have Q1:fm 7 (ba V.next) (ku sb qb x sv) U1=some (ak,U1.put V.next (.cells (eT x sv (fI sb x.st.length) (lG qb x.qs.length)))):=s7;have g2:=g1.w0;have h2:kb Z W (U1.put V.next (.cells (eT x sv (fI sb x.st.length) (lG qb x.qs.length)))) sb qb (lz X i) sv:=g1.box (j:=0) k2 hW g1.g0;have mf:=Vm g2 h2 hW hS';have atV:=Vm g h hW hS;simp only[gY,b9];by_cases k4:o.k=4
  ·have d:=aK k4;rw[an (.inl k4)];simp only[SX,d,g.l7,k1,Q1];exact mf
  have d4:=aJ k4;by_cases k7:o.k=7
  ·have d:=aK k7;rw[an (.inr (.inl k7))];simp only[SX,d4,d,g.l7,k1,Q1];exact mf
  have d7:=aJ k7;by_cases k8:o.k=8
  ·have d:=aK k8;rw[an (.inr (.inr k8))];simp only[SX,d4,d7,d,g.l7,k1,Q1];exact mf
  have d8:=aJ k8;rw[bL];simp only[SX,d4,d7,d8];exact atV
 ·have g1:=g.w5 (rpW R0 (Qu y i));have h1:kb Z W (U.put (V.next+5) (.cells (jr (rpW R0 (Qu y i))))) sb qb X sv:=g.box h hW g.g5;simp only[SX,aI,g.l5,aeh hi,Ov,st4 g.g5,bi];exact Vm g1 h1 hW hS
end
section
variable {Z W V U U':AW} {lo sb qb k:Nat} {x x' X:cS} {sv:ad} {o:kP} {y:fq} {R0:mE}
def Ts(x:cS)(i:Nat)(y:fq):cS:={x with st:=x.st.set i y}
def zw(x:cS)(k:Int)(i:Nat)(y:fq)(e:Int):cS:=if e=0 then(if k=5\/k=6 then Ts x i y else if k=4\/k=7\/k=8 then lz (Ts x i y) i else Ts x i y)else x
def B4(k:Int)(i:Nat)(y:fq)(e:Int)(R0:mE):mE:=if e=0 then(if k=5\/k=6 then rpW R0 (Qu y i)else R0)else pY e
def T8(g:G6 V U sb qb x sv o y R0)(h:kb Z W U sb qb x sv)(hW:W.next<=V.next){i:Nat}(hb:Bd x i)(hi:i<4294967296)(hr:∀s∈x.v.ax,s.rows.length<1000)(hl:∀l∈x.qs,l.length<=10000)(e:Int):
 Ok (fF aY (ba V.next) (ba (V.next+1)) (ba (V.next+2)) (ba (V.next+3)) (.ae (i:Int)) (ba (V.next+4)) (.ae e) (ba (V.next+5)) U) λr=>
  r.1=.tuple #[ku sb qb (zw x o.k i y e) sv,fX (B4 o.k i y e R0)]/\kb Z W r.2 sb qb (zw x o.k i y e) sv/\Fr V r.2 sb qb:=by
 unfold fF zw B4;by_cases c:e=0;case neg=>have d:=aJ c;obtain⟨V8,V9,p1,p0,p2,p3,p4,p5⟩:=Wt g h hW ⟨rfl,rfl,rfl,rfl⟩ (pY e);simp only[SX,d,g.l7,km,p1,p2,p3,af,aq c];exact⟨aj,p4,p5⟩
 have d:=aK c;simp only[an c];have st:=zj (z:=y) h.gs (bJ hb.i);have l5:bu (.pointer (some ⟨V.next,5,none⟩)) U=some (fI sb x.st.length,U):=aP (ao g.g0) rfl;obtain⟨U1,To⟩:∃U1,U1=U.put sb (.cells ((x.st.set i y).flatMap dJ)):=⟨_,rfl⟩;have zB:=h.lo;have f1:Fr U U1 sb qb:=by rw[To];exact⟨aR _,λb _ h1 _=>AW.ay _ _ (bh h1)⟩
 have h1:kb Z W U1 sb qb (Ts x i y) sv:=h.step f1 rfl (by rw[To];exact AW.aW _ _ _) (abM h.gq f1 (by rw[To];exact AW.ay _ _ zB.2.2.2.2));have g1:=g.fr f1;have hS:Sm x (Ts x i y):=⟨rfl,rfl,by simp[Ts],rfl⟩;have As:Bd (Ts x i y) i:=hb.ch y;have lk:bu (ba (V.next+1)) U1=some (.ae o.k,U1):=aP (ao g1.g1) rfl;simp only[SX,d,aI,l5,g.l5,rE hb.i,st];rw[<-To];have J:=alr g1 h1 hW hS As hi hr hl;by_cases k5:o.k=5
 ·have d5:=aK k5;have:=J true;simp only[bi]at this;simp only[SX,lk,d5,an (show o.k=5\/o.k=6 from .inl k5)];exact this
 have d5:=aJ k5;by_cases k6:o.k=6
 ·have d6:=aK k6;have:=J true;simp only[bi]at this;simp only[SX,lk,d5,d6,an (show o.k=5\/o.k=6 from .inr k6)];exact this
 have d6:=aJ k6;have:=J false;simp only[gY,b9]at this;simp only[SX,lk,d5,d6,aq (show¬(o.k=5\/o.k=6)by omega)];exact this
end
section
variable {Z W V U U':AW} {lo sb qb k:Nat} {x x' X:cS} {sv:ad} {o:kP} {y:fq} {R0:mE}
def afM{i:Nat}(hi:i<x.st.length):Ts x i (cr x i)=x:=by
 unfold Ts;have:x.st.set i (cr x i)=x.st:=by simp[cr,bJ hi]
 rw[this]
def UJ(hk:o.k=2\/o.k=4\/o.k=5\/o.k=6\/o.k=7\/o.k=8\/o.k=9){i:Nat}(hi:cN o=(i:Int))(hn:i<x.st.length):
 bX x o=if o.k=2 then(zw x 2 i (M4 (cr x i) o.ow (eu x.now x.v.cL)) (Oj (cr x i) (eu x.now x.v.cL)),B4 2 i (M4 (cr x i) o.ow (eu x.now x.v.cL)) (Oj (cr x i) (eu x.now x.v.cL)) (Ul (eu x.now x.v.cL)))
  else if o.k=4 then(zw x 4 i (Mg (cr x i) o.ow) (lW (cr x i) o.ow),B4 4 i (Mg (cr x i) o.ow) (lW (cr x i) o.ow) gz)
  else if o.k=5 then(zw x 5 i (Ge (cr x i) o.ow) (EX (cr x i) o.ow),B4 5 i (Ge (cr x i) o.ow) (EX (cr x i) o.ow) gz)
  else if o.k=6 then(zw x 6 i (Ym (cr x i) (wE o) o.to) (Zh (cr x i) (wE o)),B4 6 i (Ym (cr x i) (wE o) o.to) (Zh (cr x i) (wE o)) gz)
  else if o.k=7 then(zw x 7 i (rfS (cr x i) (wE o)) (Cz (cr x i) (wE o)),B4 7 i (rfS (cr x i) (wE o)) (Cz (cr x i) (wE o)) gz)
  else if o.k=8 then(zw x 8 i (rvS (cr x i)) (Y7 (cr x i)),B4 8 i (rvS (cr x i)) (Y7 (cr x i)) gz)
  else(zw x 9 i (cr x i) (Cz (cr x i) (wE o)),B4 9 i (cr x i) (Cz (cr x i) (wE o)) gz):=by
 have e0:(cN o).toNat=i:=by omega
 have e:=bX.eq_1 x o;rw[e0]at e;have ew:∀y,({x with st:=x.st.set i y}:cS)=Ts x i y:=λ_=>rfl
 rcases hk with k|k|k|k|k|k|k<;>simp only[k,Int.reduceEq,bi,b9]at e|- <;>rw[e]<;>unfold zw B4<;>simp only[Int.reduceEq,or_self,or_true,or_false,bi,b9,Ng,Tx,hoR,Z3,ew]<;>(split<;>rename_i c)<;>first|rfl|(rw[c];rfl)|(rw[c,afM hn];rfl)
end
section
variable {Z W V U U':AW} {lo sb qb k:Nat} {x x' X:cS} {sv:ad} {o:kP} {y:fq} {R0:mE}
def abO(h:kb Z W V sb qb x sv){V1:AW}(F:F4 V V1 x sv (fI sb x.st.length) (lG qb x.qs.length) o)(y:fq):G6 V ((V1.add (.cells (dJ y))).add (.cells (jr gz))) sb qb x sv o y gz/\kb Z W ((V1.add (.cells (dJ y))).add (.cells (jr gz))) sb qb x sv:=by
 have le:Le V1 ((V1.add (.cells (dJ y))).add (.cells (jr gz))):=((Le.refl _).add _).add _;have n:=F.n;refine⟨⟨.of_le (F.le.trans le),by simp only[AW.av];omega,⟨h.lo.2.2.1,h.lo.2.2.2.1⟩,row_one h.sec.1,(le.get _ (by omega)).trans F.g0,(le.get _ (by omega)).trans F.g1,(le.get _ (by omega)).trans F.g2,(le.get _ (by omega)).trans F.g3,?_,?_⟩,h.mono (F.le.trans le)⟩
 ·rw[AW.aG _ _ (by simp only[AW.av];omega),<-n];exact AW.aL _ _
 ·rw[show V.next+5=(V1.add (.cells (dJ y))).next by rw[AW.av];omega];exact AW.aL _ _
def st5{b:Nat}{y:fq}(hg:U.get b=some (.cells (dJ y)))(z:fq):fm 5 (ba b) (iS z) U=some (ak,U.put b (.cells (dJ z))):=gU (n:=5) (vs:=(dJ z).toArray) hg rfl rfl rfl
def aoH{b:Nat}{R:mE}(hg:U.get b=some (.cells (jr R)))(d:Int):fm 1 (.pointer (some ⟨b,3,none⟩)) (.ae d) U=some (ak,U.put b (.cells (jr {R with dl:=d}))):=
 (zx (n:=1) (o:=3) (v:=.ae d) hg rfl (show 3+1<=9 by omega) rfl).trans rfl
def acH(h:kb Z W V sb qb x sv)(h0:zZ o=0)(hk:o.k=2\/o.k=4\/o.k=5\/o.k=6\/o.k=7\/o.k=8\/o.k=9){i:Nat}(GJ:cN o=(i:Int))(hb:Bd x i)(hi:i<4294967296)(hr:∀s∈x.v.ax,s.rows.length<1000)(hl:∀l∈x.qs,l.length<=10000):
 ∃V',aY (.func (.func 39) #[] #[]) [ku sb qb x sv,yc o] V=some (.tuple #[ku sb qb (bX x o).1 sv,fX (bX x o).2],V')/\kb Z W V' sb qb (bX x o).1 sv/\Fr V V' sb qb:=by
 have jL:Ok (C7 aY (ku sb qb x sv) (yc o) V) λr=>r.1=.tuple #[ku sb qb (bX x o).1 sv,fX (bX x o).2]/\kb Z W r.2 sb qb (bX x o).1 sv/\Fr V r.2 sb qb:=by
  rw[UJ hk GJ hb.i];unfold C7;obtain⟨V1,ko⟩:∃V1,V1=((((V.add (.cells (eT x sv (fI sb x.st.length) (lG qb x.qs.length)))).add (.cells (Da o))).add (.cells [.ae 0,.ae 0,.ae 0,.slice none 0 0,.ae 0,.slice none 0 0,.slice none 0 0])).add (.cells (jr gz))):=⟨_,rfl⟩;have F:=f4 V x sv (fI sb x.st.length) (lG qb x.qs.length) o;rw[<-ko]at F;simp only[SX,nO,Cb,AW.av,gV,Nat.reduceAdd];rw[<-ko];clear ko;have h':=h.mono F.le;have n1:=F.n;have hW:=h.le.next;have Kd:dF 12 (ba (V.next+1)) V1=some (yc o,V1):=bz (ao F.g1) rfl;have l5:bu (.pointer (some ⟨V.next,5,none⟩)) V1=some (fI sb x.st.length,V1):=aP (ao F.g0) rfl;have Zj:x.st[i]? =some (cr x i):=by simp[cr,bJ hb.i]
  have LD:=Gn (W:=V1) h'.gs Zj;have s5:=st5 (U:=V1.add (.cells (dJ Cv))) (b:=V1.next) (y:=Cv) (AW.aL _ _) (cr x i);rw[jy,n1]at s5;obtain⟨g,hR⟩:=abO h F (cr x i);simp only[SX,Kd,li h0,GJ,l5,rE hb.i,LD,p7,n1,s5,AW.av,gV,Nat.reduceAdd];obtain⟨U,hU⟩:∃U,U=(V1.add (.cells (dJ (cr x i)))).add (.cells (jr gz)):=⟨_,rfl⟩;rw[<-hU]at g hR|-;clear hU;have l1:∀{U':AW} {y R} (g':G6 V U' sb qb x sv o y R) {j:Nat} {u:ad},(Da o)[j]? =some u->bu (.pointer (some ⟨V.next+1,j,none⟩)) U'=some (u,U'):=λ{_ _ _} g' {_ _} hj=>aP (ao g'.g1) hj
  have lk:=l1 g (j:=0) rfl;have low:=l1 g (j:=1) rfl;have lto:=l1 g (j:=6) rfl;have lti:dF 4 (.pointer (some ⟨V.next+1,7,none⟩)) U=some (RW (wE o),U):=bz (ao g.g1) rfl;have J:=λy e=>T8 (g.w4 y) (g.box (j:=4) (c:=.cells (dJ y)) hR hW g.g4) hW hb hi hr hl e
  have w4:=λy=>st5 g.g4 y
  rcases hk with k|k|k|k|k|k|k
  ·have akR:bu (.pointer (some ⟨V.next,1,none⟩)) U=some (.ae x.v.cL,U):=aP (ao g.g0) rfl;have lun:=BB (W:=U) (val:=ku sb qb x sv) (more:=x.v.cL) rfl hb.now hb.cL (cI _ _) (cI _ _) (cI _ _) (row_one h.sec.1) (cJ _ _ _) (cJ _ _ _);have g2:=g.w5 (Ul (eu x.now x.v.cL));have h2:kb Z W (U.put (V.next+5) (.cells (jr (Ul (eu x.now x.v.cL))))) sb qb x sv:=g.box hR hW g.g5;have s13:=aoH g.g5 (eu x.now x.v.cL);have J2:=λy e=>T8 (g2.w4 y) (g2.box (j:=4) (c:=.cells (dJ y)) h2 hW g2.g4) hW hb hi hr hl e
   have lo2:=l1 g2 (j:=1) rfl;have ld2:bu (.pointer (some ⟨V.next+5,3,none⟩)) (U.put (V.next+5) (.cells (jr (Ul (eu x.now x.v.cL)))))=some (.ae (eu x.now x.v.cL),_):=aP (ao g2.g5) rfl;have amq:fm 1 (.pointer (some ⟨V.next+5,3,none⟩)) (.ae (eu x.now x.v.cL)) U=some (ak,U.put (V.next+5) (.cells (jr (Ul (eu x.now x.v.cL))))):=s13;simp only[SX,lk,k,g.l7,akR,lun,amq,g2.l5,lo2,ld2,C6,st5 g2.g4];have:=J2 (M4 (cr x i) o.ow (eu x.now x.v.cL)) (Oj (cr x i) (eu x.now x.v.cL));rw[k]at this;exact this
  ·simp only[SX,lk,k,g.l5,low,Mh,w4];have:=J (Mg (cr x i) o.ow) (lW (cr x i) o.ow);rw[k]at this;exact this
  ·simp only[SX,lk,k,g.l5,low,YY,w4];have:=J (Ge (cr x i) o.ow) (EX (cr x i) o.ow);rw[k]at this;exact this
  ·simp only[SX,lk,k,g.l5,lti,lto,Lg,w4];have:=J (Ym (cr x i) (wE o) o.to) (Zh (cr x i) (wE o));rw[k]at this;exact this
  ·simp only[SX,lk,k,g.l5,lti,PL,w4];have:=J (rfS (cr x i) (wE o)) (Cz (cr x i) (wE o));rw[k]at this;exact this
  ·simp only[SX,lk,k,g.l5,OH,w4];have:=J (rvS (cr x i)) (Y7 (cr x i));rw[k]at this;exact this
  ·simp only[SX,lk,k,g.l5,lti,nM];have:=T8 g hR hW hb hi hr hl (Cz (cr x i) (wE o));rw[k]at this;exact this
 obtain⟨⟨v,V2⟩,k1,rfl,k2⟩:=jL;exact⟨V2,by rw[Md k1,jx (by simp[bN,eI,cC])],k2⟩
end
def abS(x:cS){i j:Nat}(h:i≠j):cr (lz x i) j=cr x j:=by unfold lz cr;split<;>simp[List.getD,Ah h]
def adr(nw:Int)(x:cS){i j:Nat}(h:i≠j):cr (wB nw x i) j=cr x j:=by unfold wB;rw[abS _ h];simp[cr,List.getD,Ah h]
def Ss(nw:Int){j:Nat}:∀(L:List Nat) (x:cS),j∉L->cr (L.foldl (wB nw) x) j=cr x j
 |[],_,_=>rfl
 |i::L,x,h=>by rw[uI,Ss nw L _ (λh2=>h (List.mem_cons_of_mem _ h2)),adr nw x (λe=>h (by rw[e];exact List.mem_cons_self ..))]
def WU{x:cS}{i N:Nat}(h:∀l∈x.qs,l.length<=N):∀l∈(lz x i).qs,l.length<=N:=by
 unfold lz;split
 ·rename_i a t e;intro l hl;rcases List.mem_or_eq_of_mem_set hl with h1|rfl
  ·exact h _ h1
  ·have:=h _ (za e);rw[cP]at this;omega
 ·exact h
def P6{N:Nat}(nw:Int):∀(L:List Nat) (x:cS),(∀l∈x.qs,l.length<=N)->∀l∈(L.foldl (wB nw) x).qs,l.length<=N
 |[],_,h=>h
 |i::L,x,h=>P6 nw L _ (WU (x:={x with st:=x.st.set i (lL (cr x i) nw)}) h)
structure N0 (f:Nat->Int) (n m:Nat):Prop where
 lt:m=0\/m<n
 le:∀j,j<n->f m<=f j
 st:∀j,j<m->f m<f j
def N0.zero(f:Nat->Int):N0 f 0 0:=⟨.inl rfl,λj h=>by omega,λj h=>by omega⟩
def N0.step{f:Nat->Int}{n m:Nat}(h:N0 f n m):N0 f (n+1) (if f n<f m then n else m):=by
 by_cases c:f n<f m
 ·rw[an c];refine⟨.inr (by omega),λj hj=>?_,λj hj=>?_⟩
  ·by_cases e:j=n
   ·subst e;exact rQ _
   ·have:=h.le j (by omega);omega
  ·have:=h.le j (by omega);omega
 ·rw[aq c];refine⟨by rcases h.lt with e|e<;>omega,λj hj=>?_,h.st⟩;by_cases e:j=n
  ·subst e;omega
  ·exact h.le j (by omega)
structure WE (x:cS) (nw:Int) (P D:List Nat):Prop where
 perm:(P++D).Perm (fE x nw)
 asc:D.Pairwise (· < ·)
 ord:P.Pairwise (Rx x)
 low:∀p∈P,∀d∈D,Rx x p d
def ahu(x:cS)(nw:Int):(fE x nw).Pairwise (· < ·):=List.pairwise_lt_range.filter _
def WE.start(x:cS)(nw:Int):WE x nw [] (fE x nw):=⟨.refl _,ahu x nw,.nil,λ_ h=>by cases h⟩
def WE.lt{x:cS}{nw:Int}{P D:List Nat}(h:WE x nw P D):∀i∈D,i<x.st.length:=λi hi=>by have:=h.perm.mem_iff.1 (List.mem_append_right P hi);unfold fE at this;rw[tF,pL]at this;exact this.1
def WE.apv{x:cS}{nw:Int}{P D:List Nat}(h:WE x nw P D):∀i∈D,i∉P:=λi hi hp=>by have:=h.low i hp i hi;unfold Rx LF at this;omega
def WE.len{x:cS}{nw:Int}{P D:List Nat}(h:WE x nw P D):P.length+D.length=(fE x nw).length:=by have:=h.perm.length_eq;rwa [cD]at this
def WE.step{x:cS}{nw:Int}{P D:List Nat}(h:WE x nw P D){f:Nat->Int}{m:Nat}(hm:m<D.length)(hf:∀j (hj:j<D.length),f j=(cr x D[j]).dl)(hF:N0 f D.length m):WE x nw (P++[D[m]]) (D.take m++D.drop (m+1)):=by
 have e:D=D.take m++(D[m]::D.drop (m+1)):=by rw[<-ri hm,wX]
 have N7:∀d,d∈D.take m++D.drop (m+1)->d∈D:=λd hd=>by
  rcases mj.1 hd with hd|hd
  ·exact DT hd
  ·exact List.mem_of_mem_drop hd
 have key:∀d∈D.take m++D.drop (m+1),Rx x D[m] d:=λd hd=>by
  rcases mj.1 hd with hd|hd
  ·obtain⟨j,hj,rfl⟩:=Br.1 hd;have h1:j<m:=by omega
   have:=hF.st j h1;rw[hf _ hm,hf j (by omega)]at this;exact .inl (by unfold Zy;simpa using this)
  ·obtain⟨j,hj,rfl⟩:=Iw.1 hd;have:=hF.le (j+(m+1)) (by omega);rw[hf _ hm,hf (j+(m+1)) (by omega)]at this;have mC:=List.pairwise_iff_getElem.1 h.asc m (j+(m+1)) hm (by omega) (by omega);have e2:D[m+1+j]'(by omega)=D[j+(m+1)]'(by omega):=by congr 1;omega
   rw[e2];unfold Rx LF Zy;simp only[vq];omega
 refine⟨?_,?_,?_,?_⟩
 ·refine List.Perm.trans ?_ h.perm;rw[iK];refine List.Perm.append_left P ?_;conv=>rhs;rw[e]
  exact(List.perm_middle (l₁:=D.take m) (l₂:=D.drop (m+1)) (a:=D[m])).symm
 ·have:=h.asc;rw[e]at this;exact this.sublist (List.Sublist.append_left (List.sublist_cons_self _ _) _)
 ·rw[List.pairwise_append];exact⟨h.ord,List.pairwise_singleton _ _,λp hp d hd=>by rw[ki.1 hd];exact h.low p hp _ (cG hm)⟩
 ·intro p hp d hd;rcases mj.1 hp with hp|hp
  ·exact h.low p hp d (N7 d hd)
  ·rw[ki.1 hp];exact key d hd
def WE.done{x:cS}{nw:Int}{P:List Nat}(h:WE x nw P []):P=I8 x nw:=by have hp:=h.perm;rw[fp]at hp;exact(yb.one ⟨hp,h.ord⟩ (W9 x nw))
section
variable {Z W V U U':AW} {lo sb qb:Nat} {x x' X:cS} {sv sq qq:ad}
abbrev yL(l:List Nat):List Int:=l.map λi:Nat=>(i:Int)
def aee{l:List Nat}{j:Nat}(h:j<l.length):(yL l)[j]'(by simpa using h)=(l[j]:Int):=by simp
def Va{l:List Nat}{v:ad}(h:EL lo V 1 jc v (yL l)){j:Nat}(hj:j<l.length):∃p,(∀W' k,nY 1 v (.int k (j:Int)) W'=some (p,W'))/\bu p V=some (.ae (l[j]:Int),V):=by obtain⟨p,h1,h2⟩:=dR.get (h.row jV Wn) (i:=j) (by simpa using hj);refine⟨p,h1,?_⟩;have:=h2 V (Le.refl V);rwa [aee hj]at this
def OP{l:List Nat}{v:ad}(h:EL lo V 1 jc v (yL l))(U:AW):aZ Tryz.prog .len #[28] 3 #[false] [v] U=some (.ae (l.length:Int),U):=by obtain⟨a,c,e⟩:=h.slice;rw[e,fj];exact df vw _ _ _
def bx5{b0:Nat}(g:V.get b0=some (.cells (eT x sv sq qq))):bu (.pointer (some ⟨b0,5,none⟩)) V=some (sq,V):=aP (ao g) rfl
def Xs(h:V.get sb=some (.cells (x.st.flatMap dJ))){i:Nat}(hi:i<x.st.length):dF 5 (.pointer (some ⟨sb,i*5,none⟩)) V=some (iS (cr x i),V):=
 Gn h (show x.st[i]? =some (cr x i)by rw[bJ hi];simp[cr,bJ hi])
def AE(h:V.get sb=some (.cells (x.st.flatMap dJ))){i j:Nat}{u:ad}(hi:i<x.st.length)(hj:(dJ (cr x i))[j]? =some u):bu (.pointer (some ⟨sb,i*5+j,none⟩)) V=some (u,V):=by
 have sf:x.st[i]? =some (cr x i):=by rw[bJ hi];simp[cr,bJ hi]
 have e:=ii (λc:List ad=>c[j]?) (FP na sf);have hj5:j<5:=by have:=(da.1 hj).1;rwa [na]at this
 simp only[lY,qZ,an hj5]at e;exact aP (ao h) (e.trans hj)
def afX{R:ai.Fr}{b0:Nat}{nw:Int}{v4:ad}{n:Nat}(hn:x.st.length=n)(hn2:n<=10000){K:LT->Option (ad×AW)}{G:ad×AW->Prop}(hs:U.get sb=some (.cells (x.st.flatMap dJ)))(hsb:sb<U.next)
 (g:U.get b0=some (.cells (eT {x with now:=nw} sv (fI sb n) qq)))(Tu:b0<U.next)(n8:∀y∈x.st,D8 y=0)(yx:0<=nw)(r1:R 1=.ae nw)(r2:R 2=ba b0)(r4:R 4=v4)(r5:R 5=.slice none 0 0)(r6:R 6=.ae 0)
 (hK:∀R' V v,Le U V->R' 1=.ae nw->R' 2=ba b0->R' 4=v4->R' 5=v->EL U.next V 1 jc v (yL (fE x nw))->Ok (K (.exit 0,R',V)) G):Ok (eY (fV (qj aY) R U) K) G:=by
 refine a8 n (by omega) (λk R V=>Le U V/\R 1=.ae nw/\R 2=ba b0/\R 4=v4/\R 6=.ae (k:Int)/\sO U.next V 1 jc (R 5) (yL ((List.range k).filter (sP x nw))))
  (λr=>r.1=.exit 0/\Le U r.2.2/\r.2.1 1=.ae nw/\r.2.1 2=ba b0/\r.2.1 4=v4/\sO U.next r.2.2 1 jc (r.2.1 5) (yL (fE x nw))) ⟨Le.refl _,r1,r2,r4,r6,by rw[r5];exact sO.nil _ _ _ _⟩ ?_ ?_ ?_
 ·rintro k R V hk ⟨aM,r1,r2,r4,r6,hL⟩;unfold qj;have t1:decide ((k:Int)<(n:Int))=true:=cd;have t2:=λW'=>bc W' k 1
  have e3:((k+1:Nat):Int)=(k:Int)+1:=by omega
  have l5:=bx5 ((aM.get _ Tu).trans g);have hsV:=(aM.get _ hsb).trans hs;have hkn:k<x.st.length:=by omega
  have f2:=AE (j:=2) (u:=.ae (cr x k).dl) hsV hkn rfl;have f0:=AE (j:=0) (u:=.ae (cr x k).st) hsV hkn rfl;have N7:cr x k∈x.st:=by
   have:cr x k=x.st[k]:=by simp[cr,bJ hkn]
   rw[this];exact cG _
  have hdl:0<=(cr x k).dl:=by
   have:=n8 _ N7;unfold D8 at this;repeat' split at this
   all_goals omega
  have d1:=aK hdl;have d2:=aK yx;have VT:(List.range (k+1)).filter (sP x nw)=(List.range k).filter (sP x nw)++(if sP x nw k=true then [k]else []):=by
   rw[qW,vz];congr 1;by_cases c:sP x nw k=true
   ·rw[an c,List.filter_cons_of_pos c,List.filter_nil]
   ·rw[aq c,List.filter_cons_of_neg c,List.filter_nil]
  simp only[SX,r1,r2,r6,aI,l5,df uK,t1,rE hk,f2,DU,d1,d2,gK,f0];have hc:(decide ((cr x k).st=1)&&decide ((cr x k).dl<=nw))=sP x nw k:=by unfold sP;rw[Bool.and_comm]
  by_cases c:sP x nw k=true
  ·rw[c,bA]at hc;have dS:(yL ((List.range k).filter (sP x nw))).length<=k:=by rw[fj];exact dW (xB _ _) (by simp)
   obtain⟨v',V4,k1,k2,k3,k4⟩:=(hL.mono ((Le.refl V).add (.cells (jc (k:Int))))).push (P:=Tryz.prog) Y3 jV wF (b:=V.next) (c:=1) bC (by omega) (by omega) (by rw[AW.av];have:=aM.next;omega);simp only[SX,hc.1,hc.2,acD,k1,t2,af];refine .inl ⟨aj,k4 _ (aM.trans ((Le.refl _).add _)) (aR _),r1,r2,r4,by rw[e3];rfl,?_⟩;rw[VT,an c];unfold yL;rw[qX];exact k2
  ·have c':sP x nw k=false:=uY.2 c;rw[c']at hc;have mf:sO U.next V 1 jc (R 5) (yL ((List.range (k+1)).filter (sP x nw))):=by rw[VT,aq c,fp];exact hL
   cases e1:decide ((cr x k).st=1)
   ·simp only[SX,t2,af];exact .inl ⟨aj,aM,r1,r2,r4,by rw[e3];rfl,mf⟩
   ·rw[e1,gK]at hc;simp only[SX,hc,t2,af];exact .inl ⟨aj,aM,r1,r2,r4,by rw[e3];rfl,mf⟩
 ·rintro R V ⟨aM,r1,r2,r4,r6,hL⟩;unfold qj;have t1:decide ((n:Int)<(n:Int))=false:=bS;have l5:=bx5 ((aM.get _ Tu).trans g);simp only[SX,r2,r6,aI,l5,df uK,t1,af];exact⟨by simp,aj,aM,r1,r2,r4,by rw[fE,hn];exact hL⟩
 ·rintro⟨e,R,V⟩ ⟨rfl,h1,h2,h3,h4,h5⟩;exact hK R V _ h1 h2 h3 h4 rfl h5.el
end
def aiI:sH Tryz.prog 28=some 1:=by kernel_rfl
def alU(W:AW):cX Tryz.prog 28 0 [] W=some (.slice (some ⟨W.next,0,none⟩) 0 0,W.add (.cells [])):=aT (by kernel_rfl) rfl
section
variable {Z W V U U':AW} {lo sb qb:Nat} {x x' X:cS} {sv sq qq:ad}
def Zg{ρ:Type}{R:ai.Fr}{b0 n:Nat}{v1 v4 v:ad}{D:List Nat}(hn:x.st.length=n)(hD:EL lo U 1 jc v (yL D))(hDl:D.length<=10000)(mC:∀i∈D,i<x.st.length){K:LT->Option ρ}{G:ρ->Prop}(hs:U.get sb=some (.cells (x.st.flatMap dJ)))
 (g:U.get b0=some (.cells (eT X sv (fI sb n) qq)))(r1:R 1=v1)(r2:R 2=ba b0)(r4:R 4=v4)(r5:R 5=v)(r9:R 9=.ae 0)(my:R 10=.ae 0)
 (hK:∀R' m,N0 (λj=>(cr x (D.getD j 0)).dl) D.length m->R' 1=v1->R' 2=ba b0->R' 4=v4->R' 5=v->R' 9=.ae (m:Int)->Ok (K (.exit 4,R',U)) G):Ok (eY (fV (lH aY) R U) K) G:=by
 refine a8 D.length (by omega) (λk R V=>V=U/\R 1=v1/\R 2=ba b0/\R 4=v4/\R 5=v/\R 10=.ae (k:Int)/\∃m:Nat,R 9=.ae (m:Int)/\N0 (λj=>(cr x (D.getD j 0)).dl) k m)
  (λr=>r.1=.exit 4/\r.2.2=U/\r.2.1 1=v1/\r.2.1 2=ba b0/\r.2.1 4=v4/\r.2.1 5=v/\∃m:Nat,r.2.1 9=.ae (m:Int)/\N0 (λj=>(cr x (D.getD j 0)).dl) D.length m) ⟨rfl,r1,r2,r4,r5,my,0,r9,.zero _⟩ ?_ ?_ ?_
 ·rintro k R _ hk ⟨rfl,r1,r2,r4,r5,my,m,r9,hF⟩;unfold lH;have t1:decide ((k:Int)<(D.length:Int))=true:=cd;have t2:=λW'=>bc W' k 1
  have e3:((k+1:Nat):Int)=(k:Int)+1:=by omega
  have l5:=bx5 g;have hm:m<D.length:=by rcases hF.lt with e|e<;>omega
  obtain⟨p,p1,p2⟩:=Va hD hk;obtain⟨q,q1,q2⟩:=Va hD hm;have hki:D[k]<x.st.length:=mC _ (cG _);have hmi:D[m]<x.st.length:=mC _ (cG _);have f2:=AE (j:=2) (u:=.ae (cr x D[k]).dl) hs hki rfl;have f3:=AE (j:=2) (u:=.ae (cr x D[m]).dl) hs hmi rfl;have hF2:=hF.step;have gk:D.getD k 0=D[k]:=by simp[List.getD,hk]
  have gm:D.getD m 0=D[m]:=by simp[List.getD,hm]
  simp only[gk,gm]at hF2;simp only[SX,r2,r5,r9,my,OP hD,t1,aI,l5,p1,p2,q1,q2,rE (show D[k]<n by omega),rE (show D[m]<n by omega),f2,f3];by_cases c:(cr x D[k]).dl<(cr x D[m]).dl
  ·rw[an c]at hF2;have d:=aK c;simp only[SX,d,t2,af];exact .inl ⟨aj,aj,r1,r2,r4,r5,by rw[e3];rfl,k,rfl,hF2⟩
  ·rw[aq c]at hF2;have d:=aJ c;simp only[SX,d,t2,af];exact .inl ⟨aj,aj,r1,r2,r4,r5,by rw[e3];rfl,m,r9,hF2⟩
 ·rintro R _ ⟨rfl,r1,r2,r4,r5,my,m,r9,hF⟩;unfold lH;have t1:decide ((D.length:Int)<(D.length:Int))=false:=bS;simp only[SX,r5,my,OP hD,t1,af];exact⟨by simp,aj,aj,r1,r2,r4,r5,m,r9,hF⟩
 ·rintro⟨e,R,V⟩ ⟨rfl,rfl,h1,h2,h4,h5,m,h9,hF⟩;exact hK R m hF h1 h2 h4 h5 h9
def kb.nw(h:kb Z W V sb qb x sv)(nw:Int):kb Z W V sb qb {x with now:=nw} sv:=⟨h.z,h.le,h.lo,h.sec,h.gs,h.gq⟩
def kb.stw(h:kb Z W V sb qb x sv)(i:Nat)(y:fq):kb Z W (V.put sb (.cells ((x.st.set i y).flatMap dJ))) sb qb (Ts x i y) sv/\Fr V (V.put sb (.cells ((x.st.set i y).flatMap dJ))) sb qb:=by have f1:Fr V (V.put sb (.cells ((x.st.set i y).flatMap dJ))) sb qb:=⟨aR _,λb _ h1 _=>AW.ay _ _ (bh h1)⟩;exact⟨h.step f1 rfl (AW.aW _ _ _) (abM h.gq f1 (AW.ay _ _ h.lo.2.2.2.2)),f1⟩
def kb.same(h:kb Z W V sb qb x sv){b:Nat}{c:dH}(hg:V.get b=some c):kb Z W (V.put b c) sb qb x sv:=
 h.box (aR _) λd _=>.inl (by by_cases e:b=d;(·subst e;rw[hg];exact AW.aW _ _ _);(·exact AW.ay _ _ e))
def Fr.same(h:Fr U V sb qb){b:Nat}{c:dH}(hg:V.get b=some c):Fr U (V.put b c) sb qb:=
 h.trans ⟨aR _,λd _ _ _=>by by_cases e:b=d;(·subst e;rw[hg];exact AW.aW _ _ _);(·exact AW.ay _ _ e)⟩
def abc{R:ai.Fr}{b0 b1:Nat}{nw:Int}{v:ad}{K:LT->Option (ad×AW)}{G:ad×AW->Prop}{c1:List ad}(h:kb Z W U sb qb x sv)(hN:x.st.length<=10000)(hk:∀i,i<x.st.length->tV x.v i<x.qs.length)(hv:x.v.ax.length<1000)(hr:∀s∈x.v.ax,s.rows.length<1000)(hl:∀l∈x.qs,l.length<=10000)
 (h1:nw<9223372036854775808)(h2:x.v.cL<9223372036854775808)(Tu:b0<U.next)(agD:b0≠sb/\b0≠qb)(acz:b1<U.next/\b1≠sb/\b1≠qb/\b1≠b0)(zB:sb<lo/\qb<lo/\b0<lo/\b1<lo/\lo<=U.next)(hD:EL lo U 1 jc v (yL (fE x nw)))
 (g:U.get b0=some (.cells (eT {x with now:=nw} sv (fI sb x.st.length) (lG qb x.qs.length))))(gb1:U.get b1=some (.cells c1))(r1:R 1=.ae nw)(r2:R 2=ba b0)(r4:R 4=ba b1)(r5:R 5=v)
 (hK:∀R' V,R' 2=ba b0->R' 4=ba b1->kb Z W V sb qb (zl x nw (I8 x nw)) sv->Fr U V sb qb->V.get b0=some (.cells (eT {x with now:=nw} sv (fI sb x.st.length) (lG qb x.qs.length)))->V.get b1=some (.cells c1)->Ok (K (.exit 2,R',V)) G):Ok (eY (fV (ql aY) R U) K) G:=by
 have hdl:(fE x nw).length<=10000:=dW (xB _ _) (by rw[Ei];exact hN);refine a8 (fE x nw).length (by omega) (λk R V=>∃P D,P.length=k/\WE x nw P D/\R 1=.ae nw/\R 2=ba b0/\R 4=ba b1/\EL lo V 1 jc (R 5) (yL D)/\V.get b0=some (.cells (eT {x with now:=nw} sv (fI sb x.st.length) (lG qb x.qs.length)))/\V.get b1=some (.cells c1)/\kb Z W V sb qb (P.foldl (wB nw) {x with now:=nw}) sv/\Fr U V sb qb)
  (λr=>r.1=.exit 2/\r.2.1 2=ba b0/\r.2.1 4=ba b1/\kb Z W r.2.2 sb qb (zl x nw (I8 x nw)) sv/\Fr U r.2.2 sb qb/\r.2.2.get b0=some (.cells (eT {x with now:=nw} sv (fI sb x.st.length) (lG qb x.qs.length)))/\r.2.2.get b1=some (.cells c1))
  ⟨[],fE x nw,rfl,.start _ _,r1,r2,r4,by rw[r5];exact hD,g,gb1,h.nw nw,.refl _ _ _⟩ ?_ ?_ ?_
 ·rintro k R V hkn ⟨P,D,e1,hT,r1,r2,r4,hE,g0,g1,hR,hF⟩;unfold ql;have dS:=hT.len;have t1:decide ((0:Int)<(D.length:Int))=true:=cd;obtain⟨s1,s2,s3,s4⟩:=BG nw {x with now:=nw} P;have hql:=P6 nw P {x with now:=nw} hl;have as5:∀j (hj:j<D.length),cr (P.foldl (wB nw) {x with now:=nw}) D[j]=cr x D[j]:=λj hj=>Ss nw P _ (hT.apv _ (cG hj))
  generalize hy:P.foldl (wB nw) {x with now:=nw}=y at *;have s3':y.st.length=x.st.length:=s3;have s4':y.qs.length=x.qs.length:=s4;have s1':y.v=x.v:=s1;simp only[SX,OP hE,t1];refine Zg (x:=y) (X:={x with now:=nw}) (n:=x.st.length) (D:=D) (v:=R 5) (b0:=b0) (v1:=.ae nw) (v4:=ba b1) s3' hE (by omega) (λi hi=>by rw[s3'];exact hT.lt i hi) hR.gs g0 r1 r2 r4 rfl rfl rfl ?_;intro R' m hFm q1 q2 q4 q5 q9;have hm:m<D.length:=by rcases hFm.lt with e|e<;>omega
  have hT2:=hT.step hm (f:=λj=>(cr y (D.getD j 0)).dl) (λj hj=>by
   have:D.getD j 0=D[j]:=by simp[List.getD,hj]
   rw[this,as5 j hj]) hFm;obtain⟨p,p1,p2⟩:=Va hE hm;have hDl:(yL D).length=D.length:=by simp
  obtain⟨w1,a1,a2⟩:=hE.to (P:=Tryz.prog) (t:=28) (kk:=.i64) (k:=m) aiI (by omega) jV (by omega) (by omega);obtain⟨w2,a3,a4⟩:=hE.from (P:=Tryz.prog) (t:=28) (kk:=.i64) (k:=m+1) aiI (by omega) jV (by omega) (by omega);rw[show((m+1:Nat):Int)=(m:Int)+1 by omega]at a3;obtain⟨u3,V3,m1,m2,m3⟩:=Ak Y3 jV wF a2 (by rw[cR];omega) (by rw[cR];omega);obtain⟨u4,V4,m4,m5,m6,m7⟩:=m3.app Y3 jV wF (a4.keep m2) (by rw[cR,mr];omega) (by rw[cR,mr];omega) m2.next;have m2n:=m2.next;have le4:Le V V4:=⟨by omega,λb hb=>(m7 b hb).trans (m2.get b hb)⟩;have t3:=λW'=>bc W' m 1
  have hR4:=hR.mono le4;have aBk:=hR.lo;have hFn:=hF.1;have g04:=(le4.get b0 (by omega)).trans g0;have g14:=(le4.get b1 (by omega)).trans g1;have l5:=bx5 g04;have hi:D[m]<x.st.length:=hT.lt _ (cG hm);have hiy:D[m]<y.st.length:=by omega
  have LD:=Xs hR4.gs hiy;have Zj:y.st[D[m]]? =some (cr y D[m]):=by rw[bJ hiy];simp[cr,bJ hiy]
  have st:=zj (z:=lL (cr y D[m]) nw) hR4.gs Zj;obtain⟨h5,f5⟩:=hR4.stw D[m] (lL (cr y D[m]) nw);simp only[SX,q1,q2,q5,q9,p1,p2,alU,a1,t3,a3,m1,m4,aI,l5,rE hi,LD,OT,cV,fJ,fM,st];generalize V4.put sb (.cells ((y.st.set D[m] (lL (cr y D[m]) nw)).flatMap dJ))=V5 at *;have g05:=(f5.2 b0 (by have:=le4.next;omega) agD.1 agD.2).trans g04;have g15:=(f5.2 b1 (by have:=le4.next;omega) acz.2.1 acz.2.2.1).trans g14;have hS5:Sm {x with now:=nw} (Ts y D[m] (lL (cr y D[m]) nw)):=⟨s1,s2,by simp[Ts,s3'],s4⟩;obtain⟨V6,k1,k2,k3⟩:=Nt h5 (i:=D[m]) (by simpa[Ts]using hiy) (by show tV y.v D[m]<y.qs.length;rw[s1',s4'];exact hk _ hi) (by show y.v.ax.length<1000;rw[s1'];exact hv) (by show∀s∈y.v.ax,_;rw[s1'];exact hr) hql (by show y.now<_;rw[s2];exact h1) (by show y.v.cL<_;rw[s1'];exact h2);have hS6:Sm {x with now:=nw} (lz (Ts y D[m] (lL (cr y D[m]) nw)) D[m]):=by obtain⟨a,b,c,d⟩:=wC (Ts y D[m] (lL (cr y D[m]) nw)) D[m];exact⟨a.trans hS5.v,b.trans hS5.now,c.trans hS5.st,d.trans hS5.qs⟩
  rw[hS5.rs,hS6.rs]at k1;have l7:dF 7 (ba b0) V5=some (ku sb qb {x with now:=nw} sv,V5):=bz (ao g05) rfl;have g06:=(k3.2 b0 (by have:=le4.next;have:=f5.1;omega) agD.1 agD.2).trans g05;have g16:=(k3.2 b1 (by have:=le4.next;have:=f5.1;omega) acz.2.1 acz.2.2.1).trans g15;have s7:=gU (W:=V6) (b:=b0) (n:=7) (vs:=(eT {x with now:=nw} sv (fI sb x.st.length) (lG qb x.qs.length)).toArray) g06 rfl rfl (by simp[dz,row_one h.sec.1,cI,cJ]);have Q1:fm 7 (ba b0) (ku sb qb {x with now:=nw} sv) V6=some (ak,V6.put b0 (.cells (eT {x with now:=nw} sv (fI sb x.st.length) (lG qb x.qs.length)))):=s7;simp only[SX,l7,k1,Q1,af];have hE6:EL lo V6 1 jc u4 (yL (D.take m++D.drop (m+1))):=by
   have e:yL (D.take m++D.drop (m+1))=(yL D).take m++(yL D).drop (m+1):=by simp[yL,xl,List.map_drop]
   rw[e];refine(m5.low (Iv:=lo) (by omega)).keep (dW f5.1 k3.1) λb hb lA=>?_
   exact(k3.2 b (by have:=f5.1;omega) (by omega) (by omega)).trans (f5.2 b (by omega) (by omega) (by omega))
  refine .inl ⟨aj,P++[D[m]],D.take m++D.drop (m+1),by simp[e1],hT2,q1,q2,q4,hE6.keep (aR _) λb hb lA=>AW.ay _ _ (by omega),AW.aW _ _ _,(AW.ay _ _ (bh acz.2.2.2)).trans g16,?_,(((hF.trans (.of_le le4)).trans f5).trans k3).same g06⟩;rw[Bn,hy,uI,List.foldl_nil];exact(show kb Z W V6 sb qb (wB nw y D[m]) sv from k2).same g06
 ·rintro R V ⟨P,D,e1,hT,r1,r2,r4,hE,g0,g1,hR,hF⟩;unfold ql;have dS:=hT.len;obtain rfl:D=[]:=mi.1 (by omega);simp only[SX,OP hE];have t1:decide ((0:Int)<(([]:List Nat).length:Int))=false:=rfl;simp only[SX,t1,af];refine⟨by simp,aj,r2,r4,?_,hF,g0,g1⟩;rw[<-hT.done];exact hR
 ·rintro⟨e,R,V⟩ ⟨rfl,a2,a4,a,b,c,d⟩;exact hK R V a2 a4 a b c d
end
section
variable {Z W V U U':AW} {lo sb qb:Nat} {x x' X:cS} {sv sq qq:ad}
def M0(x:cS)(nw:Int)(L:List Nat):Sm {x with now:=nw} (zl x nw L):=by obtain⟨a,b,c,d⟩:=BG nw {x with now:=nw} L;exact⟨a,b,c,d⟩
def ac5{nw:Int}(h:kb Z W V sb qb x sv)(hN:x.st.length<=10000)(hk:∀i,i<x.st.length->tV x.v i<x.qs.length)(hv:x.v.ax.length<1000)(hr:∀s∈x.v.ax,s.rows.length<1000)(hl:∀l∈x.qs,l.length<=10000)
 (h1:nw<9223372036854775808)(h2:x.v.cL<9223372036854775808)(n8:∀y∈x.st,D8 y=0)(yx:0<=nw):
 ∃V',aY (.func (.func 36) #[] #[]) [ku sb qb x sv,.ae nw] V=some (ku sb qb (zl x nw (I8 x nw)) sv,V')/\kb Z W V' sb qb (zl x nw (I8 x nw)) sv/\Fr V V' sb qb:=by
 have jL:Ok (CN aY (ku sb qb x sv) (.ae nw) V) λr=>r.1=ku sb qb (zl x nw (I8 x nw)) sv/\kb Z W r.2 sb qb (zl x nw (I8 x nw)) sv/\Fr V r.2 sb qb:=by
  unfold CN;have zB:=h.lo;have aM:=h.le.next;obtain⟨V1,ko⟩:∃V1,V1=(V.add (.cells (eT x sv (fI sb x.st.length) (lG qb x.qs.length)))).add (.cells [.ae 0,.ae 0,.ae 0,.slice none 0 0,.ae 0,.slice none 0 0,.slice none 0 0]):=⟨_,rfl⟩;have Xh:Le V V1:=by rw[ko];exact((Le.refl V).add _).add _
  have g0:V1.get V.next=some (.cells (eT x sv (fI sb x.st.length) (lG qb x.qs.length))):=by rw[ko];exact(AW.aG _ _ (by rw[AW.av];omega)).trans (AW.aL _ _)
  have g1:V1.get (V.next+1)=some (.cells [.ae 0,.ae 0,.ae 0,.slice none 0 0,.ae 0,.slice none 0 0,.slice none 0 0]):=by rw[ko,<-AW.av V (.cells (eT x sv (fI sb x.st.length) (lG qb x.qs.length)))];exact AW.aL _ _
  have n1:V1.next=V.next+2:=by rw[ko];rfl
  simp only[SX,nO,AW.av];rw[<-ko];clear ko;have s4:fm 1 (.pointer (some ⟨V.next,4,none⟩)) (.ae nw) V1=some (ak,V1.put V.next (.cells (eT {x with now:=nw} sv (fI sb x.st.length) (lG qb x.qs.length)))):=by rw[xq,cT g0];rfl
  simp only[SX,aI,s4];obtain⟨V2,BO⟩:∃V2,V2=V1.put V.next (.cells (eT {x with now:=nw} sv (fI sb x.st.length) (lG qb x.qs.length))):=⟨_,rfl⟩;have n2:V2.next=V.next+2:=by rw[BO];exact n1
  have o2:∀b,b≠V.next->V2.get b=V1.get b:=λb hb=>by rw[BO];exact AW.ay _ _ (bh hb)
  have k0:V2.get V.next=some (.cells (eT {x with now:=nw} sv (fI sb x.st.length) (lG qb x.qs.length))):=by rw[BO];exact AW.aW _ _ _
  rw[<-BO];clear BO s4;have JU:Le V V2:=⟨by omega,λb hb=>(o2 b (by omega)).trans (Xh.get b hb)⟩;have Ft:=h.mono JU;have k1:V2.get (V.next+1)=_:=(o2 _ (by omega)).trans g1;refine afX (x:=x) (nw:=nw) (n:=x.st.length) (b0:=V.next) (v4:=ba (V.next+1)) rfl hN Ft.gs (by omega) k0 (by omega) n8 yx rfl rfl rfl rfl rfl ?_;intro R' V3 v l3 q1 q2 q4 q5 q6;simp only[SX];have l3n:=l3.next;refine abc (x:=x) (nw:=nw) (b0:=V.next) (b1:=V.next+1) (lo:=V2.next) (Ft.mono l3) hN hk hv hr hl h1 h2 (by omega) (by omega) (by omega) (by omega) q6 ((l3.get _ (by omega)).trans k0) ((l3.get _ (by omega)).trans k1) q1 q2 q4 q5 ?_;intro R2 V4 z2 z4 hR hF y0 y1;have l7:dF 7 (ba V.next) V4=some (ku sb qb {x with now:=nw} sv,V4):=bz (ao y0) rfl;have s7:=gU (W:=V4) (b:=V.next+1) (n:=7) (vs:=(eT {x with now:=nw} sv (fI sb x.st.length) (lG qb x.qs.length)).toArray) y1 rfl rfl (by simp[dz,row_one h.sec.1,cI,cJ]);have Q1:fm 7 (ba (V.next+1)) (ku sb qb {x with now:=nw} sv) V4=some (ak,V4.put (V.next+1) (.cells (eT {x with now:=nw} sv (fI sb x.st.length) (lG qb x.qs.length)))):=s7;have l8:dF 7 (ba (V.next+1)) (V4.put (V.next+1) (.cells (eT {x with now:=nw} sv (fI sb x.st.length) (lG qb x.qs.length))))=some (ku sb qb {x with now:=nw} sv,V4.put (V.next+1) (.cells (eT {x with now:=nw} sv (fI sb x.st.length) (lG qb x.qs.length)))):=bz (ao (AW.aW _ _ _)) rfl;simp only[SX,z2,z4,l7,Q1,rT,EG,l8,bM,af];refine⟨((M0 x nw _).rs sb qb sv).symm,hR.box (by rw[AW.bH];omega) λb hb=>?_,⟨?_,λb hb e1 e2=>(AW.ay _ _ (by omega)).trans (((Fr.of_le (JU.trans l3)).trans hF).2 b hb e1 e2)⟩⟩
  ·by_cases e:b=V.next+1
   ·exact .inr ⟨by omega,by omega,by omega,_,_,by rw[e];exact y1⟩
   ·exact .inl (AW.ay _ _ (bh e))
  ·rw[AW.bH];exact((Fr.of_le (JU.trans l3)).trans hF).1
 obtain⟨⟨v,V2⟩,k1,rfl,k2⟩:=jL;exact⟨V2,by rw[MD k1,jx (by simp[bN,eI,cC])],k2⟩
end
def xw:GH:=λc a b d e=>cu e (I 0) λf=>gI f (yO [(I 0,none),(I 0,none),(e,none)]) (aN 4 d λg=>bT c 216 [g,a,b] λh=>ap h 0 λi=>ap h 1 λj=>ap h 2 λk=>yO [(i,none),(j,none),(k,none)])
def MS:pk:=λc a b d=>aV a λe=>aN 4 e λf=>bT c 48 [f] λg=>ap g 0 λh=>ap g 1 λi=>lT i (I 0) λj=>gT j (dh d) λk=>gT j (zb1 k (I 0)) λl=>aO j l (.bool false) λm=>gI m (xw c b d e (I 4)) (xw c b d e i)
def Pk{x0 x1 x2 W r}(h:MS aY x0 x1 x2 W=some r):OG 201 #[] [x0,x1,x2] W r:=oM 32 h (by kernel_rfl)
def wH(k j:Nat)(r:iq):Bool:=decide ((r.sec:Int)=k)&&decide ((r.row:Int)=j)
def fO(k j:Nat)(q:Tn):Bool:=decide ((q.1:Int)=k)&&decide ((q.2.1:Int)=j)
def A9{k j:Nat}{r:iq}:∀q∈qD r,fO k j q=wH k j r:=by intro q hq;unfold qD yI at hq;obtain⟨i,_,rfl⟩:=mB.1 hq;rfl
def Dv{k j:Nat}:∀(L:List iq),(L.flatMap qD).filter (fO k j)=(L.filter (wH k j)).flatMap qD
 |[]=>rfl
 |r::L=>by
  rw[fN,vz,Dv L,List.filter_cons];cases h:wH k j r with
  |true=>rw[an rfl,fN,List.filter_eq_self.2 λq hq=>by rw[A9 q hq,h]]
  |false=>rw[aq (by simp),Ez.2 λq hq=>by rw[A9 q hq,h];simp,jG]
def NF{k j:Nat}:∀{L:List iq} {s:Int} {r0:iq} {l0:List iq},mm s L->(∀r∈L,1<=r.many)->L.filter (wH k j)=r0::l0->s+((L.flatMap qD).findIdx (fO k j):Int)=r0.first
 |[],_,_,_,_,_,h=>by cases h
 |r::L,s,r0,l0,⟨hf,hF⟩,hm,h=>by
  have hr:=hm r (by simp);rw[fN];rw[List.filter_cons]at h;cases hs:wH k j r with
  |true=>
   rw[hs,an rfl]at h;injection h with h1 h2;subst h1;have:((qD r++L.flatMap qD).findIdx (fO k j))=0:=by
    cases hc:qD r with
    |nil=>have:=ss r;rw[hc]at this;simp at this;omega
    |cons q l=>have:=A9 (k:=k) (j:=j) q (r:=r) (by rw[hc];simp);rw[pb,List.findIdx_cons,this,hs];rfl
   rw[this];omega
  |false=>
   rw[hs,aq (by simp)]at h;have ih:=NF hF (λy hy=>hm y (by simp[hy])) h;have hn:(qD r).findIdx (fO k j)=(qD r).length:=by rw[List.findIdx_eq_length];intro x hx;rw[A9 x hx,hs]
   rw[I1,hn,bL,ss];omega
def Ri(l:List mZ)(k:Nat)(rows:List Int){j:Nat}:∀{n:Nat},n<=rows.length->(sL l k rows n).filter (wH k j)=if h:j<n then [⟨k,j,bG (l.take k)+hZ (rows.take j),rows.getD j 0⟩]else []
 |0,_=>by simp[sL]
 |n+1,hn=>by
  rw[pR l k rows (by omega),vz,Ri l k rows (by omega)];by_cases h:j<n
  ·rw[ph h,ph (by omega),Ez.2,fp];intro x hx;rw[ki.1 hx];simp only[wH,bA,iA];omega
  ·rw[dif_neg h,jG];by_cases e:j=n
   ·subst e;rw[ph (by omega),List.filter_eq_self.2]
    ·rw[pi,bJ (by omega),oL]
    ·intro x hx;rw[ki.1 hx];simp[wH]
   ·rw[dif_neg (by omega),Ez.2];intro x hx;rw[ki.1 hx];simp only[wH,bA,iA];omega
def UP{l:List mZ}{k j:Nat}(hk:k<l.length)(hj:j<l[k].rows.length):(eZ l).filter (wH k j)=[⟨k,j,bG (l.take k)+hZ (l[k].rows.take j),l[k].rows[j]⟩]:=by
 have h1:=CQ (l:=l) k (aR l.length);rw[ph hk]at h1;have e:(eZ l).filter (wH k j)=((qw l l.length).filter (gS (k:Int))).filter (wH k j):=by
  rw[List.filter_filter];refine List.filter_congr λx _=>?_
  simp only[wH,gS];cases decide ((x.sec:Int)=k)<;>simp
 have e2:l.getD k ⟨[],[],0⟩=l[k]:=by simp[List.getD,hk]
 rw[e,h1,e2,Ri l k _ (aR _),ph hj];simp[List.getD,hj]
def Pw{v:ge}(he:(dn v).2=0){k j:Nat}(hk:k<v.ax.length)(hj:j<v.ax[k].rows.length):
 ((jb v.ax).filter (fO k j)).length=v.ax[k].rows[j].toNat/\(Sc (fO k j) (jb v.ax):Int)=bG (v.ax.take k)+hZ (v.ax[k].rows.take j)/\0<v.ax[k].rows[j].toNat:=by
 obtain⟨hg,-⟩:=cF he;obtain⟨-,-,r3⟩:=hg.rows _ (cG hk);have hp:=(r3 _ (cG hj)).1;have hf:=UP hk hj;have e:jb v.ax=(eZ v.ax).flatMap qD:=Au v.ax;have h1:((jb v.ax).filter (fO k j)).length=v.ax[k].rows[j].toNat:=by rw[e,Dv,hf,fN,Ba,fp,ss]
 refine⟨h1,?_,by omega⟩;unfold Sc;rw[bL,e];have:=NF (uh v.ax) (λr hr=>((sK hr).many hg).1) hf;rw[Int.zero_add]at this;exact this
def Un{v:ge}{sv:ad}{W:AW}{k j:Nat}(hs:ig W sv v.ax)(he:(dn v).2=0)(hv:v.ax.length<1000)(hr:∀s∈v.ax,s.rows.length<1000)(hk:k<v.ax.length)(hj:j<v.ax[k].rows.length):
 aY (.func (.func 216) #[] #[]) [fH v sv,.ae (k:Int),.ae (j:Int)] W=some (.tuple #[.ae (Sc (fO k j) (jb v.ax):Int),.ae (((jb v.ax).filter (fO k j)).length:Int),.ae 0],W):=by
 refine aQ rfl ?_ LU;unfold Je;obtain⟨W1,hB,aM,hn,c4,c0,c3⟩:=jC v sv W;simp only[SX,hB,c4 _ (.refl _),A3 (hs.mono aM) hv hr];obtain⟨hg,-⟩:=cF he;obtain⟨-,-,t8⟩:=Pw he hk hj;have aul:=(Pw he hk hj).1;obtain⟨r,W2,q1,q2,q3⟩:=AT (hs.mono aM) hg;have pP:=tB hg;have htm:=Be hg;simp only[SX,aK he,q1];have Gr:∀(k:Nat) (W':AW),k<1000000->bO Tryz.prog .add 3 false true (.ae (k:Int)) (.ae 1) W'=some (.ae ((k+1:Nat):Int),W'):=λk W' hk=>mF (by omega) (by omega)
 generalize hl:jb v.ax=l at *;have LH:∀i,((l.take i).filter (fO k j)).length<=l.length:=λi=>dW (xB _ _) (by rw[cR];omega)
 refine a8 l.length (by omega) (λi R W'=>W'=W2/\R 1=.ae (k:Int)/\R 2=.ae (j:Int)/\R 11=.ae ((Sc (fO k j) (l.take i):Nat):Int)/\R 12=.ae (((l.take i).filter (fO k j)).length:Int)/\R 13=r/\R 14=.ae (i:Int))
  (λq=>q.2.2=W2/\q.1=.exit 0/\q.2.1 11=.ae ((Sc (fO k j) l:Nat):Int)/\q.2.1 12=.ae ((l.filter (fO k j)).length:Int)) ⟨rfl,rfl,rfl,rfl,rfl,rfl,rfl⟩ ?_ ?_ ?_
 ·rintro i R W' hi ⟨rfl,f1,f2,f11,Xz,f13,f14⟩;unfold vB;have e1:((i:Int)<(l.length:Int)):=by omega
  obtain⟨b,o,p1,p2⟩:=q3.get hi;obtain⟨p3,p4,p5⟩:=p2 W' (.refl _);have ht:l.take (i+1)=l.take i++[l[i]]:=by rw[List.take_add_one,bJ hi];rfl
  have hti:(l.take i).length=i:=by rw[cR];omega
  have HP:=Yt (p:=fO k j) (l:=l.take i) (a:=l[i]);rw[hti,<-ht]at HP;have dj:decide ((j:Int)= -1)=false:=bS;simp only[SX,f1,f2,f13,f14,q3.len ahP,e1,p1,eQ,p3];have no:fO k j l[i]=false->Int->True:=λ_ _=>trivial
  have hc:=LH i;by_cases hp:fO k j l[i]=true;case neg=>
   have hp:=uY.2 hp;have Dc:=hp;rw[hp]at HP;simp only[gY,false_and,b9]at HP;unfold fO at Dc;by_cases t1:(l[i].1:Int)=k
   ·rw[aK t1,gK]at Dc;simp only[SX,aK t1,dj,p1,p4,Dc,Gr i _ (by omega),af];exact .inl ⟨aj,aj,f1,f2,by rw[HP];exact f11,by rw[ht,sQ hp];exact Xz,f13,rfl⟩
   ·simp only[SX,t1,Na,Gr i _ (by omega),af];exact .inl ⟨aj,aj,f1,f2,by rw[HP];exact f11,by rw[ht,sQ hp];exact Xz,f13,rfl⟩
  have Dc:=hp;unfold fO at Dc;rw[bA]at Dc;rw[hp]at HP;simp only[uO]at HP;simp only[SX,Dc.1,dj,p1,p4,Dc.2,Xz];by_cases t2:((l.take i).filter (fO k j)).length=0
  ·have t3:(((l.take i).filter (fO k j)).length:Int)=0:=by omega
   rw[an t2]at HP;simp only[SX,aK t3,Gr i _ (by omega),Gr ((l.take i).filter (fO k j)).length _ (by omega),af];refine .inl ⟨aj,aj,f1,f2,by rw[HP];rfl,?_,f13,rfl⟩;rw[ht,nB hp,cD];rfl
  ·have t3:¬(((l.take i).filter (fO k j)).length:Int)=0:=by omega
   rw[aq t2]at HP;simp only[SX,t3,Gr i _ (by omega),Gr ((l.take i).filter (fO k j)).length _ (by omega),af];refine .inl ⟨aj,aj,f1,f2,by rw[HP];exact f11,?_,f13,rfl⟩;rw[ht,nB hp,cD];rfl
 ·rintro R W' ⟨rfl,f1,f2,f11,Xz,f13,f14⟩;unfold vB;have e1:¬((l.length:Int)<(l.length:Int)):=by omega
  rw[cO]at f11 Xz;simp only[SX,f13,f14,q3.len ahP,e1,af];exact⟨by simp,aj,aj,f11,Xz⟩
 ·rintro⟨x,R,W'⟩ ⟨hW,hx,f11,Xz⟩;simp only at hW hx f11 Xz;subst hW;subst hx;have t3:¬((l.filter (fO k j)).length:Int)=0:=by omega
  simp only[SX,t3,f11,Xz,af];exact⟨aj,aM.trans q2⟩
def YL{v:ge}{sv:ad}{W:AW}{k j:Nat}(hs:ig W sv v.ax)(he:(dn v).2=0)(hv:v.ax.length<1000)(hr:∀s∈v.ax,s.rows.length<1000)(hk:k<v.ax.length)(hj:j<v.ax[k].rows.length):
 aY (.func (.func 201) #[] #[]) [fH v sv,.ae (k:Int),.ae (j:Int)] W=some (.tuple #[.ae (bG (v.ax.take k)+hZ (v.ax[k].rows.take j)),.ae v.ax[k].rows[j],.ae 0],W):=by
 refine aQ rfl ?_ Pk;unfold MS;obtain⟨W1,hB,aM,hn,c4,c0,c3⟩:=jC v sv W;have d0:decide ((j:Int)<0)=false:=bS;have aex:=Un (hs.mono aM) he hv hr hk hj;obtain⟨h1,h2,h3⟩:=Pw he hk hj;rw[h2,h1]at aex;have e:((v.ax[k].rows[j].toNat:Nat):Int)=v.ax[k].rows[j]:=by omega
 rw[e]at aex;simp only[SX,hB,c4 _ (.refl _),A3 (hs.mono aM) hv hr,aK he,d0];unfold xw;simp only[SX,he,c4 _ (.refl _),aex,af];exact⟨aj,aM⟩
def qY.push{W1 V:AW}{out:ad}{l:List RunT}(h:qY W1 V out l)(r:RunT)(hl:l.length<=100000):∃pT V',dB Tryz.prog (V.add (.cells (xE r))) #[219,219] out (.slice (some ⟨V.next,0,none⟩) 1 1)=some (pT,V')/\qY W1 V' pT (l++[r]):=by
 obtain⟨h1,bo,h5,h6⟩:=h;have h5':=h5.keep (W':=V.add (.cells (xE r))) (by rw[AW.av];omega) λB hB=>AW.aG _ _ (by have:=h5.lt hB;omega)
 obtain⟨pT,V',k1,k2,k3,k4⟩:=h5'.push ai0 xS Xc (b:=V.next) (c:=1) bC (by omega) (by omega);have:=h1.next;refine⟨pT,V',k1,⟨by rw[k3,AW.av];omega,λb hb=>?_⟩,_,k2,λB hB=>?_⟩
 ·exact(k4 b (by rw[AW.av];omega) (λe=>by have:=h6 b e;omega)).trans ((AW.aG _ _ (by omega)).trans (h1.get b hb))
 ·injection hB with hB;rw[AW.av]at hB;omega
def qY.len{W1 V:AW}{out:ad}{l:List RunT}(h:qY W1 V out l)(U:AW):aZ Tryz.prog .len #[219] 3 #[false] [out] U=some (.ae (l.length:Int),U):=by obtain⟨-,bo,h5,-⟩:=h;rcases h5 with⟨rfl,rfl,-⟩|⟨-,B,-,-,rfl,-⟩<;>exact df Oe _ _ _
def qY.last{W1 V:AW}{out:ad}{l:List RunT}{r:RunT}(h:qY W1 V out (l++[r]))(m:Int):∃p b o V',(∀U,nY 3 out (.ae (l.length:Int)) U=some (.pointer (some ⟨b,o,none⟩),U))/\bu (.pointer (some ⟨b,o+2,none⟩)) V=some (.ae r.ma,V)/\p=o+2/\
 fm 1 (.pointer (some ⟨b,o+2,none⟩)) (.ae m) V=some (ak,V')/\qY W1 V' out (l++[⟨r.row,r.fi,m⟩]):=by
 obtain⟨h1,bo,h5,h6⟩:=h;rcases h5 with⟨e,-,-⟩|⟨h0,B,e1,e2,rfl,e4⟩
 ·simp at e
 have hn:(l++[r]).length=l.length+1:=by simp
 have hL:(l.flatMap xE).length=l.length*3:=cm xS l;have ef:(l++[r]).flatMap xE=l.flatMap xE++xE r:=by simp
 have alw:((l++[r]).flatMap xE).set (l.length*3+2) (.ae m)=(l++[(⟨r.row,r.fi,m⟩:RunT)]).flatMap xE:=by rw[ef,jo,List.set_append_right _ _ (by omega),hL,show l.length*3+2-l.length*3=2 by omega];rfl
 refine⟨_,B,l.length*3,V.put B (.cells ((l++[(⟨r.row,r.fi,m⟩:RunT)]).flatMap xE)),λU=>?_,aP (ao e4) ?_,rfl,?_,h1.put (h6 B e1) _,bo,.inr ⟨by simp,B,e1,e2,by simp,AW.aW _ _ _⟩,h6⟩
 ·have:=rH (z:=3) (b:=B) (o:=0) (l:=(l++[r]).length) (i:=l.length) (c:=eJ+3) (W:=U) (k:=.i64) (by omega);rwa [aI]at this
 ·rw[ef,sU (by omega),hL,show l.length*3+2-l.length*3=2 by omega];rfl
 ·rw[xq,cT e4,bM,an (by rw[ef,cD,hL];simp),alw]
def Hb(row c k:Int):List RunT:=if 0<k then [⟨row,c,k⟩]else []
def WQ{row c k:Int}(h:0<k):Hb row c k=[⟨row,c,k⟩]:=an h
def Jd{row c:Int}:Hb row c 0=[]:=bL
def ahO{R:ai.Fr}{W1 U:AW}{fv aet v2 v3:ad}{free:List Bool}{f m:Nat}{row:Int}{l0:List RunT}{K:LT->Option LT}{G:LT->Prop}(hf:OV W1 fv free)(hm:m<=10000)(hfm:f+m<=free.length)(wO:free.length<=10000)(SE:l0.length<=50000)
 (hO:qY W1 U aet l0)(r1:R 1=fv)(r2:R 2=v2)(r3:R 3=v3)(r7:R 7=aet)(r8:R 8=.ae row)(r9:R 9=.ae (f:Int))(my:R 10=.ae (m:Int))(tU:R 12=.bool false)(IY:R 13=.ae (f:Int))
 (hK:∀R' V out,R' 1=fv->R' 2=v2->R' 3=v3->R' 7=out->R' 8=.ae row->qY W1 V out (l0++t7 row f (uQ free f m) f 0)->Ok (K (.exit 2,R',V)) G):
 Ok (eY (fV (lE aY) R U) K) G:=by
 have FH:(uQ free f m).length=m:=by unfold uQ;rw[cR,mr];omega
 refine a8 m (by omega) (λj R V=>R 1=fv/\R 2=v2/\R 3=v3/\R 8=.ae row/\R 9=.ae (f:Int)/\R 10=.ae (m:Int)/\R 13=.ae ((f+j:Nat):Int)/\
  ∃l c k,R 12=.bool (decide (0<k))/\qY W1 V (R 7) (l++Hb row c k)/\0<=k/\k<=j/\(k=0->c=f+j)/\l.length<=50000+j/\l++t7 row (f+j) ((uQ free f m).drop j) c k=l0++t7 row f (uQ free f m) f 0)
  (λr=>r.1=.exit 2/\r.2.1 1=fv/\r.2.1 2=v2/\r.2.1 3=v3/\r.2.1 8=.ae row/\qY W1 r.2.2 (r.2.1 7) (l0++t7 row f (uQ free f m) f 0))
  ⟨r1,r2,r3,r8,r9,my,by rw[IY];rfl,l0,f,0,tU,by rw[Jd,fp,r7];exact hO,by omega,by omega,λ_=>by omega,by omega,by simp⟩ ?_ ?_ ?_
 ·rintro j R V hj ⟨r1,r2,r3,r8,r9,my,IY,l,c,k,tU,hO,k0,kj,kc,Yg,e1⟩;unfold lE;have a1:=λW'=>fh W' f m
  have a2:=λW'=>bc W' ((f+j:Nat):Int) 1
  have d1:decide (((f+j:Nat):Int)<(f:Int)+m)=true:=cd;have e14:((f+j:Nat):Int)+1=((f+(j+1):Nat):Int):=by omega
  obtain⟨b,o,g1,g2,g3⟩:=hf.get (i:=f+j) (by omega);have ld:=g3 V (hO.1.get _ g2);have hd:(uQ free f m).drop j=free[f+j]'(by omega)::(uQ free f m).drop (j+1):=by rw[ri (by omega)];congr 1;have:=D5 free f m j;rw[an hj,bJ (by omega),bJ (by omega)]at this;exact AO this
  rw[hd]at e1;have tail:∀(l':List RunT) (c' k':Int) (JR:Nat->ad) (out:ad) (V':AW),qY W1 V' out (l'++[⟨row,c',k'⟩])->l'.length<=50000+(j+1)->0<=k'->k'<=j->JR 1=fv->JR 2=v2->JR 3=v3->JR 7=out->JR 8=.ae row->JR 9=.ae (f:Int)->JR 10=.ae (m:Int)->JR 12=.bool true->
   l'++t7 row (f+j+1) ((uQ free f m).drop (j+1)) c' (k'+1)=l0++t7 row f (uQ free f m) f 0->
   Ok (iQ aY JR out (.ae ((f+j:Nat):Int)) V') λr=>(r.1=.normal/\(r.2.1 1=fv/\r.2.1 2=v2/\r.2.1 3=v3/\r.2.1 8=.ae row/\r.2.1 9=.ae (f:Int)/\r.2.1 10=.ae (m:Int)/\r.2.1 13=.ae ((f+(j+1):Nat):Int)/\
    ∃l c k,r.2.1 12=.bool (decide (0<k))/\qY W1 r.2.2 (r.2.1 7) (l++Hb row c k)/\0<=k/\k<=((j+1:Nat):Int)/\(k=0->c=f+((j+1:Nat):Int))/\l.length<=50000+(j+1)/\l++t7 row (f+((j+1:Nat):Int)) ((uQ free f m).drop (j+1)) c k=l0++t7 row f (uQ free f m) f 0))\/(r.1≠ .normal/\(r.1=.exit 2/\r.2.1 1=fv/\r.2.1 2=v2/\r.2.1 3=v3/\r.2.1 8=.ae row/\qY W1 r.2.2 (r.2.1 7) (l0++t7 row f (uQ free f m) f 0))):=by
   intro l' c' k' JR out V' hR Cy k0' kj' j1 j2 j3 j7 j8 j9 j10 j12 h1;unfold iQ;obtain⟨p,b',o',V2,q1,q2,-,q3,q4⟩:=hR.last (k'+1);have a3:=λW'=>bc W' k' 1
   have a4:=λW'=>tG (P:=Tryz.prog) (W:=W') (t:=3) (c:=false) (d:=true) (a:=((l'++[(⟨row,c',k'⟩:RunT)]).length:Int)) (b:=1) (by simp) (by simp;omega)
   have e5:((l'++[(⟨row,c',k'⟩:RunT)]).length:Int)-1=(l'.length:Int):=by simp
   rw[e5]at a4;simp only[SX,hR.len,a4,q1,q2,a3,q3,a2,af];refine .inl ⟨aj,j1,j2,j3,j8,j9,j10,by rw[<-e14];rfl,l',c',k'+1,?_,?_,by omega,by omega,λh=>by omega,Cy,?_⟩
   ·rw[aK (show 0<k'+1 by omega)];exact j12
   ·rw[WQ (by omega)];show qY W1 V2 (JR 7) _;rw[j7];exact q4
   ·rw[<-h1];congr 2
  simp only[SX,r1,r9,my,IY,a1,d1,g1,ld];cases hb:free[f+j]'(by omega)with
  |false=>
   rw[hb]at e1;simp only[SX,a2,af];refine .inl ⟨aj,r1,r2,r3,r8,r9,my,by rw[<-e14];rfl,l++Hb row c k,f+((j+1:Nat):Int),0,rfl,by rw[Jd,fp];exact hO,by omega,by omega,λ_=>rfl,?_,?_⟩
   ·rw[cD];unfold Hb;split<;>simp<;>omega
   ·rw[<-e1,iK];simp only[t7];unfold Hb;congr 3<;>omega
  |true=>
   rw[hb]at e1;simp only[t7]at e1;simp only[SX,tU];by_cases ck:0<k
   ·rw[WQ ck]at hO;simp only[SX,aK ck];exact tail l c k _ _ _ hO (by omega) k0 kj r1 r2 r3 rfl r8 r9 my (by rw[<-aK ck];exact tU) e1
   ·obtain rfl:k=0:=by omega
    rw[Jd,fp]at hO;obtain⟨pT,V2,q1,q2⟩:=hO.push ⟨row,f+j,0⟩ (by omega);have q1':dB Tryz.prog (V.add (.cells (xE ⟨row,((f+j:Nat):Int),0⟩))) #[219,219] (R 7) (.slice (some ⟨V.next,0,none⟩) 1 1)=some (pT,V2):=by rw[show((f+j:Nat):Int)=(f:Int)+j by omega];exact q1
    simp only[SX,ck,r8,aaD,adh,q1'];rw[kc rfl]at e1;exact tail l (f+j) 0 _ _ _ q2 (by omega) (by omega) (by omega) r1 r2 r3 rfl r8 r9 my rfl e1
 ·rintro R V ⟨r1,r2,r3,r8,r9,my,IY,l,c,k,tU,hO,k0,kj,kc,Yg,e1⟩;unfold lE;have a1:=λW'=>fh W' f m
  have d1:decide (((f+m:Nat):Int)<(f:Int)+m)=false:=bS;rw[wR (by omega)]at e1;simp only[t7]at e1;simp only[SX,r9,my,IY,a1,d1,af];exact⟨by simp,aj,r1,r2,r3,r8,by rw[<-e1];exact hO⟩
 ·rintro⟨e,R,V⟩ ⟨rfl,h1,h2,h3,h8,h7⟩;exact hK R V _ h1 h2 h3 rfl h8 h7
def X4(l:List Nat)(m:Nat):fD (l++[m])=fD l+m:=by
 induction l with
 |nil=>simp[fD]
 |cons a l ih=>have e1:fD (a::l++[m])=a+fD (l++[m]):=rfl;have e2:fD (a::l)=a+fD l:=rfl;omega
def Dx:∀(l:List Nat) (j:Nat),fD (l.take j)<=fD l
 |[],j=>by simp
 |a::l,0=>by simp[fD]
 |a::l,j+1=>by have:=Dx l j;have e1:fD ((a::l).take (j+1))=a+fD (l.take j):=rfl;have e2:fD (a::l)=a+fD l:=rfl;omega
def abo{v:ge}(he:(dn v).2=0){k j:Nat}(hk:k<v.ax.length)(hj:j<v.ax[k].rows.length):bG (v.ax.take k)+hZ (v.ax[k].rows.take j)=((CZ v k+fD ((vZ v k).take j):Nat):Int):=by
 obtain⟨s1,s2,s3,s4,s5,s6,s7,s8⟩:=BZ he hk;have h0:0<v.ax[k].rows.length:=by omega
 have h1:=(Pw he hk h0).2.1;rw[tj]at h1;have e0:hZ ([]:List Int)=0:=rfl;have hf:(CZ v k:Int)=bG (v.ax.take k):=by unfold CZ;omega
 have h2:=CB (v.ax[k].rows.take j) (λn hn=>(s3 n (DT hn)).1);rw[s2,<-xl];omega
def Td{W:AW}{v:ge}{sv fv:ad}{free:List Bool}{k:Nat}(hs:fC W sv v.ax)(he:(dn v).2=0)(hv:v.ax.length<1000)(FH:∀s∈v.ax,s.rows.length<1000)(hk:k<v.ax.length)(hf:OV W fv free)(wO:(free.length:Int)=bG v.ax):
 ∃u W',aY (.func (.func 171) #[] #[]) [fH v sv,fv,.ae (k:Int)] W=some (u,W')/\Le W W'/\ZU W' u (dA v k free):=by
 refine Hm (Q:=λu W'=>Le W W'/\ZU W' u (dA v k free)) ?_ L7 λu W' hq _ hp=>⟨Le.refl _,?_⟩
 case refine_2=>
  obtain⟨a,c,rfl,h⟩:=hq.2;rcases h with h|⟨b,o,cs,rfl,-⟩
  ·exact⟨a,c,rfl,.inl h⟩
  ·cases hp
 unfold Kh;obtain⟨s1,s2,s3,s4,s5,s6,s7,s8⟩:=BZ he hk;obtain⟨W1,hB,aM,hn,c4,c0,c3⟩:=jC v sv W;obtain⟨b,i,rv,g1,g2,-,-,g4,-⟩:=ig.get hs.1 hk;simp only[SX,hB];have abl:dA v k free=rm free 0 (CZ v k) ((vZ v k).take v.ax[k].rows.length):=by unfold dA;rw[ou (by rw[s2,fj];exact aR _)]
 have hml:(vZ v k).length=v.ax[k].rows.length:=by rw[s2,fj]
 have aj7:∀j,((CZ v k+fD ((vZ v k).take j):Nat):Int)<=free.length:=λj=>by have e:=Dx (vZ v k) j;have e2:=CB v.ax[k].rows (λn hn=>(s3 n hn).1);rw[<-s2]at e2;omega
 have Yg:∀j,(rm free 0 (CZ v k) ((vZ v k).take j)).length<=65*16:=λj=>by have h1:=Ad free ((vZ v k).take j) 0 (CZ v k) (λm hm=>by have:=DT hm;rw[s2]at this;obtain⟨n,hn,rfl⟩:=mB.1 this;have:=(s3 n hn).2;omega);rw[cR]at h1;omega
 refine a8 v.ax[k].rows.length (by omega) (λj R V=>R 1=fv/\R 2=.ae (k:Int)/\R 3=ba W.next/\R 8=.ae (j:Int)/\qY W1 V (R 7) (rm free 0 (CZ v k) ((vZ v k).take j)))
  (λr=>r.1=.exit 0/\qY W1 r.2.2 (r.2.1 7) (dA v k free)) ⟨rfl,rfl,rfl,rfl,⟨Le.refl _,none,.inl ⟨rfl,rfl,rfl⟩,λB hB=>by cases hB⟩⟩ ?_ ?_ ?_
 ·rintro j R V hj ⟨r1,r2,r3,r8,hO⟩;unfold vH;have t1:decide ((j:Int)<(v.ax[k].rows.length:Int))=true:=cd;have t2:=λW'=>bc W' j 1
  have e3:((j+1:Nat):Int)=(j:Int)+1:=by omega
  have hr:=s3 _ (cG hj);have hm:(v.ax[k].rows[j]:Int)=((v.ax[k].rows[j].toNat:Nat):Int):=by omega
  have hjm:j<(vZ v k).length:=by omega
  have emj:(vZ v k)[j]=v.ax[k].rows[j].toNat:=by simp[s2]
  have Lp:(vZ v k).take (j+1)=(vZ v k).take j++[v.ax[k].rows[j].toNat]:=by rw[iY hjm,emj]
  have iN:=aM.trans hO.1;have Su:=YL (W:=V) (ig.mono hs.1 iN) he hv FH hk hj;rw[abo he hk hj,hm]at Su;have wN:=aj7 (j+1);rw[Lp,X4]at wN;simp only[SX,r2,r3,r8,aI,c3 _ hO.1,g1,g4 _ iN,g2.len NJ,t1,c4 _ hO.1,Su];refine ahO (W1:=W1) (fv:=fv) (v2:=.ae (k:Int)) (v3:=ba W.next) (free:=free) (f:=CZ v k+fD ((vZ v k).take j)) (m:=v.ax[k].rows[j].toNat) (row:=(j:Int)) (hf.keep aM) (by omega) (by omega) (by omega) (by have:=Yg j;omega) hO r1 r2 r3 rfl r8 rfl rfl rfl rfl ?_;intro R' V' out q1 q2 q3 q7 q8 hO';simp only[SX,q8,t2,af];refine .inl ⟨aj,q1,q2,q3,by rw[e3];rfl,?_⟩;have Gc:=FF free ((vZ v k).take j) 0 (CZ v k) v.ax[k].rows[j].toNat;have e4:((0+((vZ v k).take j).length:Nat):Int)=(j:Int):=by rw[cR];omega
  rw[e4]at Gc;rw[Lp,Gc];show qY W1 V' (R' 7) _;rw[q7];exact hO'
 ·rintro R V ⟨r1,r2,r3,r8,hO⟩;unfold vH;have t1:decide ((v.ax[k].rows.length:Int)<(v.ax[k].rows.length:Int))=false:=bS;have iN:=aM.trans hO.1;simp only[SX,r2,r3,r8,aI,c3 _ hO.1,g1,g4 _ iN,g2.len NJ,t1,af];exact⟨by simp,aj,by rw[abl];exact hO⟩
 ·rintro⟨e,R,V⟩ ⟨rfl,BU,bo,h5,h6⟩;simp only[SX,af];exact⟨aM.trans BU,h5.ik.el.rd xS⟩
def FV{v:ge}(he:(dn v).2=0){k:Nat}(hk:k<v.ax.length)(free:List Bool):(dA v k free).length<=1040:=by obtain⟨s1,s2,s3,s4,s5,s6,s7,s8⟩:=BZ he hk;have h1:=Ad free (vZ v k) 0 (CZ v k) (λm hm=>by rw[s2]at hm;obtain⟨n,hn,rfl⟩:=mB.1 hm;have:=(s3 n hn).2;omega);rw[s2,fj,<-s2]at h1;unfold dA;omega
def ZU.ma{W:AW}{v:ad}{l:List RunT}(h:ZU W v l){i:Nat}(hi:i<l.length):∃b o,(∀W' k,nY 3 v (.int k (i:Int)) W'=some (.pointer (some ⟨b,o,none⟩),W'))/\bu (.pointer (some ⟨b,o+1,none⟩)) W=some (.ae l[i].fi,W)/\bu (.pointer (some ⟨b,o+2,none⟩)) W=some (.ae l[i].ma,W):=by obtain⟨b,o,cs,h1,h2,h3,h4⟩:=(Gy xS h).elem hi;exact⟨b,o,h1,aP h3 (ga h4 (j:=1) (by omega)),aP h3 (ga h4 (j:=2) (by omega))⟩
def aaT:∀(l:List RunT),0<=Eg l/\Eg l<=l.length
 |[]=>⟨rQ _,rQ _⟩
 |r::l=>by have:=aaT l;have h:=Ka r.ma;simp only[Eg,cP];omega
def X0{W:AW}{v:ge}{sv fv:ad}{free:List Bool}{k:Nat}(hs:fC W sv v.ax)(he:(dn v).2=0)(hv:v.ax.length<1000)(FH:∀s∈v.ax,s.rows.length<1000)(hk:k<v.ax.length)(hf:OV W fv free)(wO:(free.length:Int)=bG v.ax):
 aY (.func (.func 139) #[] #[]) [fH v sv,fv,.ae (k:Int)] W=some (.ae (Eg (dA v k free)),W):=by
 refine aQ rfl ?_ KU;unfold GM;obtain⟨W1,hB,aM,hn,c4,c0,c3⟩:=jC v sv W;obtain⟨u,W2,k1,k2,k3⟩:=Td (W:=W1) (hs.mono aM) he hv FH hk (hf.keep aM) wO;have dS:=FV he hk free;simp only[SX,hB,c4 _ (Le.refl _),k1];generalize hl:dA v k free=l at *;have SR:∀U:AW,aZ Tryz.prog .len #[219] 3 #[false] [u] U=some (.ae (l.length:Int),U):=λU=>by obtain⟨a,c,rfl,-⟩:=k3;exact df Oe _ _ _
 refine a8 l.length (by omega) (λj R V=>V=W2/\R 7=u/\R 9=.ae (j:Int)/\R 8=.ae (Eg (l.take j)))
  (λr=>r.1=.exit 0/\r.2.2=W2/\r.2.1 8=.ae (Eg l)) ⟨rfl,rfl,rfl,rfl⟩ ?_ ?_ ?_
 ·rintro j R _ hj ⟨rfl,r7,r9,r8⟩;unfold tx;have t1:decide ((j:Int)<(l.length:Int))=true:=cd;have t2:=λW'=>bc W' j 1
  have e3:((j+1:Nat):Int)=(j:Int)+1:=by omega
  have LH:=aaT (l.take j);have Hs:(l.take j).length<=1040:=by rw[cR];omega
  have t3:=λW'=>bc W' (Eg (l.take j)) 1
  obtain⟨b,o,g1,-,g3⟩:=k3.ma hj;have Lp:Eg (l.take (j+1))=Eg (l.take j)+BL l[j].ma:=by rw[iY hj,Iy];simp[Eg]
  simp only[SX,r7,r9,SR,t1,g1,g3];by_cases c:l[j].ma=1
  ·have d:=aK c;simp only[SX,d,r8,t3,t2,af];refine .inl ⟨aj,aj,r7,by rw[e3];rfl,?_⟩;rw[Lp,BL,an c];rfl
  ·have d:=aJ c;simp only[SX,d,t2,af];refine .inl ⟨aj,aj,r7,by rw[e3];rfl,?_⟩;rw[Lp,BL,aq c,ui];exact r8
 ·rintro R _ ⟨rfl,r7,r9,r8⟩;unfold tx;have t1:decide ((l.length:Int)<(l.length:Int))=false:=bS;rw[cO]at r8;simp only[SX,r7,r9,SR,t1,af];exact⟨by simp,aj,aj,r8⟩
 ·rintro⟨e,R,V⟩ ⟨rfl,rfl,h8⟩;simp only[SX,af];exact⟨h8,aM.trans k2⟩
def Ot(n:Int)(l:List RunT):List Int:=(rM n l).map λc=>c.r.fi+c.b
def kR(n:Int)(r:RunT):Nat:=(max (r.ma-n+1) 0).toNat
def HW(r:RunT)(k:Nat):List Int:=(List.range k).map λi:Nat=>r.fi+(i:Int)
def ad4(n:Int)(l:List RunT)(r:RunT):Ot n (l++[r])=Ot n l++HW r (kR n r):=by unfold Ot rM;rw[jo,qX];congr 1;simp[chR,HW,kR,List.map_map,Function.comp_def]
def XQ(r:RunT)(k:Nat):HW r (k+1)=HW r k++[r.fi+(k:Int)]:=by simp[HW,qW]
def G7{W:AW}{v:ge}{sv fv:ad}{free:List Bool}{k:Nat}{n:Int}(hs:fC W sv v.ax)(he:(dn v).2=0)(hv:v.ax.length<1000)(FH:∀s∈v.ax,s.rows.length<1000)(hk:k<v.ax.length)(hf:OV W fv free)(wO:(free.length:Int)=bG v.ax)(hn:1<=n/\n<=8):
 ∃u W',aY (.func (.func 138) #[] #[]) [fH v sv,fv,.ae (k:Int),.ae n] W=some (u,W')/\Le W W'/\Rd W' 1 jc u (Ot n (dA v k free)):=by
 refine Hm (Q:=λu W'=>Le W W'/\Rd W' 1 jc u (Ot n (dA v k free))) ?_ GD λu W' hq _ hp=>⟨Le.refl _,?_⟩
 case refine_2=>
  obtain⟨a,c,rfl,h⟩:=hq.2;rcases h with h|⟨b,o,cs,rfl,-⟩
  ·exact⟨a,c,rfl,.inl h⟩
  ·cases hp
 unfold Ce;obtain⟨W1,hB,aM,Mi,c4,c0,c3⟩:=jC v sv W;obtain⟨u,W2,k1,k2,k3⟩:=Td (W:=W1) (hs.mono aM) he hv FH hk (hf.keep aM) wO;have dS:=FV he hk free;have nH:∀r∈dA v k free,0<r.ma/\r.ma<=64/\0<=r.fi/\r.fi<=5000:=λr hr=>by have:=qS he hk hr;have:=(BZ he hk).2.2.2.2.2.1;omega
 simp only[SX,hB,c4 _ (Le.refl _),k1];generalize hl:dA v k free=l at *;have SR:∀U:AW,aZ Tryz.prog .len #[219] 3 #[false] [u] U=some (.ae (l.length:Int),U):=λU=>by obtain⟨a,c,rfl,-⟩:=k3;exact df Oe _ _ _
 refine a8 l.length (by omega) (λj R V=>Le W2 V/\R 3=.ae n/\R 9=u/\R 11=.ae (j:Int)/\sO W2.next V 1 jc (R 10) (Ot n (l.take j))/\(Ot n (l.take j)).length<=64*j)
  (λr=>r.1=.exit 0/\Le W2 r.2.2/\sO W2.next r.2.2 1 jc (r.2.1 10) (Ot n l)) ⟨Le.refl _,rfl,rfl,rfl,sO.nil _ _ _ _,by simp[Ot,rM]⟩ ?_ ?_ ?_
 ·rintro j R V hj ⟨wd,r3,r9,nZ,hL,hLl⟩;unfold pX;have t1:decide ((j:Int)<(l.length:Int))=true:=cd;have t2:=λW'=>bc W' j 1
  have e3:((j+1:Nat):Int)=(j:Int)+1:=by omega
  have hr:=nH _ (cG hj);have hkR:kR n l[j]<=64:=by unfold kR;omega
  simp only[SX,r9,nZ,SR,t1];refine a8 (kR n l[j]) (by omega) (λt R' V'=>Le W2 V'/\R' 3=.ae n/\R' 9=u/\R' 11=.ae (j:Int)/\R' 12=.ae (t:Int)/\sO W2.next V' 1 jc (R' 10) (Ot n (l.take j)++HW l[j] t))
   (λr=>r.1=.exit 2/\Le W2 r.2.2/\r.2.1 3=.ae n/\r.2.1 9=u/\r.2.1 11=.ae (j:Int)/\sO W2.next r.2.2 1 jc (r.2.1 10) (Ot n (l.take j)++HW l[j] (kR n l[j]))) ⟨wd,r3,r9,nZ,rfl,by simp only[HW,List.range_zero,mY,fp];exact hL⟩ ?_ ?_ ?_
  ·rintro t R' V' ht ⟨Rc,r3,r9,nZ,tU,hL'⟩;unfold mq;obtain⟨b,o,g1,g2,g3⟩:=ZU.ma (k3.keep Rc) hj;have a1:=λW'=>fh W' t n
   have a2:=λW'=>fh W' (l[j].fi) t
   have a3:=λW'=>bc W' t 1
   have d1:decide ((t:Int)+n<=l[j].ma)=true:=aK (by unfold kR at ht;omega);have axH:(Ot n (l.take j)++HW l[j] t).length<=70000:=by rw[cD];unfold HW;simp;omega
   obtain⟨v',V4,p1,p2,p3,p4⟩:=(hL'.mono ((Le.refl V').add (.cells (jc (l[j].fi+(t:Int)))))).push (P:=Tryz.prog) Y3 jV wF (b:=V'.next) (c:=1) bC (by omega) (by omega) (by rw[AW.av];have:=Rc.next;omega);simp only[SX,r3,r9,nZ,tU,a1,g1,g3,d1,g2,a2,acD,p1,a3,af];refine .inl ⟨aj,p4 _ (Rc.trans ((Le.refl _).add _)) (aR _),r3,r9,nZ,by rw[show((t+1:Nat):Int)=(t:Int)+1 by omega];rfl,?_⟩;rw[XQ,<-iK];exact p2
  ·rintro R' V' ⟨Rc,r3,r9,nZ,tU,hL'⟩;unfold mq;obtain⟨b,o,g1,g2,g3⟩:=ZU.ma (k3.keep Rc) hj;have a1:=λW'=>fh W' ((kR n l[j]:Nat):Int) n
   have d1:decide (((kR n l[j]:Nat):Int)+n<=l[j].ma)=false:=aJ (by unfold kR;omega);simp only[SX,r3,r9,nZ,tU,a1,g1,g3,d1,af];exact⟨by simp,aj,Rc,r3,r9,nZ,hL'⟩
  ·rintro⟨e,R',V'⟩ ⟨rfl,Rc,q3,q9,q11,hL'⟩;have asZ:R' 11=.ae (j:Int):=q11;simp only[SX,asZ,t2,af];have Lp:Ot n (l.take (j+1))=Ot n (l.take j)++HW l[j] (kR n l[j]):=by rw[iY hj,ad4]
   refine .inl ⟨aj,Rc,q3,q9,by rw[e3];rfl,by rw[Lp];exact hL',?_⟩;rw[Lp,cD];unfold HW;simp;omega
 ·rintro R V ⟨wd,r3,r9,nZ,hL,hLl⟩;unfold pX;have t1:decide ((l.length:Int)<(l.length:Int))=false:=bS;rw[cO]at hL;simp only[SX,r9,nZ,SR,t1,af];exact⟨by simp,aj,wd,hL⟩
 ·rintro⟨e,R,V⟩ ⟨rfl,wd,hL⟩;simp only[SX,af];exact⟨(aM.trans k2).trans wd,hL.el.rd jV⟩
def aje:mL Tryz.prog #[135,135] 1 1=true:=by kernel_rfl
def ahr(W:AW):cX Tryz.prog 135 0 [] W=some (.slice (some ⟨W.next,0,none⟩) 0 0,W.add (.cells [])):=aT (by kernel_rfl) rfl
def Xp(b:Bool):(blC b).all Eng.one=true:=rfl
def P4:∀l:List Bool,l.flatMap blC=l.map (Value.bool)
 |[]=>rfl
 |a::l=>by rw[fN,mc,P4 l];rfl
def acj{l:List Bool}{f j:Nat}(h:f+j<l.length):H8 l f (j+1)=(H8 l f j).set (f+j) false:=by
 apply oi;intro i;rw[BE,uk,BE,I3];by_cases e:f+j=i
 ·subst e;rw[an rfl,an h,bJ h];simp
 ·rw[aq e];congr 1;funext b;by_cases c:f<=i/\i<f+j
  ·rw[an c,kH]
  ·rw[aq c,bL]
def acC(l:List Bool)(f:Nat):H8 l f 0=l:=by
 apply oi;intro i;rw[BE];cases l[i]? with
 |none=>rfl
 |some b=>simp;omega
def Sv{W:AW}{fv:ad}{free:List Bool}{f n:Nat}(hf:OV W fv free)(wO:free.length<=10000)(h0:0<free.length)(hn:f+n<=free.length):
 ∃u W',aY (.func (.func 140) #[] #[]) [fv,.ae (f:Int),.ae (n:Int)] W=some (u,W')/\Le W W'/\OV W' u (H8 free f n):=by
 refine Hm (Q:=λu W'=>Le W W'/\OV W' u (H8 free f n)) ?_ Gx λu W' hq _ hp=>⟨Le.refl _,?_⟩
 case refine_2=>
  obtain⟨a,c,rfl,h⟩:=hq.2;rcases h with h|⟨b,o,cs,rfl,-⟩
  ·exact⟨a,c,rfl,.inl h⟩
  ·cases hp
 unfold Cq;obtain⟨u,W1,k1,k2,k3⟩:=Ak aje IR Xp hf (by omega) (by omega);rcases k3 with⟨rfl,-⟩|⟨-,B,c,i1,i2,rfl,ic,i4⟩
 ·cases h0
 simp only[SX,ahr,k1];rw[P4]at i4;refine a8 n (by omega) (λj R V=>Le W V/\V.next=W1.next/\R 1=.ae (f:Int)/\R 2=.ae (n:Int)/\R 7=.slice (some ⟨B,0,none⟩) free.length c/\R 8=.ae ((f+j:Nat):Int)/\V.get B=some (.cells ((H8 free f j).map Value.bool)))
  (λr=>r.1=.exit 0/\Le W r.2.2/\r.2.2.next=W1.next/\r.2.1 7=.slice (some ⟨B,0,none⟩) free.length c/\r.2.2.get B=some (.cells ((H8 free f n).map Value.bool))) ⟨k2,rfl,rfl,rfl,rfl,rfl,by rw[acC];exact i4⟩ ?_ ?_ ?_
 ·rintro j R V hj ⟨aM,Mi,r1,r2,r7,r8,hg⟩;unfold pM;have a1:=λW'=>fh W' f n
  have a2:=λW'=>bc W' ((f+j:Nat):Int) 1
  have d1:decide (((f+j:Nat):Int)<(f:Int)+(n:Int))=true:=cd;have ix:=rH (z:=1) (b:=B) (o:=0) (l:=free.length) (i:=f+j) (c:=c) (W:=V) (k:=.i64) (by omega);rw[aI,iI]at ix;have st:fm 1 (.pointer (some ⟨B,f+j,none⟩)) (.bool false) V=some (ak,V.put B (.cells (((H8 free f j).map Value.bool).set (f+j) (.bool false)))):=by rw[Aq,cT hg,bM,an (by rw[fj,I3];omega)]
  simp only[SX,r1,r2,r7,r8,a1,d1,ix,st,a2,af];refine .inl ⟨aj,aM.put i1 _,Mi,r1,r2,r7,by rw[show((f+(j+1):Nat):Int)=((f+j:Nat):Int)+1 by omega];rfl,?_⟩;rw[AW.aW,acj (by omega),List.map_set]
 ·rintro R V ⟨aM,Mi,r1,r2,r7,r8,hg⟩;unfold pM;have a1:=λW'=>fh W' f n
  have d1:decide (((f+n:Nat):Int)<(f:Int)+(n:Int))=false:=bS;simp only[SX,r1,r2,r8,a1,d1,af];exact⟨by simp,aj,aM,Mi,r7,hg⟩
 ·rintro⟨e,R,V⟩ ⟨rfl,aM,Mi,h7,hg⟩;have h7':R 7=.slice (some ⟨B,0,none⟩) free.length c:=h7;simp only[SX,h7',af];refine⟨aM,some ⟨B,0,none⟩,c,by rw[I3],.inr ⟨B,0,_,rfl,by rw[Mi];exact i2,ao hg,?_⟩⟩;rw[jB,iI,P4];exact ou (by simp)
def adN{v:ge}(he:(dn v).2=0){k:Nat}(hk:k<v.ax.length){free:List Bool}{n:Int}(hn:1<=n/\n<=8){c:zy}(h:c∈rM n (dA v k free)):
 Eg (dA v k (H8 free (c.r.fi+c.b).toNat n.toNat))=Eg (dA v k free)+jU c:=by
 obtain⟨h1,h2,h3,h4⟩:=JL h;have h5:=qS he hk h1;unfold dA at h1|-;rw[Ly (n:=n.toNat) (by omega) (vZ v k) 0 (CZ v k) c.r c.b.toNat (c.r.fi+c.b).toNat h1 (by omega) (by omega)];unfold jU;have e1:((c.b.toNat:Nat):Int)=c.b:=by omega
 have e2:((n.toNat:Nat):Int)=n:=by omega
 rw[e1,e2,h4]
def atB(A:Int)(b:Option zy):Int×Int:=match b with
 |none=>(-1,0)
 |some c=>(c.r.fi+c.b,A+jU c)
def af4(c:zy): -1<=jU c/\jU c<=2:=by have h1:=Ka c.b;have h2:=Ka c.a;have h3:=Ka c.r.ma;unfold jU;omega
def abq{V V2:AW}{b o:Nat}{u:ad}{W2:AW}(h:bu (.pointer (some ⟨b,o,none⟩)) V=some (u,V))(aM:Le V V2)(hb:b<W2.next)(h2:Le W2 V):bu (.pointer (some ⟨b,o,none⟩)) V2=some (u,V2):=by
 rw[Vp]at h|-;rw[aM.aH (fb hb h2.next)];cases hc:aH V b with
 |none=>rw[hc]at h;cases h
 |some cs=>
  rw[hc]at h;simp only[bM]at h|-;cases ho:cs[o]? with
  |none=>rw[ho]at h;cases h
  |some w=>rw[ho]at h;simp only[dq,iW,DL,and_true]at h|-;exact h
def XO{W:AW}{v:ge}{sv fv:ad}{free:List Bool}{k:Nat}{n:Int}(hs:fC W sv v.ax)(he:(dn v).2=0)(hv:v.ax.length<1000)(FH:∀s∈v.ax,s.rows.length<1000)(hk:k<v.ax.length)(hf:OV W fv free)(wO:(free.length:Int)=bG v.ax)(hn:1<=n/\n<=8):
 aY (.func (.func 109) #[] #[]) [fH v sv,fv,.ae (k:Int),.ae n] W=some (.ae (atB (Eg (dA v k free)) (xG (rM n (dA v k free)))).1,W):=by
 refine aQ rfl ?_ Mj;unfold Jk;obtain⟨W1,hB,aM,Mi,c4,c0,c3⟩:=jC v sv W;obtain⟨u,W2,k1,k2,k3⟩:=G7 (W:=W1) (hs.mono aM) he hv FH hk (hf.keep aM) wO hn;have ht:=(BZ he hk).2.2.2.2.2.1;have t8:=(BZ he hk).2.2.2.2;have nH:∀c∈rM n (dA v k free),0<=c.r.fi+c.b/\c.r.fi+c.b+n<=free.length:=λc hc=>by obtain⟨h1,h2,h3,h4⟩:=JL hc;have:=qS he hk h1;omega
 have hal:∀c∈rM n (dA v k free),Eg (dA v k (H8 free (c.r.fi+c.b).toNat n.toNat))=Eg (dA v k free)+jU c:=λc hc=>adN he hk hn hc
 have hAb:=aaT (dA v k free);have hAl:=FV he hk free;have Hs:(rM n (dA v k free)).length<=100000:=by
  have:∀l:List RunT,(∀r∈l,0<r.ma/\r.ma<=64)->(rM n l).length<=64*l.length:=by
   intro l;induction l with
   |nil=>intro _;simp[rM]
   |cons r l ih=>
    intro h;have h1:=ih λx hx=>h x (List.mem_cons_of_mem _ hx)
    have h2:=h r (List.mem_cons_self ..);have e:rM n (r::l)=chR n r (max (r.ma-n+1) 0).toNat++rM n l:=by simp[rM]
    rw[e,cD,cP];unfold chR;simp;omega
  have:=this (dA v k free) λr hr=>by have:=qS he hk hr;omega
  omega
 have hvs:Ax sv sv=true:=by obtain⟨a,c,rfl,-,h⟩:=hs.2;obtain⟨b,o,rfl⟩:=h (λe=>by rw[e]at hk;cases hk);exact AX _ _ _ _
 have hvv:iw (fH v sv) (fH v sv)=true:=pI (by simp[Y6,hvs,OX]);simp only[SX,hB,c4 _ (Le.refl _),k1];generalize nT:rM n (dA v k free)=cs at *;generalize hA:Eg (dA v k free)=A at *;have atU:(Ot n (dA v k free)).length=cs.length:=by unfold Ot;rw[nT,fj]
 have SR:∀U:AW,aZ Tryz.prog .len #[28] 3 #[false] [u] U=some (.ae (cs.length:Int),U):=λU=>by obtain⟨a,c,rfl,-⟩:=k3;rw[atU];exact df vw _ _ _
 refine a8 cs.length (by omega) (λj R V=>Le W2 V/\R 1=fv/\R 2=.ae (k:Int)/\R 3=.ae n/\R 4=ba W.next/\R 9=u/\R 12=.ae (j:Int)/\R 10=.ae (atB A (xG (cs.take j))).1/\R 11=.ae (atB A (xG (cs.take j))).2)
  (λr=>r.1=.exit 0/\Le W2 r.2.2/\r.2.1 10=.ae (atB A (xG cs)).1) ⟨Le.refl _,rfl,rfl,rfl,rfl,rfl,rfl,rfl,rfl⟩ ?_ ?_ ?_
 ·rintro j R V hj ⟨wd,r1,r2,r3,r4,r9,tU,my,nZ⟩;unfold vC;have t1:decide ((j:Int)<(cs.length:Int))=true:=cd;have t2:=λW'=>bc W' j 1
  have e3:((j+1:Nat):Int)=(j:Int)+1:=by omega
  have hc:=nH _ (cG hj);have MN:=aM.trans (k2.trans wd);have hju:j<(Ot n (dA v k free)).length:=by omega
  obtain⟨b,o,bs,p1,p2,p3,p4⟩:=(Gy jV k3).elem hju;have Pt:(Ot n (dA v k free))[j]=cs[j].r.fi+cs[j].b:=by simp[Ot,nT]
  have lp:bu (.pointer (some ⟨b,o,none⟩)) V=some (.ae (cs[j].r.fi+cs[j].b),V):=by refine aP ((wd.aH p2).trans p3) ?_;have:=ga p4 (j:=0) (by omega);rw[eQ]at this;rw[this,Pt];rfl
  have eF:cs[j].r.fi+cs[j].b=(((cs[j].r.fi+cs[j].b).toNat:Nat):Int):=by omega
  have eN:n=((n.toNat:Nat):Int):=by omega
  obtain⟨u2,V2,w1,w2,w3⟩:=Sv (W:=V) (f:=(cs[j].r.fi+cs[j].b).toNat) (n:=n.toNat) (hf.keep MN) (by omega) (by omega) (by omega);rw[<-eF,<-eN]at w1;have hlw:((H8 free (cs[j].r.fi+cs[j].b).toNat n.toNat).length:Int)=bG v.ax:=by rw[I3];exact wO
  have aqV:=X0 (W:=V2) (hs.mono (MN.trans w2)) he hv FH hk w3 hlw;rw[hal _ (cG hj)]at aqV;have l4:∀U:AW,Le W1 U->dF 4 (ba W.next) U=some (fH v sv,U):=λU hU=>c4 U hU
  have To:=k2.trans wd;have hbt:xG (cs.take (j+1))=RS (xG (cs.take j)) cs[j]:=by unfold xG;rw[iY hj,Bn];rfl
  have N7:∀c,xG (cs.take j)=some c->0<=c.r.fi+c.b:=λc hc=>(nH c (DT (O3 hc))).1
  have d0:=af4 cs[j];simp only[SX,r1,r2,r3,r4,r9,tU,SR,t1,l4 V To,p1,lp,w1,cV,l4 V2 (To.trans w2),hvv,fM,aqV,my,nZ];rw[hbt];cases e:xG (cs.take j)with
  |none=>have d1:decide ((atB A none).1<0)=true:=rfl;simp only[SX,d1,abq lp w2 p2 wd,t2,af];exact .inl ⟨aj,wd.trans w2,r1,r2,r3,r4,r9,by rw[e3];rfl,rfl,rfl⟩
  |some c=>
   have h0:=N7 c e;have d1:decide ((atB A (some c)).1<0)=false:=aJ (show¬(c.r.fi+c.b<0)by omega);by_cases c2:jU cs[j]<jU c
   ·have d2:decide (A+jU cs[j]<(atB A (some c)).2)=true:=aK (show A+jU cs[j]<A+jU c by omega);have eb:RS (some c) cs[j]=some cs[j]:=an c2;simp only[SX,d1,d2,abq lp w2 p2 wd,t2,af,eb];exact .inl ⟨aj,wd.trans w2,r1,r2,r3,r4,r9,by rw[e3];rfl,rfl,rfl⟩
   ·have d2:decide (A+jU cs[j]<(atB A (some c)).2)=false:=aJ (show¬(A+jU cs[j]<A+jU c)by omega);have eb:RS (some c) cs[j]=some c:=aq c2;rw[e]at my nZ;simp only[SX,d1,d2,t2,af,eb];exact .inl ⟨aj,wd.trans w2,r1,r2,r3,r4,r9,by rw[e3];rfl,my,nZ⟩
 ·rintro R V ⟨wd,r1,r2,r3,r4,r9,tU,my,nZ⟩;unfold vC;have t1:decide ((cs.length:Int)<(cs.length:Int))=false:=bS;rw[cO]at my;simp only[SX,r9,tU,SR,t1,af];exact⟨by simp,aj,wd,my⟩
 ·rintro⟨e,R,V⟩ ⟨rfl,wd,Jv⟩;simp only[SX,af];exact⟨Jv,(aM.trans k2).trans wd⟩
def Rn{W:AW}{v:ge}{sv fv:ad}{free:List Bool}{k:Nat}(hs:fC W sv v.ax)(he:(dn v).2=0)(hv:v.ax.length<1000)(FH:∀s∈v.ax,s.rows.length<1000)(hk:k<v.ax.length)(hf:OV W fv free)(wO:(free.length:Int)=bG v.ax):
 aY (.func (.func 137) #[] #[]) [fH v sv,fv,.ae (k:Int)] W=some (.ae 0,W):=by
 refine aQ rfl ?_ Jw;unfold HG;obtain⟨W1,hB,aM,hn,c4,c0,c3⟩:=jC v sv W;have n8:=uJ (W:=W1) (hs.1.mono aM) hv FH;have e1:(cn v).2=0:=by unfold cn;rw[an he]
 have e2:(cn v).1=bG v.ax:=by unfold cn;rw[an he]
 rw[e1,e2]at n8;have d1:decide ((free.length:Int)=bG v.ax)=true:=aK wO;have d2:decide ((k:Int)<0)=false:=bS;have d3:decide ((v.ax.length:Int)<=(k:Int))=false:=bS;have d0:decide ((0:Int)=0)=true:=rfl;simp only[SX,hB,c4 _ (Le.refl _),n8,jm hf aev,d1];unfold sM;simp only[SX,d2,aI,c3 _ (Le.refl _),Row.len hs.1 zg,d3,af];exact⟨aj,aM⟩
def Me{W:AW}{v:ge}{sv fv:ad}{free:List Bool}{k:Nat}{n:Int}(hs:fC W sv v.ax)(he:(dn v).2=0)(hv:v.ax.length<1000)(FH:∀s∈v.ax,s.rows.length<1000)(hk:k<v.ax.length)(hf:OV W fv free)(wO:(free.length:Int)=bG v.ax)(hn:1<=n/\n<=8):
 ∃u W',aY (.func (.func 108) #[] #[]) [fH v sv,fv,.ae (k:Int),.ae n] W=some (u,W')/\Le W W'/\∃w,u=.tuple #[w,.ae 0]:=by
 refine Hm (Q:=λu W'=>Le W W'/\∃w,u=.tuple #[w,.ae 0]) ?_ Fc λu W' hq _ hp=>⟨Le.refl _,hq.2⟩
 unfold Ch;obtain⟨W1,hB,aM,Mi,c4,c0,c3⟩:=jC v sv W;obtain⟨u,W2,k1,k2,k3⟩:=G7 (W:=W1) (hs.mono aM) he hv FH hk (hf.keep aM) wO hn;have d0:decide ((0:Int)=0)=true:=rfl;have d1:decide (n<1)=false:=bS;have d2:decide (8<n)=false:=bS;simp only[SX,hB,c4 _ (Le.refl _),Rn (hs.mono aM) he hv FH hk (hf.keep aM) wO,d1,d2];unfold pW;simp only[SX,c4 _ (Le.refl _),k1,af];exact⟨aM.trans k2,_,rfl⟩
def aez{W:AW}{v:ge}{sv fv:ad}{free:List Bool}{k:Nat}{n:Int}(hs:fC W sv v.ax)(he:(dn v).2=0)(hv:v.ax.length<1000)(FH:∀s∈v.ax,s.rows.length<1000)(hk:k<v.ax.length)(hf:OV W fv free)(wO:(free.length:Int)=bG v.ax)(hn:1<=n/\n<=8):
 aY (.func (.func 71) #[] #[]) [fH v sv,fv,.ae (k:Int),.ae n] W=some (.tuple #[.ae (qQ v k n free).1,.ae (qQ v k n free).2],W):=by
 refine aQ rfl ?_ MH;unfold Kl;obtain⟨W1,hB,aM,Mi,c4,c0,c3⟩:=jC v sv W;obtain⟨u,W2,k1,k2,w,rfl⟩:=Me (W:=W1) (hs.mono aM) he hv FH hk (hf.keep aM) wO hn;have hb:=XO (W:=W2) (hs.mono (aM.trans k2)) he hv FH hk (hf.keep (aM.trans k2)) wO hn;have d0:decide ((0:Int)=0)=true:=rfl;simp only[SX,hB,c4 _ (Le.refl _),k1,c4 _ k2,hb];unfold qQ;cases e:xG (rM n (dA v k free))with
 |none=>have d1:decide ((atB (Eg (dA v k free)) none).1<0)=true:=rfl;simp only[SX,d1,af];exact⟨aj,aM.trans k2⟩
 |some c=>obtain⟨h1,h2,h3,-⟩:=JL (O3 e);have h4:=qS he hk h1;have d1:decide ((atB (Eg (dA v k free)) (some c)).1<0)=false:=aJ (show¬(c.r.fi+c.b<0)by omega);simp only[SX,d1,af];exact⟨rfl,aM.trans k2⟩
def aqN(b:Bool)(W:AW):cX Tryz.prog 135 1 [(0,.bool b)] W=some (.slice (some ⟨W.next,0,none⟩) 1 1,W.add (.cells (blC b))):=aT (by kernel_rfl) rfl
section
variable {Z W V U U':AW} {lo sb qb:Nat} {x x' X:cS} {sv sq qq:ad} {o:kP}
def apN{b2 b3:Nat}{r0:mE}(hR:kb Z W U sb qb X sv)(hW:W.next<=b2/\W.next<=b3)(fe:b2≠sb/\b2≠qb/\b3≠sb/\b3≠qb/\b2≠b3){c:Int}{cs:List ad}(g2:U.get b2=some (.cells (.ae c::cs)))(hc:cs.length=6)(g3:U.get b3=some (.cells (jr r0)))(hF:Fr V U sb qb)(hV:V.next<=b2/\V.next<=b3)(hS:Sm x X)(r:mE):
 ∃V8 V9,fm 7 (ba b2) (ku sb qb x sv) U=some (ak,V8)/\(∀b,b≠b2->V8.get b=U.get b)/\fm 9 (ba b3) (fX r) V8=some (ak,V9)/\iP Tryz.prog [(ba b2,some 34),(ba b3,some 50)] V9=some (.tuple #[ku sb qb X sv,fX r],V9)/\kb Z W V9 sb qb X sv/\Fr V V9 sb qb:=by
 obtain⟨V8,V9,p1,p0,QM,p2,p3,p4,p5⟩:=afy (x:=x) (sq:=fI sb x.st.length) (qq:=lG qb x.qs.length) (row_one hR.sec.1) (cJ _ _ _) (cJ _ _ _) g2 (by simp[hc]) g3 fe.2.2.2.2 r;have:=hF.1;refine⟨V8,V9,p1,QM,p2,by rw[hS.rs];exact p3,hR.box (by omega) λb hb=>?_,⟨by omega,λb hb h1 h2=>(p5 b (by omega) (by omega)).trans (hF.2 b hb h1 h2)⟩⟩;by_cases e2:b=b2
 ·exact .inr ⟨by omega,by omega,by omega,_,_,by rw[e2];exact g2⟩
 by_cases e3:b=b3
 ·exact .inr ⟨by omega,by omega,by omega,_,_,by rw[e3];exact g3⟩
 ·exact .inl (p5 b e2 e3)
def acx{R:ai.Fr}{b0:Nat}{v3 v4 v5:ad}{n:Nat}(hn:x.st.length=n)(hn2:n<=10000){K:LT->Option (ad×AW)}{G:ad×AW->Prop}(hs:U.get sb=some (.cells (x.st.flatMap dJ)))(hsb:sb<U.next)
 (g:U.get b0=some (.cells (eT x sv (fI sb n) qq)))(Tu:b0<U.next)(r2:R 2=ba b0)(r3:R 3=v3)(r4:R 4=v4)(r5:R 5=v5)(r6:R 6=.slice none 0 0)(r7:R 7=.ae 0)
 (hK:∀R' V v,Le U V->R' 2=ba b0->R' 3=v3->R' 4=v4->R' 5=v5->R' 6=v->OV V v (y5 x)->Ok (K (.exit 0,R',V)) G):Ok (eY (fV (oD aY) R U) K) G:=by
 refine a8 n (by omega) (λk R V=>Le U V/\R 2=ba b0/\R 3=v3/\R 4=v4/\R 5=v5/\R 7=.ae (k:Int)/\sO U.next V 1 blC (R 6) ((y5 x).take k))
  (λr=>r.1=.exit 0/\Le U r.2.2/\r.2.1 2=ba b0/\r.2.1 3=v3/\r.2.1 4=v4/\r.2.1 5=v5/\sO U.next r.2.2 1 blC (r.2.1 6) (y5 x)) ⟨Le.refl _,r2,r3,r4,r5,r7,by rw[r6];exact sO.nil _ _ _ _⟩ ?_ ?_ ?_
 ·rintro k R V hk ⟨aM,r2,r3,r4,r5,r7,hL⟩;unfold oD;have t1:decide ((k:Int)<(n:Int))=true:=cd;have t2:=λW'=>bc W' k 1
  have e3:((k+1:Nat):Int)=(k:Int)+1:=by omega
  have l5:=bx5 ((aM.get _ Tu).trans g);have hkn:k<x.st.length:=by omega
  have f0:=AE (j:=0) (u:=.ae (cr x k).st) ((aM.get _ hsb).trans hs) hkn rfl;have wO:(y5 x).length=n:=by unfold y5;rw[fj,hn]
  have Lp:(y5 x).take (k+1)=(y5 x).take k++[decide ((cr x k).st=0)]:=by rw[iY (by omega)];simp[y5,cr,hkn]
  have dS:((y5 x).take k).length<=k:=by rw[cR];omega
  obtain⟨v',V4,k1,k2,k3,k4⟩:=(hL.mono ((Le.refl V).add (.cells (blC (decide ((cr x k).st=0)))))).push (P:=Tryz.prog) aje IR Xp (b:=V.next) (c:=1) bC (by omega) (by omega) (by rw[AW.av];have:=aM.next;omega);simp only[SX,r2,r7,aI,l5,df uK,t1,rE hk,f0,aqN,k1,t2,af];refine .inl ⟨aj,k4 _ (aM.trans ((Le.refl _).add _)) (aR _),r2,r3,r4,r5,by rw[e3];rfl,?_⟩;rw[Lp];exact k2
 ·rintro R V ⟨aM,r2,r3,r4,r5,r7,hL⟩;unfold oD;have t1:decide ((n:Int)<(n:Int))=false:=bS;have l5:=bx5 ((aM.get _ Tu).trans g);rw[ou (by unfold y5;rw[fj];omega)]at hL;simp only[SX,r2,r7,aI,l5,df uK,t1,af];exact⟨by simp,aj,aM,r2,r3,r4,r5,hL⟩
 ·rintro⟨e,R,V⟩ ⟨rfl,h1,h2,h3,h4,h5,h6⟩;exact hK R V _ h1 h2 h3 h4 h5 rfl (h6.el.rd IR)
def XT{R:ai.Fr}{b0 b1 a n:Nat}{t:Int}{v4 v5:ad}{K:LT->Option (ad×AW)}{G:ad×AW->Prop}(h:kb Z W U sb qb x sv)(hx:a+n<=x.st.length)(hx2:x.st.length<=10000)(Tu:b0<U.next/\b0≠sb/\b0≠qb)(As:b1<U.next/\b1≠sb/\b1≠qb)
 (g0:U.get b0=some (.cells (eT x sv (fI sb x.st.length) (lG qb x.qs.length))))(g1:U.get b1=some (.cells (Da o)))(hn:o.n=(n:Int))(r2:R 2=ba b0)(r3:R 3=ba b1)(r4:R 4=v4)(r5:R 5=v5)(r8:R 8=.ae (a:Int))(my:R 10=.ae t)(nZ:R 11=.ae (a:Int))
 (hK:∀R' V,R' 2=ba b0->R' 3=ba b1->R' 4=v4->R' 5=v5->R' 8=.ae (a:Int)->R' 10=.ae t->kb Z W V sb qb (Rs x a n o.ow t) sv->Fr U V sb qb->Ok (K (.exit 2,R',V)) G):Ok (eY (fV (oc aY) R U) K) G:=by
 refine a8 n (by omega) (λj R V=>R 2=ba b0/\R 3=ba b1/\R 4=v4/\R 5=v5/\R 8=.ae (a:Int)/\R 10=.ae t/\R 11=.ae ((a+j:Nat):Int)/\kb Z W V sb qb ((List.range j).foldl (qB o.ow t a) x) sv/\Fr U V sb qb)
  (λr=>r.1=.exit 2/\r.2.1 2=ba b0/\r.2.1 3=ba b1/\r.2.1 4=v4/\r.2.1 5=v5/\r.2.1 8=.ae (a:Int)/\r.2.1 10=.ae t/\kb Z W r.2.2 sb qb (Rs x a n o.ow t) sv/\Fr U r.2.2 sb qb) ⟨r2,r3,r4,r5,r8,my,nZ,h,.refl _ _ _⟩ ?_ ?_ ?_
 ·rintro j R V hj ⟨r2,r3,r4,r5,r8,my,nZ,hR,hF⟩;unfold oc;obtain⟨s1,s2,s3,s4⟩:=zP o.ow t a x (List.range j);have a1:=λW'=>fh W' a n
  have a2:=λW'=>bc W' ((a+j:Nat):Int) 1
  have d1:decide (((a+j:Nat):Int)<(a:Int)+(n:Int))=true:=cd;have k0:=(hF.2 b0 Tu.1 Tu.2.1 Tu.2.2).trans g0;have k1:=(hF.2 b1 As.1 As.2.1 As.2.2).trans g1;have l5:=bx5 k0;have ln:bu (.pointer (some ⟨b1,5,none⟩)) V=some (.ae (n:Int),V):=by rw[<-hn];exact aP (ao k1) rfl
  have low:bu (.pointer (some ⟨b1,1,none⟩)) V=some (.int .u32 o.ow,V):=aP (ao k1) rfl;have ug:(List.range (j+1)).foldl (qB o.ow t a) x=qB o.ow t a ((List.range j).foldl (qB o.ow t a) x) j:=by rw[qW,Bn];rfl
  generalize(List.range j).foldl (qB o.ow t a) x=y at *;have hi:a+j<y.st.length:=by rw[s3];omega
  have LD:=Xs hR.gs hi;have Zj:y.st[a+j]? =some (cr y (a+j)):=by rw[bJ hi];simp[cr,bJ hi]
  have st:=zj (z:=M4 (cr y (a+j)) o.ow t) hR.gs Zj;obtain⟨h5,f5⟩:=hR.stw (a+j) (M4 (cr y (a+j)) o.ow t);simp only[SX,r2,r3,r8,my,nZ,aI,ln,a1,d1,l5,rE (show a+j<x.st.length by omega),LD,low,C6,cV,fJ,fM,st,a2,af];refine .inl ⟨aj,r2,r3,r4,r5,r8,my,by rw[show((a+(j+1):Nat):Int)=((a+j:Nat):Int)+1 by omega];rfl,?_,hF.trans f5⟩;rw[ug];exact h5
 ·rintro R V ⟨r2,r3,r4,r5,r8,my,nZ,hR,hF⟩;unfold oc;have a1:=λW'=>fh W' a n
  have d1:decide (((a+n:Nat):Int)<(a:Int)+(n:Int))=false:=bS;have k1:=(hF.2 b1 As.1 As.2.1 As.2.2).trans g1;have ln:bu (.pointer (some ⟨b1,5,none⟩)) V=some (.ae (n:Int),V):=by rw[<-hn];exact aP (ao k1) rfl
  simp only[SX,r3,r8,nZ,aI,ln,a1,d1,af];exact⟨by simp,aj,r2,r3,r4,r5,r8,my,hR,hF⟩
 ·rintro⟨e,R,V⟩ ⟨rfl,q2,q3,q4,q5,q8,YB,a,b⟩;exact hK R V q2 q3 q4 q5 q8 YB a b
def ZM(h:kb Z W V sb qb x sv)(he:(dn x.v).2=0)(hv:x.v.ax.length<1000)(FH:∀s∈x.v.ax,s.rows.length<1000){k:Nat}(PG:o.sc=(k:Int))(hk:k<x.v.ax.length)(ug:(x.st.length:Int)=bG x.v.ax)(hn:1<=o.n/\o.n<=8)(yx:x.now<9223372036854775808)(aj3:x.v.cL<9223372036854775808):
 ∃V',aY (.func (.func 37) #[] #[]) [ku sb qb x sv,yc o] V=some (.tuple #[ku sb qb (oh x k o.n o.ow) sv,fX (Av x k o.n)],V')/\kb Z W V' sb qb (oh x k o.n o.ow) sv/\Fr V V' sb qb:=by
 have jL:Ok (zu aY (ku sb qb x sv) (yc o) V) λr=>r.1=.tuple #[ku sb qb (oh x k o.n o.ow) sv,fX (Av x k o.n)]/\kb Z W r.2 sb qb (oh x k o.n o.ow) sv/\Fr V r.2 sb qb:=by
  unfold zu;have zB:=h.lo;have aM:=h.le.next;obtain⟨V1,ko⟩:∃V1,V1=((((V.add (.cells (eT x sv (fI sb x.st.length) (lG qb x.qs.length)))).add (.cells (Da o))).add (.cells [.ae 0,.ae 0,.ae 0,.slice none 0 0,.ae 0,.slice none 0 0,.slice none 0 0])).add (.cells (jr gz))):=⟨_,rfl⟩;have F:=f4 V x sv (fI sb x.st.length) (lG qb x.qs.length) o;rw[<-ko]at F;simp only[SX,nO,Cb,AW.av,gV,Nat.reduceAdd];rw[<-ko];clear ko;have h1:=h.mono F.le;have n1:=F.n;have ht:=(BZ he hk).2.2.2.2.2.1;refine acx (n:=x.st.length) (v3:=ba (V.next+1)) (v4:=ba (V.next+2)) (v5:=ba (V.next+3)) rfl (by omega) h1.gs (by omega) F.g0 (by omega) rfl rfl rfl rfl rfl rfl ?_;intro R2 V2 fv l2 q2 q3 q4 q5 q6 q7;have h2:=h1.mono l2;have n2:=l2.next;have JU:Le V V2:=F.le.trans l2;have g0:=(l2.get _ (by omega)).trans F.g0;have g1:=(l2.get _ (by omega)).trans F.g1;have g2:=(l2.get _ (by omega)).trans F.g2;have g3:=(l2.get _ (by omega)).trans F.g3;have l4:dF 4 (ba V.next) V2=some (fH x.v sv,V2):=bz (ao g0) rfl;have lsc:bu (.pointer (some ⟨V.next+1,4,none⟩)) V2=some (.ae (k:Int),V2):=by rw[<-PG];exact aP (ao g1) rfl
  have ln:bu (.pointer (some ⟨V.next+1,5,none⟩)) V2=some (.ae o.n,V2):=aP (ao g1) rfl;have l7:dF 7 (ba V.next) V2=some (ku sb qb x sv,V2):=bz (ao g0) rfl;have akR:bu (.pointer (some ⟨V.next,1,none⟩)) V2=some (.ae x.v.cL,V2):=aP (ao g0) rfl;have wO:((y5 x).length:Int)=bG x.v.ax:=by unfold y5;rw[fj];exact ug
  have Li:=aez (n:=o.n) h2.ax he hv FH hk q7 wO hn;rw[show qQ x.v k o.n (y5 x)=nz x k o.n from rfl]at Li;by_cases c:(nz x k o.n).2=0
  ·have e1:oh x k o.n o.ow=Rs x (nz x k o.n).1.toNat o.n.toNat o.ow (eu x.now x.v.cL):=an c;have e2:Av x k o.n=rpB (nz x k o.n).1 o.n (eu x.now x.v.cL):=an c;rw[e1,e2];have nH:=Qq he hk (show(qQ x.v k o.n (y5 x)).2=0 from c);rw[show qQ x.v k o.n (y5 x)=nz x k o.n from rfl]at nH;have d:=aK c;have ea:(nz x k o.n).1=(((nz x k o.n).1.toNat:Nat):Int):=by omega
   have en:o.n=((o.n.toNat:Nat):Int):=by omega
   have lun:=BB (W:=V2) (val:=ku sb qb x sv) (more:=x.v.cL) rfl yx aj3 (cI _ _) (cI _ _) (cI _ _) (row_one h.sec.1) (cJ _ _ _) (cJ _ _ _);simp only[SX,q2,q3,q6,aI,l4,lsc,ln,Li,d,l7,akR,lun];refine XT (o:=o) (a:=(nz x k o.n).1.toNat) (n:=o.n.toNat) (t:=eu x.now x.v.cL) (b0:=V.next) (b1:=V.next+1) (v4:=ba (V.next+2)) (v5:=ba (V.next+3)) h2 (by omega) (by omega) (by omega) (by omega) g0 g1 en q2 q3 q4 q5 (by rw[<-ea];rfl) rfl (by rw[<-ea];rfl) ?_;intro R3 V3 z2 z3 z4 z5 z8 Th zR zF;obtain⟨s1,s2,s3,s4⟩:=zP o.ow (eu x.now x.v.cL) (nz x k o.n).1.toNat x (List.range o.n.toNat);have hS:Sm x (Rs x (nz x k o.n).1.toNat o.n.toNat o.ow (eu x.now x.v.cL)):=⟨s1,s2,s3,ii List.length s4⟩;have k0:=(zF.2 _ (by omega) (by omega) (by omega)).trans g0;have k1:=(zF.2 _ (by omega) (by omega) (by omega)).trans g1;have k2:=(zF.2 _ (by omega) (by omega) (by omega)).trans g2;have k3:=(zF.2 _ (by omega) (by omega) (by omega)).trans g3;obtain⟨V8,V9,p1,p0,p2,p3,p4,p5⟩:=apN (b2:=V.next+2) (b3:=V.next+3) (V:=V) zR (by omega) (by omega) k2 rfl k3 ((Fr.of_le JU).trans zF) (by omega) hS (rpB (nz x k o.n).1 o.n (eu x.now x.v.cL));have m7:dF 7 (ba V.next) V3=some (ku sb qb x sv,V3):=bz (ao k0) rfl;have mn:bu (.pointer (some ⟨V.next+1,5,none⟩)) V3=some (.ae o.n,V3):=aP (ao k1) rfl;have mn8:bu (.pointer (some ⟨V.next+1,5,none⟩)) V8=some (.ae o.n,V8):=aP (ao ((p0 _ (by omega)).trans k1)) rfl;rw[<-ea]at z8;simp only[SX,z2,z3,z4,z5,z8,Th,aI,m7,mn,acn,p1,mn8,cV,i9,fM,p2,p3,af];exact⟨aj,p4,p5⟩
  ·have e1:oh x k o.n o.ow=x:=aq c;have e2:Av x k o.n=pY (nz x k o.n).2:=aq c;rw[e1,e2];have d:=aJ c;obtain⟨V8,V9,p1,p0,p2,p3,p4,p5⟩:=apN (b2:=V.next+2) (b3:=V.next+3) (V:=V) (x:=x) h2 (by omega) (by omega) g2 rfl g3 (.of_le JU) (by omega) ⟨rfl,rfl,rfl,rfl⟩ (pY (nz x k o.n).2);simp only[SX,q2,q3,q4,q5,q6,aI,l4,lsc,ln,Li,d,l7,km,p1,p2,p3,af];exact⟨aj,p4,p5⟩
 obtain⟨⟨v,V2⟩,k1,rfl,k2⟩:=jL;exact⟨V2,by rw[Ks k1,jx (by simp[bN,eI,cC])],k2⟩
end
end Go.Proofs.YtmaoneengdafhaaGreatDoor
