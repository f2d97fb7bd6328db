/- A part: contracts and laws. -/
import Derived.Test.YtekljimefjclgaaGreatDoorPartC
set_option linter.unusedVariables false
set_option linter.unusedSimpArgs false
set_option linter.unusedSectionVars false
set_option linter.defProp false
noncomputable section
open Go renaming TypeId->ah,Value->ae,World->ap,undef->ai
set_option maxRecDepth 100000
namespace Go.Proofs.YtekljimefjclgaaGreatDoor
open Go Go.Eng
def XX:bi ai false=false:=aL rfl rfl
def wu2:bi ai true=false:=aL rfl rfl
def pEq(b:Nat)(c d:Bool)(W:AW):az Tryz.prog .eql 123 c d (dd b) (.pointer none) W=some (.bool false,W):=aL (by kernel_rfl) rfl
def ad0(c d:Bool)(W:AW):az Tryz.prog .eql 123 c d (.pointer none) (.pointer none) W=some (.bool true,W):=aL (by kernel_rfl) rfl
def pNe(b:Nat)(c d:Bool)(W:AW):az Tryz.prog .neq 123 c d (dd b) (.pointer none) W=some (.bool true,W):=aL (by kernel_rfl) rfl
def Ir(c d:Bool)(W:AW):az Tryz.prog .neq 123 c d (.pointer none) (.pointer none) W=some (.bool false,W):=aL (by kernel_rfl) rfl
def TH:Tryz.prog.underlying 91=some (.map 3 123):=by kernel_rfl
def UR:Tryz.prog.underlying 92=some (.map 3 3):=by kernel_rfl
def Wu:iu Tryz.prog 123=some (.pointer none):=by kernel_rfl
def tz3:iu Tryz.prog 3=some (.af 0):=by kernel_rfl
abbrev zz(v:ce)(sv ev cv:ae)(mo ml:Nat)(tn st at_:Int):List ae:=[.af v.sh,.af v.CL,.af v.CQ,sv,ev,cv,.map (some mo),.map (some ml),.af tn,.af st,.af at_]
abbrev eY:List ae:=[.nilFunc,.func (.func 48) #[] #[],.func (.func 49) #[] #[],.func (.func 50) #[] #[],.func (.func 51) #[] #[],.func (.func 52) #[] #[],.func (.func 53) #[] #[]]
structure fM (V U:AW) (v:ce) (sv ev:ae) (s:RS) (at_:Int) (cv:ae) (bo:Option Nat) (pb:Int->Nat):Prop where
 le:Le V U
 nx:V.next+5<=U.next
 w:U.get (V.next+2)=some (.cells (zz v sv ev cv V.next (V.next+1) s.tn s.st at_))
 r:U.get (V.next+4)=some (.cells eY)
 c:mV U 26 gT cv s.cl bo
 o:∃n,ni U V.next (λk=>(s.of k).map λ_=>dd (pb k)) n
 l:∃n,ni U (V.next+1) (λk=>(s.lk k).map (Value.int .i64)) n
 p:∀k o,s.of k=some o->V.next+5<=pb k/\pb k<U.next/\bo≠some (pb k)/\U.get (pb k)=some (.cells [.af (o.c:Int),.af (o.s:Int),.bool o.e])
 b:∀B,bo=some B->V.next+5<=B
 inj:∀k k' o o',s.of k=some o->s.of k'=some o'->pb k=pb k'->k=k'
section
variable {V U U':AW} {v:ce} {sv ev cv:ae} {s:RS} {at_:Int} {bo:Option Nat} {pb:Int->Nat}
def fM.mono(h:fM V U v sv ev s at_ cv bo pb)(bk:Le U U'):fM V U' v sv ev s at_ cv bo pb:=by
 have hn:=h.nx;have zP:=bk.next;obtain⟨n,ho⟩:=h.o;obtain⟨m,hl⟩:=h.l
 exact⟨h.le.trans bk,by omega,(bk.get _ (by omega)).trans h.w,(bk.get _ (by omega)).trans h.r,h.c.dD zP λB hB=>bk.get B (h.c.lt hB),⟨n,ho.dD (bk.get _ (by omega))⟩,⟨m,hl.dD (bk.get _ (by omega))⟩,
  λk o hk=>let⟨a,b,c,d⟩:=h.p k o hk;⟨a,by omega,c,(bk.get _ b).trans d⟩,h.b,h.inj⟩
def fM.put(h:fM V U v sv ev s at_ cv bo pb)(tn st a:Int):fM V (U.put (V.next+2) (.cells (zz v sv ev cv V.next (V.next+1) tn st a))) v sv ev {s with tn:=tn,st:=st} a cv bo pb:=by have hn:=h.nx;obtain⟨n,ho⟩:=h.o;obtain⟨m,hl⟩:=h.l;refine⟨h.le.put (by omega) _,by rw[AW.cu];omega,AW.bH _ _ _,(AW.aE _ _ (by omega)).trans h.r,h.c.dD (aS _) λB hB=>AW.aE _ _ (by have:=h.b B hB;omega),⟨n,ho.dD (AW.aE _ _ (by omega))⟩,⟨m,hl.dD (AW.aE _ _ (by omega))⟩,λk o hk=>?_,h.b,h.inj⟩;obtain⟨a,b,c,d⟩:=h.p k o hk;exact⟨a,b,c,(AW.aE _ _ (by omega)).trans d⟩
def fM.ld(h:fM V U v sv ev s at_ cv bo pb):aY (.pointer (some ⟨V.next+2,5,none⟩)) U=some (cv,U)/\aY (.pointer (some ⟨V.next+2,6,none⟩)) U=some (.map (some V.next),U)/\aY (.pointer (some ⟨V.next+2,7,none⟩)) U=some (.map (some (V.next+1)),U)/\aY (.pointer (some ⟨V.next+2,8,none⟩)) U=some (.af s.tn,U)/\aY (.pointer (some ⟨V.next+2,9,none⟩)) U=some (.af s.st,U)/\aY (.pointer (some ⟨V.next+2,10,none⟩)) U=some (.af at_,U)/\b9 4 (dd (V.next+2)) U=some (jA v sv,U):=
 ⟨jE h.w rfl,jE h.w rfl,jE h.w rfl,jE h.w rfl,jE h.w rfl,jE h.w rfl,fJ (bw h.w) rfl⟩
def fM.look(h:fM V U v sv ev s at_ cv bo pb)(k:Int):fO Tryz.prog 91 (.map (some V.next)) (.af k) false U=some (((s.of k).map λ_=>dd (pb k)).getD (.pointer none),U):=by obtain⟨n,ho⟩:=h.o;exact Ow ho TH Tryz.underlying3 Wu k
def fM.WA(h:fM V U v sv ev s at_ cv bo pb)(k:Int):fO Tryz.prog 92 (.map (some (V.next+1))) (.af k) true U=some (.tuple #[((s.lk k).map (Value.int .i64)).getD (.af 0),.bool (s.lk k).isSome],U):=by obtain⟨n,hl⟩:=h.l;have:=IK hl UR Tryz.underlying3 tz3 k;rw[this];cases s.lk k<;>rfl
def fM.call(h:fM V U v sv ev s at_ cv bo pb){c:Nat}(hc:c<s.cl.length):
 ∃B,bo=some B/\B<U.next/\U.get B=some (.cells (s.cl.flatMap gT))/\(∀W' kk,j0 26 cv (.int kk (c:Int)) W'=some (.pointer (some ⟨B,c*26,none⟩),W')):=by
 rcases h.c with⟨e,-⟩|⟨h0,B,h1,h2,h3,h4⟩
 ·rw[e]at hc;cases hc
 ·exact⟨B,h1,h2,h4,λW' kk=>by rw[h3,BS (by omega),aU]⟩
end
def xN{m:List lJ}{i:Nat}(hi:i<=m.length):((m.take i).flatMap gT).length=i*26:=by rw[bS eX,dR,mG hi]
def tu{m:List lJ}{i:Nat}(hi:i<m.length)(y:lJ):(m.set i y).flatMap gT=(m.take i).flatMap gT++(gT y++(m.drop (i+1)).flatMap gT):=by rw[Bj,ax hi,fH,ly]
def mW{m:List lJ}{i:Nat}(hi:i<m.length):m.flatMap gT=(m.take i).flatMap gT++(gT m[i]++(m.drop (i+1)).flatMap gT):=by have h:=tu hi m[i];rwa [List.set_getElem_self]at h
def xi{s:RS}{c:Nat}(hc:c<s.cl.length):a6 s c=s.cl[c]:=by simp[a6,List.getD,hc]
def Ta{s:RS}{U:AW}{B c:Nat}(hB:U.get B=some (.cells (s.cl.flatMap gT)))(hc:c<s.cl.length)(j:Nat)(hj:j<26):aY (.pointer (some ⟨B,c*26+j,none⟩)) U=((gT (a6 s c))[j]?).bind λx=>some (x,U):=by
 have e:(s.cl.flatMap gT)[c*26+j]? =(gT (a6 s c))[j]? :=by rw[xi hc,mW hc,<-xN (m:=s.cl) (i:=c) (by omega),ir (by omega),w5,o6 (by rw[eX];omega)]
 have fy:j<(gT (a6 s c)).length:=by rw[eX];omega
 rw[cx fy]at e|-;exact jE hB e
def qE{s:RS}{U:AW}{B c:Nat}(hB:U.get B=some (.cells (s.cl.flatMap gT)))(hc:c<s.cl.length):
 aY (.pointer (some ⟨B,c*26,none⟩)) U=some (.af (a6 s c).id,U)/\b9 12 (.pointer (some ⟨B,c*26+2,none⟩)) U=some (KH (a6 s c).op,U)/\b9 26 (.pointer (some ⟨B,c*26,none⟩)) U=some (clV (a6 s c),U):=by
 have e0:((s.cl.flatMap gT).drop (c*26)).take 26=gT (a6 s c):=by rw[xi hc,mW hc,<-xN (m:=s.cl) (i:=c) (by omega),List.drop_left,<-eX s.cl[c],tj]
 refine⟨Ta hB hc 0 (by omega),?_,?_⟩
 ·have e2:((s.cl.flatMap gT).drop (c*26+2)).take 12=((gT (a6 s c)).drop 2).take 12:=by rw[<-e0,List.drop_take,oe,tC];rfl
  have:=fJ (n:=12) (o:=c*26+2) (bw hB) (by rw[e2];rfl);rw[e2]at this;exact this
 ·have:=fJ (n:=26) (o:=c*26) (bw hB) (by rw[e0];rfl);rw[e0]at this;exact this
def kP(s:RS)(x:cC):Int:=if x.k=1 then 0 else match s.of x.wk with
 |none=>4
 |some o=>if(a6 s o.c).id≠x.id then 4 else 0
open Classical in
noncomputable def dY(v:ce)(s:RS)(x:cC):Int:=
 if x.k=1 then
  (if(s.of x.wk).isSome=true then 8 else if s.cl.length=200 then 3 else if x.id≠(s.cl.length:Int)+1 then 6 else XW x.op)
 else match s.of x.wk with
  |none=>4
  |some o=>
   if x.k=5 then(if(o.s:Int)<(nP v (a6 s o.c).op).1 then 6 else 0)else
   if x.k=6 then(if ES (a6 s o.c) o x.en then 0 else 6)else
   if i6 v (a6 s o.c).op o.s≠((iw x.k,x.lk),0)then 6 else
   if x.k=2/\(s.lk x.lk).isSome=true then 20 else 0
def UH(v:ce)(s:RS)(x:cC):zw v s x=if dO s x≠0 then dO s x else if kP s x≠0 then kP s x else dY v s x:=by
 unfold zw kP dY;by_cases c1:x.k=1
 ·simp only[ax c1,ne_eq,not_true_eq_false,cE]
 ·simp only[ay c1];cases s.of x.wk with
  |none=>simp
  |some o=>
   simp only;by_cases c2:(a6 s o.c).id≠x.id
   ·simp[ax c2]
   ·simp only[ay c2,ne_eq,not_true_eq_false,cE]
def JS(s:RS)(x:cC):RS:={s with tn:=x.tn,st:=if oW x=true then x.tn else s.st}
section
variable {V U:AW} {v:ce} {sv ev cv:ae} {s:RS} {at_:Int} {bo:Option Nat} {pb:Int->Nat} {x:cC} {b b2:Nat}
def Yk(h:fM V U v sv ev s at_ cv bo pb)(hI:lN s)(hb:U.get b=some (.cells (eA x))):eI bD (dd (V.next+2)) (dd b) U=some (.af (kP s x),U):=by
 unfold eI;obtain⟨l5,l6,l7,l8,l9,RJ,-⟩:=h.ld;have lk:=h.look x.wk;have lx:=Di hb;have lw:=iq hb;have li:=pd hb;unfold kP;by_cases c1:x.k=1
 ·have d1:=br c1;simp only[SX,aT,aU,l6,lw,lk,lx,d1,XX,ax c1]
 ·have d1:=bK c1;cases ho:s.of x.wk with
  |none=>rw[ho]at lk;simp only[Option.map_none,Option.getD_none]at lk;simp only[SX,aT,aU,l6,lw,lk,lx,d1,ad0,ay c1]
  |some o=>
   rw[ho]at lk;simp only[bR,nO]at lk;obtain⟨p1,p2,p3,p4⟩:=h.p _ _ ho;have pa:=hI.of _ _ ho;obtain⟨B,-,-,hB,OA⟩:=h.call pa;obtain⟨f1,-,-⟩:=qE hB pa;have lp:aY (dd (pb x.wk)) U=some (.af (o.c:Int),U):=jE p4 rfl;by_cases c2:(a6 s o.c).id=x.id
   ·have d2:=br c2;simp only[SX,aT,aU,l6,l5,lw,lk,lx,li,d1,pEq,lp,OA,dA,f1,ay c1,ne_eq,c2,not_true_eq_false,cE]
   ·have d2:=bK c2;simp only[SX,aT,aU,l6,l5,lw,lk,lx,li,d1,pEq,lp,OA,dA,f1,ay c1,ne_eq,c2,not_false_eq_true,bc]
open Classical in
def adh(h:fM V U v sv ev s at_ cv bo pb)(hI:lN s)(hb:U.get b=some (.cells (eA x)))(gW:U.get b2=some (.cells (eA (iW x))))(hbV:V.next+5<=b)(hk:1<=x.k/\x.k<=6):
 ∃U',bT bD (dd (V.next+2)) (dd b) (dd b2) (.bool (oW x)) U=some (.af (if dO s x≠0 then dO s x else kP s x),U')/\U'.next=U.next/\(∀d,d≠V.next+2->U'.get d=U.get d)/\(dO s x≠0->U'=U)/\(dO s x=0->fM V U' v sv ev (JS s x) at_ cv bo pb):=by
 unfold bT;obtain⟨l5,l6,l7,l8,l9,RJ,-⟩:=h.ld;have lx:=nH hb;have lb:=nH gW;have lt:=CF hb;have lw:=iq hb;have ne:=λU'=>Xk x (iW x) false false U'
 have hE:=dO.eq_1 s x;rw[bX]at hE;by_cases c1:x=iW x;case neg=>rw[ax c1]at hE;have d1:decide (x=iW x)=false:=bK c1;simp only[SX,lx,lb,ne,d1];exact⟨U,by rw[hE];rfl,rfl,λ_ _=>rfl,λ_=>rfl,λe=>by rw[hE]at e;exact absurd e (by decide)⟩
 rw[ay (by simpa using c1)]at hE;have d1:decide (x=iW x)=true:=br c1;by_cases c2:x.tn<0\/1000000000<x.tn\/x.wk<1\/64<x.wk
 ·rw[ax c2]at hE;refine⟨U,?_,rfl,λ_ _=>rfl,λ_=>rfl,λe=>by rw[hE]at e;exact absurd e (by decide)⟩;rw[hE];by_cases e1:x.tn<0
  ·have q1:=br e1;simp only[SX,lx,lb,ne,d1,aU,lt,q1];rfl
  have q1:=bK e1;by_cases e2:1000000000<x.tn
  ·have q2:=br e2;simp only[SX,lx,lb,ne,d1,aU,lt,q1,q2];rfl
  have q2:=bK e2;by_cases e3:x.wk<1
  ·have q3:=br e3;simp only[SX,lx,lb,ne,d1,aU,lt,lw,q1,q2,q3];rfl
  have q3:=bK e3;have q4:decide (64<x.wk)=true:=lV;simp only[SX,lx,lb,ne,d1,aU,lt,lw,q1,q2,q3,q4];rfl
 rw[ay c2]at hE;have q1:decide (x.tn<0)=false:=fF;have q2:decide (1000000000<x.tn)=false:=fF;have q3:decide (x.wk<1)=false:=fF;have q4:decide (64<x.wk)=false:=fF;by_cases c3:x.tn<s.tn
 ·have d3:=br c3;rw[ax (.inl c3)]at hE;refine⟨U,?_,rfl,λ_ _=>rfl,λ_=>rfl,λe=>by rw[hE]at e;exact absurd e (by decide)⟩;rw[hE];simp only[SX,lx,lb,ne,d1,aU,lt,lw,q1,q2,q3,q4,aT,l8,d3,wu2];rfl
 have d3:=bK c3;have WV:cS 1 (.pointer (some ⟨V.next+2,8,none⟩)) (.af x.tn) U=some (ai,U.put (V.next+2) (.cells (zz v sv ev cv V.next (V.next+1) x.tn s.st at_))):=by rw[kw,gb h.w];rfl
 have h1:=h.put x.tn s.st at_;have HN:V.next+2≠b:=by omega
 have KP:(U.put (V.next+2) (.cells (zz v sv ev cv V.next (V.next+1) x.tn s.st at_))).get b=some (.cells (eA x)):=(AW.aE _ _ HN).trans hb;cases Cn:oW x with
 |true=>
  by_cases c4:x.tn<=s.st
  ·have d4:=br c4;rw[ax (.inr ⟨Cn,c4⟩)]at hE;refine⟨U,?_,rfl,λ_ _=>rfl,λ_=>rfl,λe=>by rw[hE]at e;exact absurd e (by decide)⟩;rw[hE];simp only[SX,lx,lb,ne,d1,aU,lt,lw,q1,q2,q3,q4,aT,l8,l9,d3,d4];rfl
  have d4:=bK c4;rw[ay (by rintro(e|⟨-,e⟩);exact c3 e;exact c4 e)]at hE;have lt1:=CF KP;have st9:cS 1 (.pointer (some ⟨V.next+2,9,none⟩)) (.af x.tn) (U.put (V.next+2) (.cells (zz v sv ev cv V.next (V.next+1) x.tn s.st at_)))=some (ai,(U.put (V.next+2) (.cells (zz v sv ev cv V.next (V.next+1) x.tn s.st at_))).put (V.next+2) (.cells (zz v sv ev cv V.next (V.next+1) x.tn x.tn at_))):=by rw[kw,gb h1.w];rfl
  have h2:=h1.put x.tn x.tn at_;have BA:=(AW.aE (W:=U.put (V.next+2) (.cells (zz v sv ev cv V.next (V.next+1) x.tn s.st at_))) (o:=.cells (zz v sv ev cv V.next (V.next+1) x.tn x.tn at_)) HN).trans KP;have J:=Yk h2 ⟨hI.ids,hI.of,hI.len,hI.wk,hI.steps⟩ BA;obtain⟨U2,kg⟩:∃U2,U2=(U.put (V.next+2) (.cells (zz v sv ev cv V.next (V.next+1) x.tn s.st at_))).put (V.next+2) (.cells (zz v sv ev cv V.next (V.next+1) x.tn x.tn at_)):=⟨_,rfl⟩;rw[<-kg]at J h2 st9;refine⟨U2,?_,by rw[kg];rfl,λd hd=>by rw[kg];(try rw[AW.aE _ _ (bL hd)]);exact AW.aE _ _ (bL hd),λe=>absurd hE e,λ_=>?_⟩
  ·rw[hE];simp only[SX,lx,lb,ne,d1,aU,lt,lw,q1,q2,q3,q4,aT,l8,l9,d3,d4,WV,lt1,st9];exact J
  ·have e:JS s x={{s with tn:=x.tn,st:=s.st}with tn:=x.tn,st:=x.tn}:=by unfold JS;rw[ax Cn]
   rw[e];exact h2
 |false=>
  rw[ay (by rintro(e|⟨e,-⟩);exact c3 e;rw[Cn]at e;cases e)]at hE;have J:=Yk h1 ⟨hI.ids,hI.of,hI.len,hI.wk,hI.steps⟩ KP;obtain⟨U2,kg⟩:∃U2,U2=U.put (V.next+2) (.cells (zz v sv ev cv V.next (V.next+1) x.tn s.st at_)):=⟨_,rfl⟩;rw[<-kg]at J h1 WV;refine⟨U2,?_,by rw[kg];rfl,λd hd=>by rw[kg];exact AW.aE _ _ (bL hd),λe=>absurd hE e,λ_=>?_⟩
  ·rw[hE];simp only[SX,lx,lb,ne,d1,aU,lt,lw,q1,q2,q3,q4,aT,l8,d3,WV];exact J
  ·have e:JS s x={s with tn:=x.tn,st:=s.st}:=by unfold JS;rw[ay (by rw[Cn];decide)]
   rw[e];exact h1
end
def Eu:∀{l l':List (Int×ae×Nat)},mw l=mw l'->l=l'
 |[],[],_=>rfl
 |[],_::_,h=>by simp[mw]at h
 |_::_,[],h=>by simp[mw]at h
 |(a,b,c)::l,(a',b',c')::l',h=>by simp only[mw,iN,List.cons.injEq]at h;have h2:l=l':=Eu h.2;have h1:=h.1;simp at h1;rw[h2,h1.1,h1.2.1,h1.2.2]
def LN{W W':AW}{r n n':Nat}{m m':Int->Option ae}(h:ni W r m n)(h':ni W' r m' n')(hg:W'.get r=W.get r)(k:Int):m k=m' k:=by obtain⟨l,c,h1,-,-,h4⟩:=h;obtain⟨l',c',k1,-,-,k4⟩:=h';rw[hg,h1]at k1;injection k1 with k1;injection k1 with k1 k2;have:=Eu k1;subst this;rw[<-h4,<-k4]
def Qc{a b:Nat}(h:dd a=dd b):a=b:=by injection h with h;injection h with h;injection h
section
variable {V U U':AW} {v:ce} {sv ev cv wE:ae} {s s':RS} {at_ UG:Int} {bo VW:Option Nat} {pb Fm:Int->Nat} {x:cC} {b b2:Nat}
def fM.back(h:fM V U v sv ev s at_ cv bo pb)(h':fM V U' v sv ev s' UG wE VW Fm)(bk:Le U U'):fM V U v sv ev s' UG wE VW Fm:=by
 have hn:=h.nx;have gw:=bk.get (V.next+2) (by omega);have hw:U.get (V.next+2)=some (.cells (zz v sv ev wE V.next (V.next+1) s'.tn s'.st UG)):=gw.symm.trans h'.w;have ecv:cv=wE:=by have e:=h.w.symm.trans hw;injection e with e;injection e with e;simp only[List.cons.injEq]at e;exact e.2.2.2.2.2.1
 subst ecv;obtain⟨n',fP⟩:=h'.o;obtain⟨m',D6⟩:=h'.l;obtain⟨n,ho⟩:=h.o;have hpb:∀k o,s'.of k=some o->∃o0,s.of k=some o0/\pb k=Fm k:=λk o hk=>by
  have:=LN ho fP (bk.get _ (by omega)) k;simp only[hk,bR]at this;cases e:s.of k with
  |none=>rw[e]at this;cases this
  |some o0=>rw[e]at this;simp only[bR,fb]at this;exact⟨o0,rfl,Qc this⟩
 refine⟨h.le,hn,hw,h.r,?_,⟨n',fP.dD (bk.get _ (by omega)).symm⟩,⟨m',D6.dD (bk.get _ (by omega)).symm⟩,λk o hk=>?_,h'.b,h'.inj⟩
 ·rcases h'.c with hc|⟨h0,B,h1,h2,h3,h4⟩
  ·exact .inl hc
  ·have hB:B<U.next:=by
    rcases h.c with⟨-,e,-⟩|⟨-,B0,-,k2,k3,-⟩
    ·rw[h3]at e;cases e
    ·rw[h3]at k3;injection k3 with k3;injection k3 with k3;injection k3 with k3;omega
   exact .inr ⟨h0,B,h1,hB,h3,(bk.get B hB).symm.trans h4⟩
 ·obtain⟨o0,e1,e2⟩:=hpb k o hk;obtain⟨a,b,c,d⟩:=h'.p k o hk;have fy:=(h.p k o0 e1).2.1;rw[e2]at fy;exact⟨a,fy,c,(bk.get _ fy).symm.trans d⟩
noncomputable def vF(s:RS)(x:cC):Int:=if dO s x≠0 then dO s x else kP s x
def xv(h:fM V U v sv ev s at_ cv bo pb)(hI:lN s)(hU:Le U U')(hb:U'.get b=some (.cells (eA x)))(gW:U'.get b2=some (.cells (eA (iW x))))(hbU:U.next<=b)(hk:1<=x.k/\x.k<=6):
 Ok (bT bD (dd (V.next+2)) (dd b) (dd b2) (.bool (oW x)) U') λr=>r.1=.af (vF s x)/\Le V r.2/\U.next<=r.2.next/\(∀d,d<U.next->d≠V.next+2->r.2.get d=U.get d)/\(dO s x≠0->Le U r.2)/\(dO s x=0->fM V r.2 v sv ev (JS s x) at_ cv bo pb):=by
 have h1:=h.mono hU;obtain⟨U2,k1,k2,k5,k3,k4⟩:=adh h1 hI hb gW (by have:=h.nx;omega) hk;rw[k1];refine aq.2 ⟨rfl,?_,by have:=hU.next;show U.next<=U2.next;omega,λd h1 h2=>(k5 d h2).trans (hU.get d h1),λe=>by rw[k3 e];exact hU,k4⟩;by_cases c:dO s x=0
 ·exact(k4 c).le
 ·rw[k3 c];exact h1.le
def aeq{W:AW}{b:Nat}{e:cC}(h:W.get b=some (.cells (eA e)))(o:t8):cS 12 (.pointer (some ⟨b,5,none⟩)) (KH o) W=some (ai,W.put b (.cells (eA {e with op:=o}))):=by rw[uF (n:=12) (o:=5) (v:=KH o) h rfl (by show 5+12<=31;omega) rfl];rfl
def st9{W:AW}{b:Nat}{e:cC}(h:W.get b=some (.cells (eA e)))(r:FV):cS 9 (.pointer (some ⟨b,17,none⟩)) (OF r) W=some (ai,W.put b (.cells (eA {e with rp:=r}))):=by rw[uF (n:=9) (o:=17) (v:=OF r) h rfl (by show 17+9<=31;omega) rfl];rfl
def st5{W:AW}{b:Nat}{e:cC}(h:W.get b=some (.cells (eA e)))(g:Jn):cS 5 (.pointer (some ⟨b,26,none⟩)) (VL g) W=some (ai,W.put b (.cells (eA {e with en:=g}))):=by rw[uF (n:=5) (o:=26) (v:=VL g) h rfl (by show 26+5<=31;omega) rfl];rfl
def Z0{W:AW}{b:Nat}{e:cC}(h:W.get b=some (.cells (eA e)))(n:Int):cS 1 (.pointer (some ⟨b,4,none⟩)) (.af n) W=some (ai,W.put b (.cells (eA {e with lk:=n}))):=by rw[kw,gb h];rfl
def FB(h:fM V U v sv ev s at_ cv bo pb)(hI:lN s)(x:cC):
 ∃U',bD (.func (.func 35) #[] #[]) [dd (V.next+2),zI x] U=some (.af (vF s x),U')/\Le V U'/\U.next<=U'.next/\(∀d,d<U.next->d≠V.next+2->U'.get d=U.get d)/\(dO s x=0->fM V U' v sv ev (JS s x) at_ cv bo pb):=by
 have nK:Ok (iJ bD (dd (V.next+2)) (zI x) U) λr=>r.1=.af (vF s x)/\Le V r.2/\U.next<=r.2.next/\(∀d,d<U.next->d≠V.next+2->r.2.get d=U.get d)/\(dO s x≠0->Le U r.2)/\(dO s x=0->fM V r.2 v sv ev (JS s x) at_ cv bo pb):=by
  unfold iJ;obtain⟨U1,ki⟩:∃U1,U1=U.add (.cells (eA x)):=⟨_,rfl⟩;have l1:Le U U1:=by rw[ki];exact(Le.refl _).add _
  have n1:U1.next=U.next+1:=by rw[ki];rfl
  have hb:U1.get U.next=some (.cells (eA x)):=by rw[ki];exact AW.bf _ _
  have bx:=vC x U;rw[<-ki]at bx;have lk:=Di hb;have hE:=dO.eq_1 s x;have hC:vF s x=if dO s x≠0 then dO s x else kP s x:=rfl
  by_cases c1:x.k<1
  ·have d1:=br c1;rw[ax (.inl c1)]at hE;simp only[SX,bx,lk,d1,aq];refine⟨by rw[hC,hE];rfl,h.le.trans l1,by omega,λd hd _=>l1.get d hd,λ_=>l1,λe=>by rw[hE]at e;exact absurd e (by decide)⟩
  have d1:=bK c1;by_cases c2:6<x.k
  ·have d2:=br c2;rw[ax (.inr c2)]at hE;simp only[SX,bx,lk,d1,d2,aq];refine⟨by rw[hC,hE];rfl,h.le.trans l1,by omega,λd hd _=>l1.get d hd,λ_=>l1,λe=>by rw[hE]at e;exact absurd e (by decide)⟩
  have d2:=bK c2;have hk:1<=x.k/\x.k<=6:=by omega
  obtain⟨U2,kg⟩:∃U2,U2=U1.add (.cells (eA ⟨x.k,x.tn,x.wk,x.id,0,Fu,Aa,Bg⟩)):=⟨_,rfl⟩;have l2:Le U1 U2:=by rw[kg];exact(Le.refl _).add _
  have gW:U2.get U1.next=some (.cells (eA ⟨x.k,x.tn,x.wk,x.id,0,Fu,Aa,Bg⟩)):=by rw[kg];exact AW.bf _ _
  have pt:=L4 ⟨x.k,x.tn,x.wk,x.id,0,Fu,Aa,Bg⟩ U1;rw[<-kg]at pt;have CI:U2.get U.next=some (.cells (eA x)):=(l2.get _ (by omega)).trans hb;have oL:=l1.trans l2;have O4:∀c,Le U (U2.put U1.next c):=λc=>oL.put (by omega) _
  have BA:∀c,(U2.put U1.next c).get U.next=some (.cells (eA x)):=λc=>(AW.aE _ _ (by omega)).trans CI
  have lo:=Bc CI;have lr:=F4 CI;have lg:=Gi CI;have ll:=vl CI;have lk2:=Di CI;simp only[SX,bx,lk,d1,d2,aU,CF hb,iq hb,pd hb,Vh,TZ,pt,lk2];by_cases e1:x.k=1
  ·have q:=br e1;have eb:eA (iW x)=eA {(⟨x.k,x.tn,x.wk,x.id,0,Fu,Aa,Bg⟩:cC)with op:=x.op}:=by unfold iW;simp[e1]
   have eo:oW x=false:=by unfold oW;simp[e1]
   have G:=xv (b2:=U1.next) h hI (O4 _) (BA (.cells (eA {(⟨x.k,x.tn,x.wk,x.id,0,Fu,Aa,Bg⟩:cC)with op:=x.op}))) (by rw[eb];exact AW.bH _ _ _) (aS _) hk;rw[eo]at G;simp only[SX,q,lo,aeq gW];exact G
  have q1:=bK e1;by_cases e3:x.k=3
  ·have q:=br e3;have eb:eA (iW x)=eA {(⟨x.k,x.tn,x.wk,x.id,0,Fu,Aa,Bg⟩:cC)with rp:=x.rp}:=by unfold iW;simp[e3]
   have eo:oW x=true:=by unfold oW;simp[e3]
   have G:=xv (b2:=U1.next) h hI (O4 _) (BA (.cells (eA {(⟨x.k,x.tn,x.wk,x.id,0,Fu,Aa,Bg⟩:cC)with rp:=x.rp}))) (by rw[eb];exact AW.bH _ _ _) (aS _) hk;rw[eo]at G;simp only[SX,q1,q,lr,st9 gW];exact G
  have q3:=bK e3;by_cases e24:x.k=2\/x.k=4
  ·have eb:eA (iW x)=eA {(⟨x.k,x.tn,x.wk,x.id,0,Fu,Aa,Bg⟩:cC)with lk:=x.lk}:=by unfold iW;rw[ax e24,ay e1,ay e3,bX]
   have eo:oW x=true:=by unfold oW;rcases e24 with e|e<;>simp[e]
   have G:=xv (b2:=U1.next) h hI (O4 _) (BA (.cells (eA {(⟨x.k,x.tn,x.wk,x.id,0,Fu,Aa,Bg⟩:cC)with lk:=x.lk}))) (by rw[eb];exact AW.bH _ _ _) (aS _) hk;rw[eo]at G;rcases e24 with e|e
   ·have q:=br e;simp only[SX,q1,q3,q];unfold dv;simp only[SX,aU,ll,Z0 gW];exact G
   ·have q:=br e;have q2:decide (x.k=2)=false:=fF;simp only[SX,q1,q3,q2,q];unfold dv;simp only[SX,aU,ll,Z0 gW];exact G
  have q2:decide (x.k=2)=false:=fF;have q4:decide (x.k=4)=false:=fF;have eo:oW x=false:=by unfold oW;simp;omega
  simp only[SX,q1,q3,q2,q4];unfold dv;by_cases e6:x.k=6
  ·have q:=br e6;have eb:eA (iW x)=eA {(⟨x.k,x.tn,x.wk,x.id,0,Fu,Aa,Bg⟩:cC)with en:=x.en}:=by unfold iW;simp[e6]
   have G:=xv (b2:=U1.next) h hI (O4 _) (BA (.cells (eA {(⟨x.k,x.tn,x.wk,x.id,0,Fu,Aa,Bg⟩:cC)with en:=x.en}))) (by rw[eb];exact AW.bH _ _ _) (aS _) hk;rw[eo]at G;simp only[SX,q,aU,lg,st5 gW];exact G
  ·have q:=bK e6;have e5:x.k=5:=by omega
   have eb:eA (iW x)=eA (⟨x.k,x.tn,x.wk,x.id,0,Fu,Aa,Bg⟩:cC):=by unfold iW;simp[e5]
   have G:=xv (b2:=U1.next) h hI oL CI (by rw[eb];exact gW) (aS _) hk;rw[eo]at G;simp only[SX,q];exact G
 obtain⟨q,W',h1,rfl,h2,h5,h6,h3,h4⟩:=sD (Q:=λq W'=>q=.af (vF s x)/\Le V W'/\U.next<=W'.next/\(∀d,d<U.next->d≠V.next+2->W'.get d=U.get d)/\(dO s x≠0->Le U W')/\(dO s x=0->fM V W' v sv ev (JS s x) at_ cv bo pb)) nK pq
  (λq W' ⟨e,a,_,_,b,c⟩ bk hp=>⟨e,h.le,aS _,λ_ _ _=>rfl,λ_=>.refl _,λhe=>h.back (c he) bk⟩)
 exact⟨W',h1,h2,h5,h6,h4⟩
end
def RS.Ot(s:RS)(w:Int)(o:fY):RS:={s with of:=λk=>if k=w then some o else s.of k}
def j6(o:fY):fY:=⟨o.c,o.s+1,o.e⟩
section
variable {Z V U U':AW} {v:ce} {sv ev cv:ae} {s:RS} {at_:Int} {bo:Option Nat} {pb:Int->Nat} {x:cC} {o:fY}
def fM.YA(h:fM V U v sv ev s at_ cv bo pb){k:Int}(ho:s.of k=some o)(o':fY):fM V (U.put (pb k) (.cells [.af (o'.c:Int),.af (o'.s:Int),.bool o'.e])) v sv ev (s.Ot k o') at_ cv bo pb:=by
 have hn:=h.nx;obtain⟨n,hm⟩:=h.o;obtain⟨m,hl⟩:=h.l;obtain⟨p1,p2,p3,p4⟩:=h.p _ _ ho;have em:(λw=>((s.Ot k o').of w).map λ_=>dd (pb w))=λw=>(s.of w).map λ_=>dd (pb w):=by
  funext w;unfold RS.Ot;simp only;split
  ·rename_i e;subst e;rw[ho];rfl
  ·rfl
 refine⟨h.le.put (by omega) _,by rw[AW.cu];omega,(AW.aE _ _ (by omega)).trans h.w,(AW.aE _ _ (by omega)).trans h.r,h.c.dD (aS _) λB hB=>AW.aE _ _ (λe=>p3 (by rw[hB,e])),⟨n,by rw[em];exact hm.dD (AW.aE _ _ (by omega))⟩,⟨m,hl.dD (AW.aE _ _ (by omega))⟩,λw q hq=>?_,h.b,λw w' q q' hq WN=>?_⟩
 ·unfold RS.Ot at hq;simp only at hq;split at hq
  ·rename_i e;subst e;injection hq with hq;subst hq;exact⟨p1,p2,p3,AW.bH _ _ _⟩
  ·rename_i e;obtain⟨a,b,c,d⟩:=h.p _ _ hq;exact⟨a,b,c,(AW.aE _ _ (λe2=>e (h.inj _ _ _ _ hq ho e2.symm))).trans d⟩
 ·have key:∀{w q},(s.Ot k o').of w=some q->∃q0,s.of w=some q0:=λ{w q} hq=>by
   unfold RS.Ot at hq;simp only at hq;split at hq
   ·rename_i e;subst e;exact⟨_,ho⟩
   ·exact⟨_,hq⟩
  obtain⟨q0,h1⟩:=key hq;obtain⟨q1,h2⟩:=key WN;exact h.inj _ _ _ _ h1 h2
def Ww(W:AW):bh Tryz.prog 135 W=some (dd W.next,W.add (.cells [.af 0,.af 0])):=aL (by kernel_rfl) rfl
open Classical in
def FL(hG:GW V)(h:fM V U v sv ev s at_ cv bo pb)(hI:lN s)(ho:s.of x.wk=some o)(hs:eG V sv v.aB)(hv:v.aB.length<1000)(kd:Int):
 ∃U',bD (.func (.func 76) #[] #[]) [dd (V.next+2),zI x,.af kd] U=some (.af (if i6 v (a6 s o.c).op o.s=((kd,x.lk),0)then 0 else 6),U')/\Le V U'/\U.next<=U'.next/\(∀d,d<U.next->d≠pb x.wk->U'.get d=U.get d)/\(i6 v (a6 s o.c).op o.s=((kd,x.lk),0)->fM V U' v sv ev (s.Ot x.wk (j6 o)) at_ cv bo pb):=by
 have nK:Ok (gy bD (dd (V.next+2)) (zI x) (.af kd) U) λr=>r.1=.af (if i6 v (a6 s o.c).op o.s=((kd,x.lk),0)then 0 else 6)/\Le V r.2/\U.next<=r.2.next/\(∀d,d<U.next->d≠pb x.wk->r.2.get d=U.get d)/\(i6 v (a6 s o.c).op o.s=((kd,x.lk),0)->fM V r.2 v sv ev (s.Ot x.wk (j6 o)) at_ cv bo pb):=by
  unfold gy;obtain⟨U1,ki⟩:∃U1,U1=U.add (.cells (eA x)):=⟨_,rfl⟩;have l1:Le U U1:=by rw[ki];exact(Le.refl _).add _
  have n1:U1.next=U.next+1:=by rw[ki];rfl
  have hb:U1.get U.next=some (.cells (eA x)):=by rw[ki];exact AW.bf _ _
  have bx:=vC x U;rw[<-ki]at bx;have h1:=h.mono l1;obtain⟨l5,l6,l7,l8,l9,RJ,lv⟩:=h1.ld;have lk:=h1.look x.wk;rw[ho]at lk;simp only[bR,nO]at lk;obtain⟨p1,p2,p3,p4⟩:=h1.p _ _ ho;have pa:=hI.of _ _ ho;have K2:=hI.steps _ _ ho;obtain⟨B,-,-,hB,OA⟩:=h1.call pa;obtain⟨-,f2,-⟩:=qE hB pa;have Uf:aY (dd (pb x.wk)) U1=some (.af (o.c:Int),U1):=jE p4 rfl;have lp1:aY (.pointer (some ⟨pb x.wk,1,none⟩)) U1=some (.af (o.s:Int),U1):=jE p4 rfl;obtain⟨U2,kg⟩:∃U2,U2=U1.add (.cells [.af 0,.af 0]):=⟨_,rfl⟩;have l2:Le U1 U2:=by rw[kg];exact(Le.refl _).add _
  have n2:U2.next=U1.next+1:=by rw[kg];rfl
  have al:=Ww U1;rw[<-kg]at al;have oL:=l1.trans l2;have my:=Df (o:=(a6 s o.c).op) (i0:=(o.s:Int)) (hs.mono (h.le.trans oL)) hv (hG.mono (h.le.trans oL));generalize hq:i6 v (a6 s o.c).op (o.s:Int)=q at my|-;obtain⟨⟨qa,qb⟩,qe⟩:=q;obtain⟨U3,GQ⟩:∃U3,U3=U2.put U1.next (.cells [.af qa,.af qb]):=⟨_,rfl⟩;have s2:cS 2 (dd U1.next) (.agg #[.af qa,.af qb]) U2=some (ai,U3):=by rw[GQ];have:=vH (n:=2) (vs:=#[.af qa,.af qb]) (W:=U2) (b:=U1.next) (cs:=[.af 0,.af 0]) (by rw[kg];exact AW.bf _ _) rfl rfl rfl;exact this
  have l3:Le U U3:=by rw[GQ];exact oL.put (by omega) _
  have n3:U3.next=U2.next:=by rw[GQ];rfl
  have h3:=h.mono l3;have Xh:b9 2 (dd U1.next) U3=some (.agg #[.af qa,.af qb],U3):=by
   have g:U3.get U1.next=some (.cells [.af qa,.af qb]):=by rw[GQ];exact AW.bH _ _ _
   exact fJ (bw g) rfl
  have BA:U3.get U.next=some (.cells (eA x)):=by rw[GQ];exact(AW.aE _ _ (by omega)).trans ((l2.get _ (by omega)).trans hb)
  have llk:=vl BA;have ne:=λW=>aa5 qa qb kd x.lk false false W
  simp only[SX,bx,aT,aU,l6,iq hb,lk,lv,l5,Uf,OA,f2,lp1,al,my,s2];by_cases c1:qe=0;case neg=>
   have d:=bK c1;have:¬(((qa,qb),qe):(Int×Int)×Int)=((kd,x.lk),0):=λe=>c1 (by injection e)
   simp only[SX,d,ay this,aq];exact⟨aF,h3.le,by omega,λd hd _=>l3.get d hd,λe=>absurd e this⟩
  have d:=br c1;subst c1;by_cases c2:qa=kd/\qb=x.lk;case neg=>
   have:¬(((qa,qb),(0:Int)):(Int×Int)×Int)=((kd,x.lk),0):=λe=>c2 (by simp only[Prod.mk.injEq]at e;exact e.1)
   have eb:(qa==kd&&qb==x.lk)=false:=by rw[Bool.eq_false_iff];intro e;simp at e;exact c2 e
   simp only[SX,Xh,llk,Pq,ne,eb,ay this,aq];exact⟨aF,h3.le,by omega,λd hd _=>l3.get d hd,λe=>absurd e this⟩
  obtain⟨rfl,rfl⟩:=c2;have eb:(qa==qa&&x.lk==x.lk)=true:=by simp
  obtain⟨r1,r2,r3,r4⟩:=h3.p _ _ ho;have lp3:aY (.pointer (some ⟨pb x.wk,1,none⟩)) U3=some (.af (o.s:Int),U3):=jE r4 rfl;have ad:=λW'=>eH W' (o.s:Int) 1
  have e1:(o.s:Int)+1=((o.s+1:Nat):Int):=by omega
  have s3:cS 1 (.pointer (some ⟨pb x.wk,1,none⟩)) (.af ((o.s+1:Nat):Int)) U3=some (ai,U3.put (pb x.wk) (.cells [.af ((j6 o).c:Int),.af ((j6 o).s:Int),.bool (j6 o).e])):=by rw[kw,gb r4];rfl
  have h4:=h3.YA ho (j6 o);rw[e1]at ad;simp only[SX,Xh,llk,Pq,ne,eb,lp3,ad,s3,bc,aq];exact⟨aF,h4.le,by rw[AW.cu];omega,λd hd dQ=>(AW.aE _ _ (bL dQ)).trans (l3.get d hd),λ_=>h4⟩
 obtain⟨q,W',h1,rfl,h2,h3,h5,h4⟩:=sD (Q:=λq W'=>q=.af (if i6 v (a6 s o.c).op o.s=((kd,x.lk),0)then 0 else 6)/\Le V W'/\U.next<=W'.next/\(∀d,d<U.next->d≠pb x.wk->W'.get d=U.get d)/\(i6 v (a6 s o.c).op o.s=((kd,x.lk),0)->fM V W' v sv ev (s.Ot x.wk (j6 o)) at_ cv bo pb)) nK ny
  (λq W' ⟨e,a,a',_,b⟩ bk hp=>⟨e,h.le,aS _,λ_ _ _=>rfl,λhe=>h.back (b he) bk⟩)
 exact⟨W',h1,h2,h3,h5,h4⟩
end
def HM{l:List lJ}{c:Nat}(hc:c<l.length)(f:lJ->lJ):nj l c f=l.set c (f l[c]):=by unfold nj;rw[cx hc]
section
variable {Z V U U':AW} {v:ce} {sv ev cv:ae} {s:RS} {at_:Int} {bo:Option Nat} {pb:Int->Nat} {x:cC} {o:fY}
def fM.aab(h:fM V U v sv ev s at_ cv bo pb){es:de}{lk:Int->Option Int}(hm:∃n,ni (U.put (V.next+1) es) (V.next+1) (λk=>(lk k).map (Value.int .i64)) n):fM V (U.put (V.next+1) es) v sv ev {s with lk:=lk} at_ cv bo pb:=by
 have hn:=h.nx;obtain⟨n,ho⟩:=h.o
 exact⟨h.le.put (by omega) _,by rw[AW.cu];omega,(AW.aE _ _ (by omega)).trans h.w,(AW.aE _ _ (by omega)).trans h.r,h.c.dD (aS _) λB hB=>AW.aE _ _ (by have:=h.b B hB;omega),⟨n,ho.dD (AW.aE _ _ (by omega))⟩,hm,
  λk q hk=>let⟨a,b,c,d⟩:=h.p k q hk;⟨a,b,c,(AW.aE _ _ (by omega)).trans d⟩,h.b,h.inj⟩
def fM.gv(h:fM V U v sv ev s at_ cv bo pb)(k id:Int):∃U',ge Tryz.prog 92 (.map (some (V.next+1))) (.af k) (.af id) U=some (ai,U')/\U'.next=U.next/\fM V U' v sv ev {s with lk:=λj=>if j=k then some id else s.lk j} at_ cv bo pb:=by
 obtain⟨m,hl⟩:=h.l;obtain⟨es,c,h1,h2⟩:=Dc hl UR Tryz.underlying3 k (.af id);have e:(λj=>(if j=k then some id else s.lk j).map (Value.int .i64))=λj=>if j=k then some (Value.int .i64 id)else(s.lk j).map (Value.int .i64):=by funext j;split<;>rfl
 exact⟨_,h1,rfl,h.aab ⟨_,by rw[e];exact h2⟩⟩
def fM.WM(h:fM V U v sv ev s at_ cv bo pb)(k:Int):∃U',aD Tryz.prog .delete #[92,3] 0 #[false,false] [.map (some (V.next+1)),.af k] U=some (.tuple #[],U')/\U'.next=U.next/\fM V U' v sv ev {s with lk:=λj=>if j=k then none else s.lk j} at_ cv bo pb/\∀d,d≠V.next+1->U'.get d=U.get d:=by
 obtain⟨m,hl⟩:=h.l;obtain⟨es,c,h1,h2⟩:=CY hl UR Tryz.underlying3 [3] k;have e:(λj=>(if j=k then none else s.lk j).map (Value.int .i64))=λj=>if j=k then none else(s.lk j).map (Value.int .i64):=by funext j;split<;>rfl
 refine⟨U.put (V.next+1) (.map es c),?_,rfl,h.aab ⟨_,by rw[e];exact h2⟩,λd hd=>AW.aE _ _ (bL hd)⟩;show(ku Tryz.prog U #[92,3] (.map (some (V.next+1))) (.af k)).map _=_;have:(#[92,3]:Array ah)=(92::[3]).toArray:=rfl;rw[this,h1];rfl
def fM.ZI(h:fM V U v sv ev s at_ cv bo pb){es:de}{of:Int->Option fY}{Fm:Int->Nat}(hm:∃n,ni (U.put V.next es) V.next (λk=>(of k).map λ_=>dd (Fm k)) n)
 (hp:∀k o,of k=some o->V.next+5<=Fm k/\Fm k<U.next/\bo≠some (Fm k)/\U.get (Fm k)=some (.cells [.af (o.c:Int),.af (o.s:Int),.bool o.e]))
 (hi:∀k k' o o',of k=some o->of k'=some o'->Fm k=Fm k'->k=k'):fM V (U.put V.next es) v sv ev {s with of:=of} at_ cv bo Fm:=by
 have hn:=h.nx;obtain⟨n,hl⟩:=h.l
 exact⟨h.le.put (by omega) _,by rw[AW.cu];omega,(AW.aE _ _ (by omega)).trans h.w,(AW.aE _ _ (by omega)).trans h.r,h.c.dD (aS _) λB hB=>AW.aE _ _ (by have:=h.b B hB;omega),hm,⟨n,hl.dD (AW.aE _ _ (by omega))⟩,
  λk q hk=>let⟨a,b,c,d⟩:=hp k q hk;⟨a,b,c,(AW.aE _ _ (by omega)).trans d⟩,h.b,hi⟩
def fM.aff(h:fM V U v sv ev s at_ cv bo pb)(k:Int):∃U',aD Tryz.prog .delete #[91,3] 0 #[false,false] [.map (some V.next),.af k] U=some (.tuple #[],U')/\U'.next=U.next/\fM V U' v sv ev {s with of:=λj=>if j=k then none else s.of j} at_ cv bo pb:=by
 obtain⟨m,hl⟩:=h.o;obtain⟨es,c,h1,h2⟩:=CY hl TH Tryz.underlying3 [3] k;have e:(λj=>(if j=k then none else s.of j).map λ_=>dd (pb j))=λj=>if j=k then none else(s.of j).map λ_=>dd (pb j):=by funext j;split<;>rfl
 refine⟨U.put V.next (.map es c),?_,rfl,h.ZI ⟨_,by rw[e];exact h2⟩ (λj q hq=>?_) (λj j' q q' hq WN=>?_)⟩
 ·show(ku Tryz.prog U #[91,3] (.map (some V.next)) (.af k)).map _=_;have:(#[91,3]:Array ah)=(91::[3]).toArray:=rfl;rw[this,h1];rfl
 ·split at hq
  ·cases hq
  ·exact h.p _ _ hq
 ·split at hq
  ·cases hq
  split at WN
  ·cases WN
  exact h.inj _ _ _ _ hq WN
def fM.YK(h:fM V U v sv ev s at_ cv bo pb)(k:Int)(q:fY){B:Nat}(hB:B<U.next)(O6:V.next+5<=B)(hg:U.get B=some (.cells [.af (q.c:Int),.af (q.s:Int),.bool q.e]))(hbo:bo≠some B)(jJ:∀j o,s.of j=some o->pb j≠B):
 ∃U',ge Tryz.prog 91 (.map (some V.next)) (.af k) (dd B) U=some (ai,U')/\U'.next=U.next/\fM V U' v sv ev (s.Ot k q) at_ cv bo (λj=>if j=k then B else pb j)/\∀d,d≠V.next->U'.get d=U.get d:=by
 obtain⟨m,hl⟩:=h.o;obtain⟨es,c,h1,h2⟩:=Dc hl TH Tryz.underlying3 k (dd B);have e:(λj=>((if j=k then some q else s.of j):Option fY).map λ_=>dd (if j=k then B else pb j))=λj=>if j=k then some (dd B)else(s.of j).map λ_=>dd (pb j):=by funext j;split<;>rfl
 refine⟨_,h1,rfl,h.ZI ⟨_,by rw[e];exact h2⟩ (λj r hr=>?_) (λj j' r r' hr hr' he=>?_),λd hd=>AW.aE _ _ (bL hd)⟩
 ·by_cases e:j=k
  ·rw[ax e]at hr|-;injection hr with hr;subst hr;exact⟨O6,hB,hbo,hg⟩
  ·rw[ay e]at hr|-;exact h.p _ _ hr
 ·by_cases e:j=k
  ·by_cases e':j'=k
   ·rw[e,e']
   ·rw[ax e,ay e']at he;rw[ay e']at hr';exact absurd he.symm (jJ _ _ hr')
  ·by_cases e':j'=k
   ·rw[ay e,ax e']at he;rw[ay e]at hr;exact absurd he (jJ _ _ hr)
   ·rw[ay e,ay e']at he;rw[ay e]at hr;rw[ay e']at hr';exact h.inj _ _ _ _ hr hr' he
def fM.MA(h:fM V U v sv ev s at_ cv bo pb){c B:Nat}(hc:c<s.cl.length)(hB:bo=some B)(y:lJ):fM V (U.put B (.cells ((s.cl.set c y).flatMap gT))) v sv ev {s with cl:=s.cl.set c y} at_ cv bo pb:=by
 have hn:=h.nx;have hb:=h.b B hB;obtain⟨n,ho⟩:=h.o;obtain⟨m,hl⟩:=h.l;refine⟨h.le.put (by omega) _,by rw[AW.cu];omega,(AW.aE _ _ (by omega)).trans h.w,(AW.aE _ _ (by omega)).trans h.r,?_,⟨n,ho.dD (AW.aE _ _ (by omega))⟩,⟨m,hl.dD (AW.aE _ _ (by omega))⟩,λk q hk=>?_,h.b,h.inj⟩
 ·rcases h.c with⟨e,-⟩|⟨h0,B',h1,h2,h3,h4⟩
  ·rw[e]at hc;cases hc
  ·rw[hB]at h1;injection h1 with h1;subst h1;exact .inr ⟨λe=>(by have:=cg List.length e;rw[jP]at this;rw[this]at hc;simp at hc),B,hB,h2,by rw[jP];exact h3,AW.bH _ _ _⟩
 ·obtain⟨a,b,c',d⟩:=h.p k q hk;exact⟨a,b,c',(AW.aE _ _ (λe=>c' (by rw[hB,e]))).trans d⟩
end
section
variable {U:AW} {m:List lJ} {B c:Nat}
def zq(pre mid post vs:List ae)(p:Nat)(h:p+vs.length<=mid.length):fh (pre++(mid++post)) (pre.length+p) vs=pre++(fh mid p vs++post):=by unfold fh;rw[List.take_length_add_append,List.take_append_of_le_length (by omega),jW,List.drop_length_add_append,List.drop_append_of_le_length h];simp only[pM]
def Ud(e:lJ)(n:Int):fh (gT e) 24 [.af n]=gT {e with co:=n}:=rfl
def Vc(e:lJ)(n:Int):fh (gT e) 25 [.af n]=gT {e with an:=n}:=rfl
def Uz(e:lJ)(r:FV):fh (gT e) 14 (OF r).cells.toList=gT {e with rp:=r}:=rfl
def Qx(hB:U.get B=some (.cells (m.flatMap gT)))(hc:c<m.length)(n:Int):cS 1 (.pointer (some ⟨B,c*26+24,none⟩)) (.af n) U=some (ai,U.put B (.cells ((m.set c {m[c]with co:=n}).flatMap gT))):=by have hl:=xN (m:=m) (i:=c) (by omega);rw[mW hc]at hB;rw[uF (n:=1) (v:=.af n) hB rfl (by rw[dj,dj,hl,eX];show c*26+24+1<=_;omega) rfl];have:=zq ((m.take c).flatMap gT) (gT m[c]) ((m.drop (c+1)).flatMap gT) [.af n] 24 (by rw[eX];show 24+1<=26;omega);rw[hl,Ud]at this;rw[tu hc];exact cg (λc=>some (ai,U.put B (.cells c))) this
def O5(hB:U.get B=some (.cells (m.flatMap gT)))(hc:c<m.length)(n:Int):cS 1 (.pointer (some ⟨B,c*26+25,none⟩)) (.af n) U=some (ai,U.put B (.cells ((m.set c {m[c]with an:=n}).flatMap gT))):=by have hl:=xN (m:=m) (i:=c) (by omega);rw[mW hc]at hB;rw[uF (n:=1) (v:=.af n) hB rfl (by rw[dj,dj,hl,eX];show c*26+25+1<=_;omega) rfl];have:=zq ((m.take c).flatMap gT) (gT m[c]) ((m.drop (c+1)).flatMap gT) [.af n] 25 (by rw[eX];show 25+1<=26;omega);rw[hl,Vc]at this;rw[tu hc];exact cg (λc=>some (ai,U.put B (.cells c))) this
def Qo(hB:U.get B=some (.cells (m.flatMap gT)))(hc:c<m.length)(r:FV):cS 9 (.pointer (some ⟨B,c*26+14,none⟩)) (OF r) U=some (ai,U.put B (.cells ((m.set c {m[c]with rp:=r}).flatMap gT))):=by have hl:=xN (m:=m) (i:=c) (by omega);rw[mW hc]at hB;rw[uF (n:=9) (v:=OF r) hB rfl (by rw[dj,dj,hl,eX];show c*26+14+9<=_;omega) rfl];have:=zq ((m.take c).flatMap gT) (gT m[c]) ((m.drop (c+1)).flatMap gT) (OF r).cells.toList 14 (by rw[eX];show 14+9<=26;omega);rw[hl,Uz]at this;rw[tu hc];exact cg (λc=>some (ai,U.put B (.cells c))) this
end
def N7(s:RS)(i:Nat)(x:cC):RS:=
 if x.k=1 then{s with cl:=s.cl++[⟨x.id,x.wk,x.op,Aa,i,-1,-1⟩],of:=λw=>if w=x.wk then some ⟨s.cl.length,0,false⟩else s.of w}
 else match s.of x.wk with
  |none=>s
  |some o=>
   if x.k=5 then{s with cl:=nj s.cl o.c λc=>{c with an:=i},of:=λw=>if w=x.wk then none else s.of w}else
   if x.k=6 then{s with of:=λw=>if w=x.wk then some ⟨o.c,o.s,true⟩else s.of w}else
   {s with cl:=if x.k=3 then nj s.cl o.c λc=>{c with co:=i,rp:=x.rp}else s.cl,of:=λw=>if w=x.wk then some ⟨o.c,o.s+1,o.e⟩else s.of w,lk:=λk=>if k=x.lk then(if x.k=2 then some x.id else if x.k=4 then none else s.lk k)else s.lk k}
def Vp{s:RS}{x:cC}(h:kP s x=0)(i:Nat):S6 s i x=N7 (JS s x) i x:=by
 unfold S6 N7 JS;by_cases c1:x.k=1
 ·simp only[ax c1]
 ·simp only[ay c1];unfold kP at h;rw[ay c1]at h;cases ho:s.of x.wk with
  |none=>rw[ho]at h;exact absurd (show(4:Int)=0 from h) (by decide)
  |some o=>simp only
def L0(v:ce)(s:RS)(x:cC):dY v (JS s x) x=dY v s x:=rfl
def oE(V U U':AW)(v:ce)(sv ev:ae)(s:RS)(i:Nat)(x:cC):Prop:=
 Le V U'/\U.next<=U'.next/\(dY v s x=0->∃cv bo pb,fM V U' v sv ev (N7 s i x) i cv bo pb)
section
variable {Z V U U':AW} {v:ce} {sv ev cv:ae} {s:RS} {i:Nat} {bo:Option Nat} {pb:Int->Nat} {x:cC} {o:fY}
def qj{t:Option (ae×AW)}{o:Option (ae×AW)}{e:Int}(h:fM V U v sv ev s i cv bo pb)(nK:Ok t λr=>r.1=.af e/\oE V U r.2 v sv ev s i x)(K7:∀{r},t=some r->o=some (gc U r)):∃U',o=some (.af e,U')/\oE V U U' v sv ev s i x:=by
 obtain⟨q,W',h1,rfl,h2⟩:=sD (Q:=λq W'=>q=.af e/\oE V U W' v sv ev s i x) nK K7
  (λq W' ⟨e,a,b,c⟩ bk hp=>⟨e,h.le,aS _,λhe=>let⟨wE,VW,Fm,k⟩:=c he;⟨wE,VW,Fm,h.back k bk⟩⟩)
 exact⟨W',h1,h2⟩
open Classical in
def rG(ho:s.of x.wk=some o)(h1:x.k≠1)(h5:x.k≠5)(h6:x.k≠6):dY v s x=if i6 v (a6 s o.c).op o.s=((iw x.k,x.lk),0)then(if x.k=2/\(s.lk x.lk).isSome=true then 20 else 0)else 6:=by unfold dY;rw[ay h1,ho];simp only[ay h5,ay h6,ne_eq,ite_not]
def xA(ho:s.of x.wk=some o)(h1:x.k≠1)(h5:x.k≠5)(h6:x.k≠6):N7 s i x={s with cl:=if x.k=3 then nj s.cl o.c λc=>{c with co:=i,rp:=x.rp}else s.cl,of:=λw=>if w=x.wk then some (j6 o)else s.of w,lk:=λk=>if k=x.lk then(if x.k=2 then some x.id else if x.k=4 then none else s.lk k)else s.lk k}:=by unfold N7;rw[ay h1,ho];simp only[ay h5,ay h6];rfl
open Classical in
def QQ(hG:GW V)(h:fM V U v sv ev s i cv bo pb)(hI:lN s)(ho:s.of x.wk=some o)(hs:eG V sv v.aB)(hv:v.aB.length<1000)(hk:x.k=2):
 ∃U',bD (.func (.func 49) #[] #[]) [dd (V.next+2),zI x] U=some (.af (dY v s x),U')/\oE V U U' v sv ev s i x:=by
 refine qj h ?_ qL;unfold nl;obtain⟨U1,ki⟩:∃U1,U1=U.add (.cells (eA x)):=⟨_,rfl⟩;have l1:Le U U1:=by rw[ki];exact(Le.refl _).add _
 have n1:U1.next=U.next+1:=by rw[ki];rfl
 have hb:U1.get U.next=some (.cells (eA x)):=by rw[ki];exact AW.bf _ _
 have bx:=vC x U;rw[<-ki]at bx;have h1:=h.mono l1;obtain⟨U2,k1,k2,k3,k4,k5⟩:=FL (x:=x) hG h1 hI ho hs hv 1;have hE:=rG (v:=v) ho (by omega) (by omega) (by omega);have Xp:iw x.k=1:=by unfold iw;rw[ax hk]
 rw[Xp]at hE;obtain⟨-,pb2,-,-⟩:=h.p _ _ ho;simp only[SX,bx,nH hb,k1];by_cases c1:i6 v (a6 s o.c).op o.s=((1,x.lk),0);case neg=>
  have KX:dY v s x=6:=by rw[hE,ay c1]
  have d:decide ((6:Int)=0)=false:=rfl;simp only[SX,ay c1,d,aq];exact⟨by rw[KX],k2,by omega,λe=>by rw[KX]at e;exact absurd e (by decide)⟩
 rw[ax c1]at hE;have h2:=k5 c1;have gW:U2.get U.next=some (.cells (eA x)):=(k4 _ (by omega) (by omega)).trans hb;have d:decide ((0:Int)=0)=true:=rfl;obtain⟨l5,l6,l7,-⟩:=h2.ld;have lL:=h2.WA x.lk;have e1:(s.Ot x.wk (j6 o)).lk=s.lk:=rfl;rw[e1]at lL;cases c2:(s.lk x.lk).isSome with
 |true=>
  have KX:dY v s x=20:=by rw[hE,ax ⟨hk,c2⟩]
  rw[c2]at lL;simp only[SX,ax c1,aT,aU,l7,vl gW,lL,aq];exact⟨by rw[KX],k2,by omega,λe=>by rw[KX]at e;exact absurd e (by decide)⟩
 |false=>
  have KX:dY v s x=0:=by rw[hE,ay (by rw[c2];simp)]
  rw[c2]at lL;obtain⟨U3,m1,m2,m3⟩:=h2.gv x.lk x.id;simp only[SX,ax c1,aT,aU,l7,vl gW,lL,pd gW,m1,aq];refine⟨by rw[KX],m3.le,by omega,λ_=>⟨cv,bo,pb,?_⟩⟩;rw[xA ho (by omega) (by omega) (by omega)];simp only[hk,bc,ay (show¬(2:Int)=3 by decide)];exact m3
open Classical in
def Pk(hG:GW V)(h:fM V U v sv ev s i cv bo pb)(hI:lN s)(ho:s.of x.wk=some o)(hs:eG V sv v.aB)(hv:v.aB.length<1000)(hk:x.k=4):
 ∃U',bD (.func (.func 51) #[] #[]) [dd (V.next+2),zI x] U=some (.af (dY v s x),U')/\oE V U U' v sv ev s i x:=by
 refine qj h ?_ qP;unfold nh;obtain⟨U1,ki⟩:∃U1,U1=U.add (.cells (eA x)):=⟨_,rfl⟩;have l1:Le U U1:=by rw[ki];exact(Le.refl _).add _
 have n1:U1.next=U.next+1:=by rw[ki];rfl
 have hb:U1.get U.next=some (.cells (eA x)):=by rw[ki];exact AW.bf _ _
 have bx:=vC x U;rw[<-ki]at bx;have h1:=h.mono l1;obtain⟨l5,l6,l7,-⟩:=h1.ld;obtain⟨U2,m1,m2,m3,m4⟩:=h1.WM x.lk;have hnx:=h.nx;have gW:U2.get U.next=some (.cells (eA x)):=(m4 _ (by omega)).trans hb;obtain⟨U3,k1,k2,k3,k4,k5⟩:=FL (x:=x) hG m3 ⟨hI.ids,hI.of,hI.len,hI.wk,hI.steps⟩ ho hs hv 3;have hE:=rG (v:=v) ho (by omega) (by omega) (by omega);have Xp:iw x.k=3:=by unfold iw;rw[bX,bX]
 rw[Xp,ay (show¬(x.k=2/\(s.lk x.lk).isSome=true)by omega)]at hE;simp only[SX,bx,aT,aU,l7,vl hb,m1,nH gW,k1,aq];refine⟨by rw[hE];rfl,k2,by omega,λe=>?_⟩;rw[hE]at e;split at e
 ·rename_i c1;have h2:=k5 c1;refine⟨cv,bo,pb,?_⟩;rw[xA ho (by omega) (by omega) (by omega)];simp only[hk,bc,ay (show¬(4:Int)=3 by decide),ay (show¬(4:Int)=2 by decide)];exact h2
 ·omega
open Classical in
def Jj(hG:GW V)(h:fM V U v sv ev s i cv bo pb)(hI:lN s)(ho:s.of x.wk=some o)(hs:eG V sv v.aB)(hv:v.aB.length<1000)(hk:x.k=5):
 ∃U',bD (.func (.func 52) #[] #[]) [dd (V.next+2),zI x] U=some (.af (dY v s x),U')/\oE V U U' v sv ev s i x:=by
 refine qj h ?_ oV;unfold lF;obtain⟨U1,ki⟩:∃U1,U1=U.add (.cells (eA x)):=⟨_,rfl⟩;have l1:Le U U1:=by rw[ki];exact(Le.refl _).add _
 have n1:U1.next=U.next+1:=by rw[ki];rfl
 have hb:U1.get U.next=some (.cells (eA x)):=by rw[ki];exact AW.bf _ _
 have bx:=vC x U;rw[<-ki]at bx;have h1:=h.mono l1;obtain⟨l5,l6,l7,l8,l9,RJ,lv⟩:=h1.ld;have lk:=h1.look x.wk;rw[ho]at lk;simp only[bR,nO]at lk;obtain⟨p1,p2,p3,p4⟩:=h1.p _ _ ho;have pa:=hI.of _ _ ho;obtain⟨B,O6,hBn,hB,OA⟩:=h1.call pa;obtain⟨-,f2,-⟩:=qE hB pa;have Uf:aY (dd (pb x.wk)) U1=some (.af (o.c:Int),U1):=jE p4 rfl;have lp1:aY (.pointer (some ⟨pb x.wk,1,none⟩)) U1=some (.af (o.s:Int),U1):=jE p4 rfl;have my:=Cy (o:=(a6 s o.c).op) (hs.mono h1.le) hv (hG.mono h1.le);have hE:dY v s x=if(o.s:Int)<(nP v (a6 s o.c).op).1 then 6 else 0:=by unfold dY;rw[bX,ho];simp only[ax hk]
 simp only[SX,bx,aT,aU,l6,iq hb,lk,lv,l5,Uf,OA,f2,my,lp1];by_cases c1:(o.s:Int)<(nP v (a6 s o.c).op).1
 ·have d:=br c1;rw[ax c1]at hE;simp only[SX,d,aq];exact⟨by rw[hE],h1.le,by omega,λe=>by rw[hE]at e;exact absurd e (by decide)⟩
 have d:=bK c1;rw[ay c1]at hE;have st:=O5 hB pa (i:Int);have h2:=h1.MA pa O6 {s.cl[o.c]with an:=(i:Int)};obtain⟨U2,kg⟩:∃U2,U2=U1.put B (.cells ((s.cl.set o.c {s.cl[o.c]with an:=(i:Int)}).flatMap gT)):=⟨_,rfl⟩;rw[<-kg]at st h2;have n2:U2.next=U1.next:=by rw[kg];rfl
 have dQ:B≠U.next:=λe=>by have:=h.c.lt O6;omega
 have gW:U2.get U.next=some (.cells (eA x)):=by rw[kg];exact(AW.aE _ _ dQ).trans hb
 obtain⟨-,q6,-⟩:=h2.ld;obtain⟨U3,m1,m2,m3⟩:=h2.aff x.wk;simp only[SX,d,RJ,st,q6,iq gW,m1,aq];refine⟨by rw[hE],m3.le,by omega,λ_=>⟨cv,bo,pb,?_⟩⟩;have er:N7 s i x={s with cl:=nj s.cl o.c λc=>{c with an:=i},of:=λw=>if w=x.wk then none else s.of w}:=by unfold N7;rw[bX,ho];simp only[ax hk]
 rw[er,HM pa];exact m3
def Xa(r:FV):gu (OF r) (OF r)=true:=vm (by simp[Qq,rJ])
open Classical in
def Jh(hG:GW V)(h:fM V U v sv ev s i cv bo pb)(hI:lN s)(ho:s.of x.wk=some o)(hs:eG V sv v.aB)(hv:v.aB.length<1000)(hk:x.k=3):
 ∃U',bD (.func (.func 50) #[] #[]) [dd (V.next+2),zI x] U=some (.af (dY v s x),U')/\oE V U U' v sv ev s i x:=by
 refine qj h ?_ oT;unfold lD;obtain⟨U1,ki⟩:∃U1,U1=U.add (.cells (eA x)):=⟨_,rfl⟩;have l1:Le U U1:=by rw[ki];exact(Le.refl _).add _
 have n1:U1.next=U.next+1:=by rw[ki];rfl
 have hb:U1.get U.next=some (.cells (eA x)):=by rw[ki];exact AW.bf _ _
 have bx:=vC x U;rw[<-ki]at bx;have h1:=h.mono l1;obtain⟨l5,l6,l7,l8,l9,RJ,lv⟩:=h1.ld;have lk:=h1.look x.wk;rw[ho]at lk;simp only[bR,nO]at lk;obtain⟨p1,p2,p3,p4⟩:=h1.p _ _ ho;have pa:=hI.of _ _ ho;obtain⟨B,O6,hBn,hB,OA⟩:=h1.call pa;have Uf:aY (dd (pb x.wk)) U1=some (.af (o.c:Int),U1):=jE p4 rfl;have dQ:B≠U.next:=λe=>by have:=h.c.lt O6;omega
 have st:=Qx hB pa (i:Int);have h2:=h1.MA pa O6 {s.cl[o.c]with co:=(i:Int)};obtain⟨U2,kg⟩:∃U2,U2=U1.put B (.cells ((s.cl.set o.c {s.cl[o.c]with co:=(i:Int)}).flatMap gT)):=⟨_,rfl⟩;have Ia:U2.get B=some (.cells ((s.cl.set o.c {s.cl[o.c]with co:=(i:Int)}).flatMap gT)):=by rw[kg];exact AW.bH _ _ _
 rw[<-kg]at st h2;have n2:U2.next=U1.next:=by rw[kg];rfl
 have gW:U2.get U.next=some (.cells (eA x)):=by rw[kg];exact(AW.aE _ _ dQ).trans hb
 have qN:o.c<(s.cl.set o.c {s.cl[o.c]with co:=(i:Int)}).length:=by rw[jP];exact pa
 have st2:=Qo Ia qN x.rp;have h3:=h2.MA qN O6 {(s.cl.set o.c {s.cl[o.c]with co:=(i:Int)})[o.c]with rp:=x.rp};obtain⟨U3,GQ⟩:∃U3,U3=U2.put B (.cells (((s.cl.set o.c {s.cl[o.c]with co:=(i:Int)}).set o.c {(s.cl.set o.c {s.cl[o.c]with co:=(i:Int)})[o.c]with rp:=x.rp}).flatMap gT)):=⟨_,rfl⟩;rw[<-GQ]at st2 h3;have n3:U3.next=U2.next:=by rw[GQ];rfl
 have BA:U3.get U.next=some (.cells (eA x)):=by rw[GQ];exact(AW.aE _ _ dQ).trans gW
 have ecl:(s.cl.set o.c {s.cl[o.c]with co:=(i:Int)}).set o.c {(s.cl.set o.c {s.cl[o.c]with co:=(i:Int)})[o.c]with rp:=x.rp}=s.cl.set o.c {s.cl[o.c]with co:=(i:Int),rp:=x.rp}:=by rw[List.set_set,List.getElem_set_self]
 have h3':fM V U3 v sv ev {s with cl:=s.cl.set o.c {s.cl[o.c]with co:=(i:Int),rp:=x.rp}} i cv bo pb:=by
  have e:({{s with cl:=s.cl.set o.c {s.cl[o.c]with co:=(i:Int)}}with cl:=(s.cl.set o.c {s.cl[o.c]with co:=(i:Int)}).set o.c {(s.cl.set o.c {s.cl[o.c]with co:=(i:Int)})[o.c]with rp:=x.rp}}:RS)={s with cl:=s.cl.set o.c {s.cl[o.c]with co:=(i:Int),rp:=x.rp}}:=by rw[ecl]
  rw[<-e];exact h3
 have hI3:lN {s with cl:=s.cl.set o.c {s.cl[o.c]with co:=(i:Int),rp:=x.rp}}:=by
  refine⟨λj c hc=>?_,λw q hq=>?_,?_,hI.wk,hI.steps⟩
  ·simp only[nY]at hc;by_cases e:o.c=j
   ·rw[ax e,oM]at hc;injection hc with hc;subst hc;exact hI.ids j s.cl[o.c] (by rw[<-e];exact cx pa)
   ·rw[ay e]at hc;exact hI.ids j c hc
  ·simp only[jP];exact hI.of w q hq
  ·simp only[jP];exact hI.len
 have eop:(a6 {s with cl:=s.cl.set o.c {s.cl[o.c]with co:=(i:Int),rp:=x.rp}} o.c).op=(a6 s o.c).op:=by rw[xi pa,xi (s:={s with cl:=s.cl.set o.c {s.cl[o.c]with co:=(i:Int),rp:=x.rp}}) (by simp only[jP];exact pa)];simp only[List.getElem_set_self]
 obtain⟨U4,k1,k2,k3,k4,k5⟩:=FL (x:=x) hG h3' hI3 ho hs hv 2;rw[eop]at k1 k5;have hE:=rG (v:=v) ho (by omega) (by omega) (by omega);have Xp:iw x.k=2:=by unfold iw;rw[bX,ax hk]
 rw[Xp,ay (show¬(x.k=2/\(s.lk x.lk).isSome=true)by omega)]at hE;simp only[SX,bx,aT,aU,l5,l6,iq hb,lk,Uf,OA,RJ,F4 hb,st,ph,F4 gW,Xa,ov,st2,nH BA,k1,aq];refine⟨by rw[hE],k2,by omega,λe=>?_⟩;rw[hE]at e;split at e
 ·rename_i c1;have h4:=k5 c1;refine⟨cv,bo,pb,?_⟩;rw[xA ho (by omega) (by omega) (by omega)];have elk:(λk=>if k=x.lk then(if x.k=2 then some x.id else if x.k=4 then none else s.lk k)else s.lk k)=s.lk:=by
   funext k;by_cases e:k=x.lk
   ·rw[ax e,bX,bX]
   ·rw[ay e]
  rw[elk,ax hk,HM pa];exact h4
 ·omega
end
def Ru{α:Type}{P:Program}{W:AW}{ts:Array ah}{z bytes:Nat}{f:α->List ae}{v:ae}{l:List α}{bo:Option Nat}(a:α)(hk:iY P ts z bytes=true)(hf:∀a,(f a).length=z)(h1:∀a,(f a).all Eng.one=true)
 (h:mV W z f v l bo)(hb:l.length+1<1099511627776)(gW:(2*(l.length+1)+192)*bytes<=281474976710656):
 ∃v' W',aN P (W.add (.cells (f a))) ts v (.slice (some ⟨W.next,0,none⟩) 1 1)=some (v',W')/\mV W' z f v' (l++[a]) (some (W.next+1))/\W'.next=W.next+2/\∀b,b<W.next->bo≠some b->W'.get b=W.get b:=by
 have h':mV (W.add (.cells (f a))) z f v l bo:=h.dD (by rw[AW.aJ];omega) λB hB=>AW.aZ _ _ (by have:=h.lt hB;omega)
 obtain⟨v',W',a1,a2,a3,a4⟩:=h'.push (a:=a) hk hf h1 (b:=W.next) (c:=1) bO hb gW;rw[AW.aJ]at a2 a3;exact⟨v',W',a1,a2,a3,λb hb dQ=>(a4 b (by rw[AW.aJ];omega) dQ).trans (AW.aZ _ _ (by omega))⟩
def HL{α:Type}{W:AW}{z:Nat}{f:α->List ae}{v:ae}{l:List α}{bo:Option Nat}(h:mV W z f v l bo):v.cells=#[v]/\Eng.one v=true:=by rcases h with⟨-,rfl,-⟩|⟨-,B,-,-,rfl,-⟩<;>exact⟨rfl,rfl⟩
def aeM:iY Tryz.prog #[33,33] 26 192=true:=by kernel_rfl
def adx(y:lJ)(W:AW):aC Tryz.prog 33 1 [(0,clV y)] W=some (.slice (some ⟨W.next,0,none⟩) 1 1,W.add (.cells (gT y))):=aL (by kernel_rfl) rfl
def ac1(id wk a b c:Int)(o:t8)(W:AW):cn Tryz.prog 45 [(0,.af id),(1,.af wk),(2,KH o),(4,.af a),(5,.af b),(6,.af c)] W=some (clV ⟨id,wk,o,Aa,a,b,c⟩,W):=aL (by kernel_rfl) rfl
def YV(n:Int)(W:AW):cn Tryz.prog 125 [(0,.af n)] W=some (.agg #[.af n,.af 0,.bool false],W):=aL (by kernel_rfl) rfl
section
variable {Z V U U':AW} {v:ce} {sv ev cv:ae} {s:RS} {i:Nat} {bo:Option Nat} {pb:Int->Nat} {x:cC} {o:fY}
def fM.push(h:fM V U v sv ev s (i:Int) cv bo pb)(hl:s.cl.length<=1000)(y:lJ):∃wE U1 U2,aN Tryz.prog (U.add (.cells (gT y))) #[33,33] cv (.slice (some ⟨U.next,0,none⟩) 1 1)=some (wE,U1)/\cS 1 (.pointer (some ⟨V.next+2,5,none⟩)) wE U1=some (ai,U2)/\U.next<=U2.next/\fM V U2 v sv ev {s with cl:=s.cl++[y]} i wE (some (U.next+1)) pb:=by
 have hn:=h.nx;obtain⟨wE,U1,a1,a2,a3,a4⟩:=Ru y aeM eX Px h.c (by omega) (by omega);have nb:∀{b},b<V.next+5->bo≠some b:=λhb e=>by have:=h.b _ e;omega
 have hw1:U1.get (V.next+2)=some (.cells (zz v sv ev cv V.next (V.next+1) s.tn s.st i)):=(a4 _ (by omega) (nb (by omega))).trans h.w;have st:cS 1 (.pointer (some ⟨V.next+2,5,none⟩)) wE U1=some (ai,U1.put (V.next+2) (.cells (zz v sv ev wE V.next (V.next+1) s.tn s.st i))):=by rw[ky (HL a2).1 (HL a2).2,KG hw1];rfl
 obtain⟨n,ho⟩:=h.o;obtain⟨m,hm⟩:=h.l;have g:∀b,b<U.next->b≠V.next+2->bo≠some b->(U1.put (V.next+2) (.cells (zz v sv ev wE V.next (V.next+1) s.tn s.st i))).get b=U.get b:=λb h1 h2 h3=>(AW.aE _ _ (bL h2)).trans (a4 b h1 h3)
 refine⟨wE,U1,_,a1,st,by rw[AW.cu];omega,⟨by rw[AW.cu];have:=h.le.next;omega,λb hb=>(g b (by omega) (by omega) (nb (by omega))).trans (h.le.get b hb)⟩,by rw[AW.cu];omega,AW.bH _ _ _,(g _ (by omega) (by omega) (nb (by omega))).trans h.r,?_,⟨n,ho.dD (g _ (by omega) (by omega) (nb (by omega)))⟩,⟨m,hm.dD (g _ (by omega) (by omega) (nb (by omega)))⟩,λk q hk=>?_,λB hB=>?_,h.inj⟩
 ·exact a2.dD (by rw[AW.cu];omega) λB hB=>AW.aE _ _ (by injection hB with hB;omega)
 ·obtain⟨a,b,c,d⟩:=h.p k q hk;exact⟨a,by rw[AW.cu];omega,λe=>by injection e with e;omega,(g _ b (by omega) c).trans d⟩
 ·injection hB with hB;omega
open Classical in
def JC(hG:GW V)(h:fM V U v sv ev s i cv bo pb)(hI:lN s)(hk:x.k=1):
 ∃U',bD (.func (.func 48) #[] #[]) [dd (V.next+2),zI x] U=some (.af (dY v s x),U')/\oE V U U' v sv ev s i x:=by
 refine qj h ?_ oN;unfold kK;obtain⟨U1,ki⟩:∃U1,U1=U.add (.cells (eA x)):=⟨_,rfl⟩;have l1:Le U U1:=by rw[ki];exact(Le.refl _).add _
 have n1:U1.next=U.next+1:=by rw[ki];rfl
 have hb:U1.get U.next=some (.cells (eA x)):=by rw[ki];exact AW.bf _ _
 have bx:=vC x U;rw[<-ki]at bx;have h1:=h.mono l1;have hnx:=h.nx;obtain⟨l5,l6,l7,l8,l9,RJ,lv⟩:=h1.ld;have lk:=h1.look x.wk;have hE:dY v s x=if(s.of x.wk).isSome=true then 8 else if s.cl.length=200 then 3 else if x.id≠(s.cl.length:Int)+1 then 6 else XW x.op:=by unfold dY;rw[ax hk]
 have bad:∀{e:Int},dY v s x=e->e≠0->(Value.int .i64 e=.af (dY v s x))/\oE V U U1 v sv ev s i x:=λhe h0=>⟨by rw[he],h1.le,by omega,λe=>absurd (he.symm.trans e) h0⟩
 cases ho:s.of x.wk with
 |some o=>rw[ho]at lk hE;simp only[bR,nO]at lk;simp only[SX,bx,aT,aU,l6,iq hb,lk,pNe,aq];exact bad hE (by decide)
 |none=>
 rw[ho]at lk hE;simp only[Option.map_none,Option.getD_none]at lk;rw[ay (by simp)]at hE;have dy:=hI.len;have ln:∀W',aD Tryz.prog .len #[33] 3 #[false] [cv] W'=some (.af (s.cl.length:Int),W'):=λW'=>Row.len (W:=U1) (z:=26) (at_:=iD 26 gT) (h1.c.lst.el.row eX (mY eX)) Ly W' 3 #[false]
 by_cases c1:s.cl.length=200
 ·rw[ax c1]at hE;have d1:decide ((s.cl.length:Int)=200)=true:=lV;simp only[SX,bx,aT,aU,l6,iq hb,lk,Ir,l5,ln,d1,aq];exact bad hE (by decide)
 rw[ay c1]at hE;have d1:decide ((s.cl.length:Int)=200)=false:=fF;have ad:=λW'=>eH W' (s.cl.length:Int) 1
 by_cases c2:x.id=(s.cl.length:Int)+1;case neg=>rw[ax c2]at hE;have d2:=bK c2;simp only[SX,bx,aT,aU,l6,iq hb,lk,Ir,l5,ln,d1,pd hb,ad,d2,aq];exact bad hE (by decide)
 rw[ay (by simpa using c2)]at hE;have d2:=br c2;have ck:=Kz x.op (hG.mono h1.le);by_cases c3:XW x.op=0;case neg=>have d3:=bK c3;simp only[SX,bx,aT,aU,l6,iq hb,lk,Ir,l5,ln,d1,pd hb,ad,d2,Bc hb,ck,d3,aq];exact bad hE c3
 rw[c3]at hE;have d3:=br c3;obtain⟨U2,kg⟩:∃U2,U2=U1.add (.cells [.af (s.cl.length:Int),.af 0,.bool false]):=⟨_,rfl⟩;have l2:Le U1 U2:=by rw[kg];exact(Le.refl _).add _
 have n2:U2.next=U1.next+1:=by rw[kg];rfl
 have bx2:cN (.agg #[.af (s.cl.length:Int),.af 0,.bool false]) U1=some (dd U1.next,U2):=by rw[kg];exact gH _
 have h2:=h1.mono l2;have g2:U2.get U1.next=some (.cells [.af ((⟨s.cl.length,0,false⟩:fY).c:Int),.af ((⟨s.cl.length,0,false⟩:fY).s:Int),.bool (⟨s.cl.length,0,false⟩:fY).e]):=by rw[kg];exact AW.bf _ _
 obtain⟨U3,m1,m2,m3,m4⟩:=h2.YK x.wk ⟨s.cl.length,0,false⟩ (B:=U1.next) (by omega) (by omega) g2 (λe=>by have:=h1.c.lt e;omega) (λj q hq=>by have:=(h1.p j q hq).2.1;omega);have BA:U3.get U.next=some (.cells (eA x)):=(m4 _ (by omega)).trans ((l2.get _ (by omega)).trans hb);obtain⟨q5,q6,q7,q8,q9,q10,-⟩:=m3.ld;obtain⟨wE,U4,U5,k1,k2,k3,k4⟩:=m3.push (by show s.cl.length<=1000;omega) ⟨x.id,x.wk,x.op,Aa,i,-1,-1⟩;simp only[SX,bx,aT,aU,l6,iq hb,lk,Ir,l5,ln,d1,pd hb,ad,d2,Bc hb,ck,d3,YV,bx2,m1,q5,q10,pd BA,iq BA,Bc BA,ac1,adx,k1,k2,aq];refine⟨by rw[hE],k4.le,by omega,λ_=>⟨wE,some (U3.next+1),λj=>if j=x.wk then U1.next else pb j,?_⟩⟩;have er:N7 s i x={s with cl:=s.cl++[⟨x.id,x.wk,x.op,Aa,i,-1,-1⟩],of:=λw=>if w=x.wk then some ⟨s.cl.length,0,false⟩else s.of w}:=by unfold N7;rw[ax hk]
 rw[er];exact k4
def To{W:AW}{b:Nat}{a c d:ae}(h:W.get b=some (.cells [a,c,d]))(e:Bool):cS 1 (.pointer (some ⟨b,2,none⟩)) (.bool e) W=some (ai,W.put b (.cells [a,c,.bool e])):=by rw[ky rfl rfl,KG h];rfl
def aaO(r:Jn):gu (VL r) (VL r)=true:=vm (by simp[Qq,rJ])
open Classical in
def Ll(h:fM V U v sv ev s i cv bo pb)(hI:lN s)(ho:s.of x.wk=some o)(hk:x.k=6):
 ∃U',bD (.func (.func 53) #[] #[]) [dd (V.next+2),zI x] U=some (.af (dY v s x),U')/\oE V U U' v sv ev s i x:=by
 refine qj h ?_ pA;unfold mj;obtain⟨U1,ki⟩:∃U1,U1=U.add (.cells (eA x)):=⟨_,rfl⟩;have l1:Le U U1:=by rw[ki];exact(Le.refl _).add _
 have n1:U1.next=U.next+1:=by rw[ki];rfl
 have hb:U1.get U.next=some (.cells (eA x)):=by rw[ki];exact AW.bf _ _
 have bx:=vC x U;rw[<-ki]at bx;have h1:=h.mono l1;obtain⟨l5,l6,l7,l8,l9,RJ,lv⟩:=h1.ld;have lk:=h1.look x.wk;rw[ho]at lk;simp only[bR,nO]at lk;obtain⟨p1,p2,p3,p4⟩:=h1.p _ _ ho;have pa:=hI.of _ _ ho;obtain⟨B,O6,hBn,hB,OA⟩:=h1.call pa;obtain⟨-,-,f3⟩:=qE hB pa;have Uf:aY (dd (pb x.wk)) U1=some (.af (o.c:Int),U1):=jE p4 rfl;have hE:dY v s x=if ES (a6 s o.c) o x.en then 0 else 6:=by unfold dY;rw[bX,ho];simp only[ay (show¬x.k=5 by omega),ax hk]
 have hnx:=h.nx;obtain⟨U2,kg⟩:∃U2,U2=U1.add (.cells (gT (a6 s o.c))):=⟨_,rfl⟩;have pt:=abt (a6 s o.c) U1;rw[<-kg]at pt;have l2:Le U1 U2:=by rw[kg];exact(Le.refl _).add _
 have n2:U2.next=U1.next+1:=by rw[kg];rfl
 have g2:U2.get U1.next=some (.cells (gT (a6 s o.c))):=by rw[kg];exact AW.bf _ _
 have ltk:b9 4 (.pointer (some ⟨U1.next,9,none⟩)) U2=some (.agg #[.int .u32 (a6 s o.c).op.t1,.int .u32 (a6 s o.c).op.t2,.int .u64 (a6 s o.c).op.t3,.int .u64 (a6 s o.c).op.t4],U2):=fJ (bw g2) rfl;have adb:=Gi ((l2.get _ (by omega)).trans hb);obtain⟨U3,GQ⟩:∃U3,U3=U2.add (.cells [.int .u32 (a6 s o.c).op.t1,.int .u32 (a6 s o.c).op.t2,.int .u64 (a6 s o.c).op.t3,.int .u64 (a6 s o.c).op.t4]):=⟨_,rfl⟩;obtain⟨U4,P9⟩:∃U4,U4=(U2.add (.cells [.int .u32 0,.int .u32 0,.int .u64 0,.int .u64 0])).add (.cells (PO Bg)):=⟨_,rfl⟩;have a2:bh Tryz.prog 60 (U2.add (.cells [.int .u32 0,.int .u32 0,.int .u64 0,.int .u64 0]))=some (dd (U2.next+1),U4):=by rw[aeG,P9,AW.aJ]
 have n4:U4.next=U2.next+2:=by rw[P9];rfl
 have g4:U4.get U2.next=some (.cells [.int .u32 0,.int .u32 0,.int .u64 0,.int .u64 0]):=by rw[P9];exact(AW.aZ _ _ (by rw[AW.aJ];omega)).trans (AW.bf _ _)
 have g4':U4.get (U2.next+1)=some (.cells (PO Bg)):=by rw[P9];exact AW.bf (U2.add _) _
 have l4:Le U2 U4:=by rw[P9];exact((Le.refl _).add _).add _
 have s4:=vH (n:=4) (vs:=#[.int .u32 (a6 s o.c).op.t1,.int .u32 (a6 s o.c).op.t2,.int .u64 (a6 s o.c).op.t3,.int .u64 (a6 s o.c).op.t4]) g4 rfl rfl rfl;obtain⟨U5,OG⟩:∃U5,U5=U4.put U2.next (.cells [.int .u32 (a6 s o.c).op.t1,.int .u32 (a6 s o.c).op.t2,.int .u64 (a6 s o.c).op.t3,.int .u64 (a6 s o.c).op.t4]):=⟨_,rfl⟩;have s4':cS 4 (dd U2.next) (.agg #[.int .u32 (a6 s o.c).op.t1,.int .u32 (a6 s o.c).op.t2,.int .u64 (a6 s o.c).op.t3,.int .u64 (a6 s o.c).op.t4]) U4=some (ai,U5):=by rw[OG];exact s4
 have l5':Le U2 U5:=by rw[OG];exact l4.put (aS _) _
 have g5:U5.get U2.next=some (.cells [.int .u32 (a6 s o.c).op.t1,.int .u32 (a6 s o.c).op.t2,.int .u64 (a6 s o.c).op.t3,.int .u64 (a6 s o.c).op.t4]):=by rw[OG];exact AW.bH _ _ _
 have g5':U5.get (U2.next+1)=some (.cells (PO Bg)):=by rw[OG];exact(AW.aE _ _ (by omega)).trans g4'
 have adi:=Gi ((l5'.get _ (by omega)).trans ((l2.get _ (by omega)).trans hb));have s5:=vH (n:=5) (vs:=(PO x.en).toArray) g5' rfl rfl rfl;obtain⟨U6,hU6⟩:∃U6,U6=U5.put (U2.next+1) (.cells (PO x.en)):=⟨_,rfl⟩;have s5':cS 5 (dd (U2.next+1)) (VL x.en) U5=some (ai,U6):=by rw[hU6];exact s5
 have n5:U5.next=U4.next:=by rw[OG];rfl
 have n6:U6.next=U5.next:=by rw[hU6];rfl
 have l6':Le U2 U6:=by rw[hU6];exact l5'.put (by omega) _
 have g6:U6.get U2.next=some (.cells [.int .u32 (a6 s o.c).op.t1,.int .u32 (a6 s o.c).op.t2,.int .u64 (a6 s o.c).op.t3,.int .u64 (a6 s o.c).op.t4]):=by rw[hU6];exact(AW.aE _ _ (by omega)).trans g5
 have g6':U6.get (U2.next+1)=some (.cells (PO x.en)):=by rw[hU6];exact AW.bH _ _ _
 have gc6:U6.get U1.next=some (.cells (gT (a6 s o.c))):=(l6'.get _ (by omega)).trans g2;have h6:=h1.mono (l2.trans l6');obtain⟨r1,r2,r3,r4⟩:=h6.p _ _ ho;have e0:aY (dd (U2.next+1)) U6=some (.int .u32 x.en.se,U6):=jE g6' rfl;have e1:aY (.pointer (some ⟨U2.next+1,1,none⟩)) U6=some (.int .u64 x.en.sr,U6):=jE g6' rfl;have e2:aY (.pointer (some ⟨U2.next+1,2,none⟩)) U6=some (.int .u64 x.en.ep,U6):=jE g6' rfl;have e3:aY (.pointer (some ⟨U2.next+1,3,none⟩)) U6=some (.af x.en.ga,U6):=jE g6' rfl;have e4:aY (.pointer (some ⟨U2.next+1,4,none⟩)) U6=some (.af x.en.ti,U6):=jE g6' rfl;have t0:aY (dd U2.next) U6=some (.int .u32 (a6 s o.c).op.t1,U6):=jE g6 rfl;have t2:aY (.pointer (some ⟨U2.next,2,none⟩)) U6=some (.int .u64 (a6 s o.c).op.t3,U6):=jE g6 rfl;have t3:aY (.pointer (some ⟨U2.next,3,none⟩)) U6=some (.int .u64 (a6 s o.c).op.t4,U6):=jE g6 rfl;have c2:aY (.pointer (some ⟨U1.next,2,none⟩)) U6=some (.af (a6 s o.c).op.k,U6):=jE gc6 rfl;have OE:aY (.pointer (some ⟨U1.next,24,none⟩)) U6=some (.af (a6 s o.c).co,U6):=jE gc6 rfl;have PE:aY (.pointer (some ⟨U1.next,14,none⟩)) U6=some (.af (a6 s o.c).rp.er,U6):=jE gc6 rfl;have Ri:aY (.pointer (some ⟨pb x.wk,2,none⟩)) U6=some (.bool o.e,U6):=jE r4 rfl;have sB:=To r4 true;have h7:=h6.YA ho ⟨o.c,o.s,true⟩;have bad:¬ES (a6 s o.c) o x.en->(Value.int .i64 6=.af (dY v s x))/\oE V U U6 v sv ev s i x:=λhm=>by
  have he:dY v s x=6:=by rw[hE,ay hm]
  exact⟨by rw[he],h6.le,by omega,λe=>by rw[he]at e;exact absurd e (by decide)⟩
 simp only[SX,bx,aT,aU,l6,iq hb,lk,l5,Uf,OA,f3,aeD,pt,ltk,adb,adn,a2,s4',ph,adi,aaO,ov,s5',e0,t0];by_cases a1:x.en.se=(a6 s o.c).op.t1;case neg=>
  have q1:=bK a1;have nm:¬ES (a6 s o.c) o x.en:=λm=>a1 m.2.2.2.2.1
  simp only[SX,q1,c2];by_cases b1:(a6 s o.c).op.k=9<;>by_cases b2:(a6 s o.c).co<0<;>by_cases b3:(a6 s o.c).rp.er=0<;>cases b4:o.e<;>
   simp only[SX,b1,b2,b3,b4,aU,OE,PE,aT,Ri,aq]<;>exact bad nm
 have q1:=br a1;simp only[SX,q1,e1,t2];by_cases a2:x.en.sr=(a6 s o.c).op.t3;case neg=>
  have q2:=bK a2;have nm:¬ES (a6 s o.c) o x.en:=λm=>a2 m.2.2.2.2.2.1
  simp only[SX,q2,c2];by_cases b1:(a6 s o.c).op.k=9<;>by_cases b2:(a6 s o.c).co<0<;>by_cases b3:(a6 s o.c).rp.er=0<;>cases b4:o.e<;>
   simp only[SX,b1,b2,b3,b4,aU,OE,PE,aT,Ri,aq]<;>exact bad nm
 have q2:=br a2;simp only[SX,q2,e2,t3];by_cases a3:x.en.ep=(a6 s o.c).op.t4;case neg=>
  have q3:=bK a3;have nm:¬ES (a6 s o.c) o x.en:=λm=>a3 m.2.2.2.2.2.2.1
  simp only[SX,q3,c2];by_cases b1:(a6 s o.c).op.k=9<;>by_cases b2:(a6 s o.c).co<0<;>by_cases b3:(a6 s o.c).rp.er=0<;>cases b4:o.e<;>
   simp only[SX,b1,b2,b3,b4,aU,OE,PE,aT,Ri,aq]<;>exact bad nm
 have q3:=br a3;simp only[SX,q3,c2];by_cases b1:(a6 s o.c).op.k=9;case neg=>have d:=bK b1;simp only[SX,d,aq];exact bad λm=>b1 m.1
 have d1:=br b1;by_cases b2:(a6 s o.c).co<0
 ·have d:=br b2;simp only[SX,d1,OE,d,aq];exact bad λm=>by have:=m.2.1;omega
 have d2:=bK b2;by_cases b3:(a6 s o.c).rp.er=0;case neg=>have d:=bK b3;simp only[SX,d1,OE,d2,PE,d,aq];exact bad λm=>b3 m.2.2.1
 have d3:=br b3;cases b4:o.e with
 |true=>simp only[SX,d1,OE,d2,PE,d3,aT,Ri,b4,aU,aq];exact bad λm=>by have:=m.2.2.2.1;rw[b4]at this;cases this
 |false=>
 by_cases b5:x.en.ga<0
 ·have d:=br b5;simp only[SX,d1,OE,d2,PE,d3,aT,Ri,b4,e3,d,aU,aq];exact bad λm=>by have:=m.2.2.2.2.2.2.2.1;omega
 have d5:=bK b5;by_cases b6:8<=x.en.ga
 ·have d:=br b6;simp only[SX,d1,OE,d2,PE,d3,aT,Ri,b4,e3,d5,d,aU,aq];exact bad λm=>by have:=m.2.2.2.2.2.2.2.2.1;omega
 have d6:=bK b6;by_cases b7:x.en.ti<0
 ·have d:=br b7;simp only[SX,d1,OE,d2,PE,d3,aT,Ri,b4,e3,d5,d6,e4,d,aU,aq];exact bad λm=>by have:=m.2.2.2.2.2.2.2.2.2;omega
 have d7:=bK b7;have hm:ES (a6 s o.c) o x.en:=⟨b1,by omega,b3,b4,a1,a2,a3,by omega,by omega,by omega⟩;have he:dY v s x=0:=by rw[hE,ax hm]
 simp only[SX,d1,OE,d2,PE,d3,aT,Ri,b4,e3,d5,d6,e4,d7,aU,sB,aq];refine⟨by rw[he],h7.le,by rw[AW.cu];omega,λ_=>⟨cv,bo,pb,?_⟩⟩;have er:N7 s i x={s with of:=λw=>if w=x.wk then some ⟨o.c,o.s,true⟩else s.of w}:=by unfold N7;rw[bX,ho];simp only[ay (show¬x.k=5 by omega),ax hk]
 rw[er];exact h7
end
abbrev yN(v:ce)(sv ev:ae):List ae:=[.af v.sh,.af v.CL,.af v.CQ,sv,ev]
abbrev tU(v:ce)(sv ev:ae):ae:=.agg (yN v sv ev).toArray
def MJ(v:ce)(sv ev:ae)(W:AW):cN (tU v sv ev) W=some (dd W.next,W.add (.cells (yN v sv ev))):=gH _
structure K4 (W:AW) (v:ce) (sv ev:ae) (l:List cC):Prop where
 aB:eG W sv v.aB
 small:v.aB.length<1000
 rows:∀s∈v.aB,s.rows.length<1000
 QX:Rx W ev l
def K4.mono{W W':AW}{v:ce}{sv ev:ae}{l:List cC}(h:K4 W v sv ev l)(bk:Le W W'):K4 W' v sv ev l:=⟨h.aB.mono bk,h.small,h.rows,h.QX.mono bk⟩
def aey(W:AW):kI Tryz.prog 91 none W=some (.map (some W.next),W.add (.map [] 0)):=rfl
def acQ(W:AW):kI Tryz.prog 92 none W=some (.map (some W.next),W.add (.map [] 0)):=rfl
def Gj:eY.all Eng.one=true:=rfl
def Rr(W:AW):bh Tryz.prog 110 W=some (dd W.next,W.add (.cells [.nilFunc,.nilFunc,.nilFunc,.nilFunc,.nilFunc,.nilFunc,.nilFunc])):=aL (by kernel_rfl) rfl
def Xe(W:AW):cn Tryz.prog 110 [(0,.nilFunc),(1,.func (.func 48) #[] #[]),(2,.func (.func 49) #[] #[]),(3,.func (.func 50) #[] #[]),(4,.func (.func 51) #[] #[]),(5,.func (.func 52) #[] #[]),(6,.func (.func 53) #[] #[])] W=some (.agg eY.toArray,W):=aL (by kernel_rfl) rfl
def abk(x:ae)(W:AW):ic Tryz.prog 110 x W=b9 7 x W:=by kernel_rfl
def ae7(v:ce)(sv ev:ae)(a b:Nat)(W:AW):cn Tryz.prog 94 [(0,tU v sv ev),(2,.map (some a)),(3,.map (some b)),(5,.af (-1))] W=some (.agg (zz v sv ev (.slice none 0 0) a b 0 (-1) 0).toArray,W):=aL (by kernel_rfl) rfl
def QS(W:AW):cS 7 (dd W.next) (.agg eY.toArray) (W.add (.cells [.nilFunc,.nilFunc,.nilFunc,.nilFunc,.nilFunc,.nilFunc,.nilFunc]))=some (ai,W.add (.cells eY)):=by have:=vH (n:=7) (vs:=eY.toArray) (AW.bf W (.cells [.nilFunc,.nilFunc,.nilFunc,.nilFunc,.nilFunc,.nilFunc,.nilFunc])) rfl rfl Gj;rwa [sN]at this
def L5(W:AW):bD (.func (.func 34) #[] #[]) [] W=some (.agg eY.toArray,W.add (.cells eY)):=by
 have h:nC bD W=some (.agg eY.toArray,W.add (.cells eY)):=by unfold nC;have g:(W.add (.cells eY)).get W.next=some (.cells eY):=AW.bf _ _;have l7:b9 7 (dd W.next) (W.add (.cells eY))=some (.agg eY.toArray,W.add (.cells eY)):=fJ (bw g) rfl;simp only[SX,Rr,Xe,QS,HZ,abk,l7,bl]
 have h2:=wt h;rw[h2];unfold gc;rw[ay (by rintro⟨e,-⟩;have e2:(a7 (Value.agg eY.toArray)&& !VS (Value.agg eY.toArray))=true:=e;rw[show a7 (Value.agg eY.toArray)=false from rfl,pH]at e2;cases e2)]
section
variable {V U:AW} {v:ce} {sv ev cv:ae} {s:RS} {l:List cC} {i:Nat} {bo:Option Nat} {pb:Int->Nat} {x:cC}
def QR(hG:GW V)(h:fM V U v sv ev s i cv bo pb)(hI:lN s)(hs:eG V sv v.aB)(hv:v.aB.length<1000)(hk:1<=x.k/\x.k<=6)(hn:kP s x=0):
 ∃f U',(aY (.pointer (some ⟨V.next+4,x.k.toNat,none⟩)) U=some (f,U))/\bD f [dd (V.next+2),zI x] U=some (.af (dY v s x),U')/\oE V U U' v sv ev s i x:=by
 by_cases c1:x.k=1
 ·obtain⟨U',k1,k2⟩:=JC hG h hI c1;exact⟨_,U',by rw[c1];exact jE h.r rfl,k1,k2⟩
 unfold kP at hn;rw[ay c1]at hn;cases ho:s.of x.wk with
 |none=>rw[ho]at hn;exact absurd (show(4:Int)=0 from hn) (by decide)
 |some o=>
  rcases(by omega:x.k=2\/x.k=3\/x.k=4\/x.k=5\/x.k=6)with c|c|c|c|c
  ·obtain⟨U',k1,k2⟩:=QQ hG h hI ho hs hv c;exact⟨_,U',by rw[c];exact jE h.r rfl,k1,k2⟩
  ·obtain⟨U',k1,k2⟩:=Jh hG h hI ho hs hv c;exact⟨_,U',by rw[c];exact jE h.r rfl,k1,k2⟩
  ·obtain⟨U',k1,k2⟩:=Pk hG h hI ho hs hv c;exact⟨_,U',by rw[c];exact jE h.r rfl,k1,k2⟩
  ·obtain⟨U',k1,k2⟩:=Jj hG h hI ho hs hv c;exact⟨_,U',by rw[c];exact jE h.r rfl,k1,k2⟩
  ·obtain⟨U',k1,k2⟩:=Ll h hI ho c;exact⟨_,U',by rw[c];exact jE h.r rfl,k1,k2⟩
end
def lN.tn{s:RS}(h:lN s)(x:cC):lN (JS s x):=⟨h.ids,h.of,h.len,h.wk,h.steps⟩
def GnA(W:AW)(v:ce)(sv ev:ae)(l:List cC)(q:ae)(W':AW):Prop:=∃a e:Int,rq v l a e/\Le W W'/\
 ((e≠0/\q=.tuple #[.pointer none,.af a,.af e])\/(e=0/\∃(s:RS) (V:AW) (cv:ae) (bo:Option Nat) (pb:Int->Nat) (t:Int),eT v l l.length s/\q=.tuple #[dd (V.next+2),.af 0,.af 0]/\Le W V/\fM V W' v sv ev s t cv bo pb))
section
variable {W V:AW} {v:ce} {sv ev:ae} {l:List cC} {ρ:Type}
def CX{R:aj.Fr}{U:AW}{K:LT->Option ρ}{G:ρ->Prop}{cv0:ae}{bo0:Option Nat}{pb0:Int->Nat}(hG:GW V)(hr:Rx W ev l)(hz:Le W V)(hs:eG V sv v.aB)(hv:v.aB.length<1000)(hl:l.length<=2000)
 (h:fM V U v sv ev RS.init 0 cv0 bo0 pb0)(r7:R 7=dd (V.next+2))(r8:R 8=dd (V.next+4))(fk:R 35=ev)(gh:R 36=.af (l.length:Int))(ii:R 37=.af 0)
 (hK0:∀R' U' s cv bo pb t,eT v l l.length s->fM V U' v sv ev s t cv bo pb->R' 7=dd (V.next+2)->Ok (K (.exit 0,R',U')) G)
 (hK1:∀R' U' k s x,eT v l k s->l[k]? =some x->zw v s x≠0->Le V U'->R' 2=.pointer none->R' 3=.af (k:Int)->R' 4=.af (zw v s x)->Ok (K (.ret,R',U')) G):
 Ok (ak (dP (iI bD) R U) K) G:=by
 refine df l.length (by omega) (λi R U=>R 7=dd (V.next+2)/\R 8=dd (V.next+4)/\R 35=ev/\R 36=.af (l.length:Int)/\R 37=.af (i:Int)/\∃s cv bo pb t,eT v l i s/\fM V U v sv ev s t cv bo pb)
  (λr=>(r.1=.exit 0/\r.2.1 7=dd (V.next+2)/\∃s cv bo pb t,eT v l l.length s/\fM V r.2.2 v sv ev s t cv bo pb)\/(r.1=.ret/\Le V r.2.2/\∃k s x,eT v l k s/\l[k]? =some x/\zw v s x≠0/\r.2.1 2=.pointer none/\r.2.1 3=.af (k:Int)/\r.2.1 4=.af (zw v s x)))
  ⟨r7,r8,fk,gh,ii,_,_,_,_,_,.zero,h⟩ ?_ ?_ ?_
 ·rintro i R U hi ⟨r7,r8,fk,gh,ii,s,cv,bo,pb,t,da,h⟩;unfold iI;have t1:decide ((i:Int)<(l.length:Int))=true:=lV;have t2:=λW'=>eH W' i 1
  have e3:((i+1:Nat):Int)=(i:Int)+1:=by omega
  obtain⟨p,p1,p2⟩:=hr.get hi;have hx:l[i]? =some l[i]:=cx hi;generalize l[i]=x at *;have hI:=da.inv;have hnx:=h.nx;obtain⟨U1,ki⟩:∃U1,U1=U.add (.cells (eA x)):=⟨_,rfl⟩;have l1:Le U U1:=by rw[ki];exact(Le.refl _).add _
  have n1:U1.next=U.next+1:=by rw[ki];rfl
  have hb:U1.get U.next=some (.cells (eA x)):=by rw[ki];exact AW.bf _ _
  have pt:=L4 x U;rw[<-ki]at pt;have h1:=h.mono l1;have aaa:cS 1 (.pointer (some ⟨V.next+2,10,none⟩)) (.af (i:Int)) U1=some (ai,U1.put (V.next+2) (.cells (zz v sv ev cv V.next (V.next+1) s.tn s.st i))):=by rw[kw,gb h1.w];rfl
  have h2:fM V (U1.put (V.next+2) (.cells (zz v sv ev cv V.next (V.next+1) s.tn s.st i))) v sv ev s i cv bo pb:=h1.put s.tn s.st i;obtain⟨U2,kg⟩:∃U2,U2=U1.put (V.next+2) (.cells (zz v sv ev cv V.next (V.next+1) s.tn s.st i)):=⟨_,rfl⟩;rw[<-kg]at aaa h2;have n2:U2.next=U1.next:=by rw[kg];rfl
  have gW:U2.get U.next=some (.cells (eA x)):=by rw[kg];exact(AW.aE _ _ (by omega)).trans hb
  obtain⟨U3,k1,k2,k3,k4,k5⟩:=FB h2 hI x;have BA:U3.get U.next=some (.cells (eA x)):=(k4 _ (by omega) (by omega)).trans gW;have YB:=UH v s x;have hC:vF s x=if dO s x≠0 then dO s x else kP s x:=rfl
  simp only[SX,r7,fk,gh,ii,t1,p1,p2 _ (hz.trans h.le),TZ,pt,aT,aU,aaa,nH gW,k1];by_cases c1:vF s x=0;case neg=>
   have d1:=bK c1;have he:zw v s x=vF s x:=by
    rw[YB,hC];by_cases c:dO s x≠0
    ·rw[ax c,ax c]
    ·rw[ay c,ay c];have:kP s x≠0:=λe=>c1 (by rw[hC,ay c];exact e)
     rw[ax this]
   simp only[SX,d1];unfold fQ;simp only[SX,d1,aq];exact .inr ⟨by simp,.inr ⟨aF,k2,i,s,x,da,hx,by rw[he];exact c1,rfl,rfl,by rw[he];rfl⟩⟩
  have d1:=br c1;have hh:dO s x=0:=by
   by_cases c:dO s x=0
   ·exact c
   ·rw[hC,ax c]at c1;exact absurd c1 c
  have hn:kP s x=0:=by rw[hC,ay (by simpa using hh)]at c1;exact c1
  have he:zw v s x=dY v s x:=by rw[YB,ay (by simpa using hh),ay (by simpa using hn)]
  have hk:=(rY hh).1;obtain⟨f,U4,f1,f2,f3,f4,f5⟩:=QR hG (k5 hh) (hI.tn x) hs hv hk (by exact hn);rw[L0]at f2 f5;have ix:∀W',Ik 7 1 (dd (V.next+4)) (.af x.k) W'=some (.pointer (some ⟨V.next+4,x.k.toNat,none⟩),W'):=λW'=>by have:=BP (len:=7) (z:=1) (b:=V.next+4) (o:=0) (i:=x.k.toNat) (k:=.i64) (W:=W') (by omega);rw[show((x.k.toNat:Nat):Int)=x.k by omega,aU,kp]at this;exact this
  simp only[SX,d1,Di BA,r8,ix,f1,nH BA,f2];unfold fQ;by_cases c2:dY v s x=0
  ·have d2:=br c2;obtain⟨wE,VW,Fm,f6⟩:=f5 c2;simp only[SX,d2,t2,aq];refine .inl ⟨aF,r7,r8,fk,gh,by rw[e3];rfl,_,wE,VW,Fm,i,.succ da hx (by rw[he];exact c2),?_⟩;rw[Vp hn];exact f6
  ·have d2:=bK c2;simp only[SX,d2,aq];exact .inr ⟨by simp,.inr ⟨aF,f3,i,s,x,da,hx,by rw[he];exact c2,rfl,rfl,by rw[he];rfl⟩⟩
 ·rintro R U ⟨r7,r8,fk,gh,ii,s,cv,bo,pb,t,da,h⟩;unfold iI;have t1:decide ((l.length:Int)<(l.length:Int))=false:=fF;simp only[SX,gh,ii,t1,aq];exact⟨by simp,.inl ⟨aF,r7,s,cv,bo,pb,t,da,h⟩⟩
 ·rintro⟨e,R,U⟩ (⟨rfl,q7,s,cv,bo,pb,t,h1,h2⟩|⟨rfl,h0,k,s,x,h1,h2,h3,h4,h5,h6⟩)
  ·exact hK0 R U s cv bo pb t h1 h2 q7
  ·exact hK1 R U k s x h1 h2 h3 h0 h4 h5 h6
def Hw(hG:GW W)(h:K4 W v sv ev l):∃q W',bD (.func (.func 24) #[] #[]) [tU v sv ev] W=some (q,W')/\GnA W v sv ev l q W':=by
 have nK:Ok (px bD (tU v sv ev) W) λr=>GnA W v sv ev l r.1 r.2:=by
  unfold px;obtain⟨V,hV⟩:∃V,V=W.add (.cells (yN v sv ev)):=⟨_,rfl⟩;have bk:Le W V:=by rw[hV];exact(Le.refl _).add _
  have g0:V.get W.next=some (.cells (yN v sv ev)):=by rw[hV];exact AW.bf _ _
  have bx:=MJ v sv ev W;rw[<-hV]at bx;have nV:V.next=W.next+1:=by rw[hV];rfl
  have l4:b9 4 (dd W.next) V=some (jA v sv,V):=fJ (bw g0) rfl;have l5:b9 5 (dd W.next) V=some (tU v sv ev,V):=fJ (bw g0) rfl;have le4:aY (.pointer (some ⟨W.next,4,none⟩)) V=some (ev,V):=jE g0 rfl;have ck:=mc (h.aB.mono bk) h.small;by_cases c1:(iM v).2=0;case neg=>have d1:=bK c1;simp only[SX,bx,aU,l4,ck,d1,aq];exact⟨-1,_,.Ty c1,bk,.inl ⟨c1,rfl⟩⟩
  have d1:=br c1;have ln:∀W',aD Tryz.prog .len #[25] 3 #[false] [ev] W'=some (.af (l.length:Int),W'):=λW'=>Row.len h.QX DJ W' 3 #[false]
  by_cases c2:2000<l.length
  ·have d2:decide ((2000:Int)<(l.length:Int))=true:=lV;simp only[SX,bx,aU,l4,ck,d1,le4,ln,d2,aq];exact⟨-1,3,.len c1 c2,bk,.inl ⟨by decide,rfl⟩⟩
  have d2:decide ((2000:Int)<(l.length:Int))=false:=fF;obtain⟨U1,ki⟩:∃U1,U1=V.add (.map [] 0):=⟨_,rfl⟩;have n1:U1.next=V.next+1:=by rw[ki];rfl
  obtain⟨U2,kg⟩:∃U2,U2=U1.add (.map [] 0):=⟨_,rfl⟩;have n2:U2.next=V.next+2:=by rw[kg,AW.aJ,n1]
  obtain⟨U3,GQ⟩:∃U3,U3=U2.add (.cells (zz v sv ev (.slice none 0 0) V.next (V.next+1) 0 (-1) 0)):=⟨_,rfl⟩;have n3:U3.next=V.next+3:=by rw[GQ,AW.aJ,n2]
  obtain⟨U4,P9⟩:∃U4,U4=U3.add (.cells eY):=⟨_,rfl⟩;have n4:U4.next=V.next+4:=by rw[P9,AW.aJ,n3]
  obtain⟨U5,OG⟩:∃U5,U5=U4.add (.cells eY):=⟨_,rfl⟩;have n5:U5.next=V.next+5:=by rw[OG,AW.aJ,n4]
  have q1:Le V U1:=by rw[ki];exact(Le.refl _).add _
  have q2:Le U1 U2:=by rw[kg];exact(Le.refl _).add _
  have q3:Le U2 U3:=by rw[GQ];exact(Le.refl _).add _
  have q4:Le U3 U4:=by rw[P9];exact(Le.refl _).add _
  have q5:Le U4 U5:=by rw[OG];exact(Le.refl _).add _
  have m1:kI Tryz.prog 91 none V=some (.map (some V.next),U1):=by rw[aey,ki]
  have m2:kI Tryz.prog 92 none U1=some (.map (some (V.next+1)),U2):=by rw[acQ,kg,n1]
  have m3:cN (.agg (zz v sv ev (.slice none 0 0) V.next (V.next+1) 0 (-1) 0).toArray) U2=some (dd (V.next+2),U3):=by rw[GQ,<-n2];exact gH _
  have m4:=L5 U3;rw[<-P9]at m4;have m5:=Rr U4;have m6:=QS U4;rw[<-OG]at m6;rw[n4]at m5 m6;have M0:ni U5 V.next (λk=>((RS.init).of k).map λ_=>dd 0) 0:=by
   have:ni U1 V.next (λ_=>none) 0:=by rw[ki];exact C9
   exact this.dD ((((q2.trans q3).trans q4).trans q5).get _ (by omega))
  have M1:ni U5 (V.next+1) (λk=>((RS.init).lk k).map (Value.int .i64)) 0:=by
   have:ni U2 (V.next+1) (λ_=>none) 0:=by rw[kg,<-n1];exact C9
   exact this.dD (((q3.trans q4).trans q5).get _ (by omega))
  have h5:fM V U5 v sv ev RS.init 0 (.slice none 0 0) none (λ_=>0):=by refine⟨(((q1.trans q2).trans q3).trans q4).trans q5,by omega,?_,by rw[OG,<-n4];exact AW.bf _ _,.inl ⟨rfl,rfl,rfl⟩,⟨0,M0⟩,⟨0,M1⟩,λk o hk=>(by simp[RS.init]at hk),λB hB=>(by cases hB),λk k' o o' hk=>(by simp[RS.init]at hk)⟩;rw[(q4.trans q5).get _ (by omega),GQ,<-n2];exact AW.bf _ _
  have le5:aY (.pointer (some ⟨V.next+2,4,none⟩)) U5=some (ev,U5):=jE h5.w rfl;simp only[SX,bx,aU,l4,ck,d1,le4,ln,d2,l5,m1,m2,ae7,m3,m4,m5,m6,aT,le5];refine CX (V:=V) (l:=l) (hG.mono bk) h.QX bk (h.aB.mono bk) h.small (by omega) h5 rfl rfl rfl rfl rfl ?_ ?_
  ·intro R' U' s cv bo pb t da hw q7;simp only[SX,q7,aq];exact⟨0,0,.ok c1 (by omega) da,bk.trans hw.le,.inr ⟨rfl,s,V,cv,bo,pb,t,da,rfl,bk,hw⟩⟩
  ·intro R' U' k s x da hx he hw q2 q3 q4;simp only[SX,q2,q3,q4,aq];exact⟨k,_,.bad c1 (by omega) da hx he,bk.trans hw,.inl ⟨he,rfl⟩⟩
 refine sD (Q:=λq W'=>GnA W v sv ev l q W') nK zu (λq W' ⟨a,e,h1,h2,h3⟩ bk hp=>?_);rcases h3 with⟨he,rfl⟩|⟨rfl,s,V,cv,bo,pb,t,k1,rfl,k3,k4⟩
 ·exact⟨a,e,h1,.refl _,.inl ⟨he,rfl⟩⟩
 ·exfalso;simp[a7,dI,bZ]at hp
end
section
variable {W:AW} {v:ce} {sv ev:ae} {l:List cC}
def yj(v:ce)(sv ev:ae)(W:AW):∃V,cN (tU v sv ev) W=some (dd W.next,V)/\Le W V/\V.next=W.next+1/\V.get W.next=some (.cells (yN v sv ev)):=
 ⟨_,MJ v sv ev W,(Le.refl _).add _,rfl,AW.bf _ _⟩
def fN{U:AW}{b:Nat}(g:U.get b=some (.cells (yN v sv ev))):b9 5 (dd b) U=some (tU v sv ev,U):=fJ (bw g) rfl
def me(hG:GW W)(h:K4 W v sv ev l):∃a e:Int,rq v l a e/\bD (.func (.func 8) #[] #[]) [tU v sv ev] W=some (.tuple #[.af a,.af e],W):=by
 obtain⟨V,bx,bk,nV,g0⟩:=yj v sv ev W;obtain⟨q,W',k1,a,e,hA,k2,k3⟩:=Hw (hG.mono bk) (h.mono bk);refine⟨a,e,hA,cG rfl ?_ ww⟩;unfold sI;rcases k3 with⟨he,rfl⟩|⟨rfl,s,V',cv,bo,pb,t,da,rfl,hz,hw⟩
 ·simp only[SX,bx,fN g0,k1,aq];exact⟨aF,bk.trans k2⟩
 ·obtain⟨rfl,-⟩:=hA.QF;simp only[SX,bx,fN g0,k1,aq];exact⟨aF,bk.trans k2⟩
def Dk(hG:GW W)(h:K4 W v sv ev l):∃(a e:Int) (u:ae) (W':AW),rq v l a e/\bD (.func (.func 10) #[] #[]) [tU v sv ev] W=some (.tuple #[u,.af e],W')/\Le W W'/\((e≠0/\u=.slice none 0 0)\/(e=0/\∃s,eT v l l.length s/\We W' u s.cl)):=by
 obtain⟨V,bx,bk,nV,g0⟩:=yj v sv ev W;obtain⟨q,W',k1,a,e,hA,k2,k3⟩:=Hw (hG.mono bk) (h.mono bk);have nK:Ok (nF bD (tU v sv ev) W) λr=>∃u,r.1=.tuple #[u,.af e]/\Le W r.2/\((e≠0/\u=.slice none 0 0)\/(e=0/\∃s,eT v l l.length s/\We r.2 u s.cl)):=by
  unfold nF;rcases k3 with⟨he,rfl⟩|⟨rfl,s,V',cv,bo,pb,t,da,rfl,hz,hw⟩
  ·have d:=bK he;simp only[SX,bx,fN g0,k1,d,aq];exact⟨_,rfl,bk.trans k2,.inl ⟨he,rfl⟩⟩
  ·have d:decide ((0:Int)=0)=true:=rfl;obtain⟨l5,-⟩:=hw.ld;simp only[SX,bx,fN g0,k1,aT,aU,l5,aq];exact⟨_,rfl,bk.trans k2,.inr ⟨aF,s,da,hw.c.lst.el.row eX (mY eX)⟩⟩
 obtain⟨q',W2,h1,u,rfl,h2,h3⟩:=sD (Q:=λq W'=>∃u,q=.tuple #[u,.af e]/\Le W W'/\((e≠0/\u=.slice none 0 0)\/(e=0/\∃s,eT v l l.length s/\We W' u s.cl))) nK wz
  (λq W' ⟨u,e1,a,b⟩ bk hp=>⟨u,e1,.refl _,by
    subst e1;rcases b with b|⟨h0,s,hr,hc⟩
    ·exact .inl b
    ·refine .inr ⟨h0,s,hr,?_⟩;obtain⟨a',c',rfl,hc⟩:=hc;refine⟨a',c',rfl,?_⟩;rcases hc with hc|⟨b0,o0,cs,rfl,-⟩
     ·exact .inl hc
     ·simp[a7,dI,bZ]at hp⟩)
 exact⟨a,e,u,W2,hA,h1,h2,h3⟩
end
abbrev iK:ae:=.slice none 0 0
section
variable {v:ce} {sv ev cv lv:ae} {f g:Int->Option fY} {tn st:Int} {W:AW} {b:Nat}
end
open Classical in
open Classical in
def VB{α:Type}{W:AW}{z:Nat}{f:α->List ae}{v:ae}{l:List α}(hf:∀a,(f a).length=z)(h:Rd W z f v l):Row W z (iD z f) v l:=by
 obtain⟨a,c,rfl,h⟩:=h;refine⟨a,c,rfl,?_⟩;rcases h with h|⟨b,o,cs,rfl,h2,h3,h4⟩
 ·exact .inl h
 ·refine .inr ⟨b,o,cs,rfl,h2,h3,λi hi=>?_⟩;show(cs.drop (o+i*z)).take z=f l[i];have e1:((cs.drop o).take (l.length*z)).drop (i*z)=(l.drop i).flatMap f:=by rw[h4,IF hf]
  rw[List.drop_take,oe]at e1;have e2:(l.drop i).flatMap f=f l[i]++(l.drop (i+1)).flatMap f:=by rw[oz hi,ly]
  have e3:=cg (List.take z) e1;have hz:z<=l.length*z-i*z:=by rw[<-Nat.sub_mul];exact Nat.le_mul_of_pos_left z (by omega)
  rw[tC,mG hz,e2,<-hf l[i],tj]at e3;rw[hf]at e3;exact e3
def nT:ce:=⟨0,0,0,[]⟩
section
variable {W:AW} {v:ce} {sv ev:ae} {l:List cC}
end
section
variable {W W' U:AW} {n:Nat} {c0 l0:ae} {v:ce} {sv ev cv lv val:ae} {s s':RS} {e:Int} {f:Int->Option fY} {tn st:Int} {b1 b2:Nat}
end
section
variable {W:AW} {v:ce} {sv ev cv lv:ae} {s:RS} {l:List cC} {i:Nat} {x:cC}
open Classical in
end
section
variable {W:AW} {v:ce} {sv ev cv lv:ae} {s:RS} {l:List cC} {i:Nat} {x:cC} {o:fY}
open Classical in
end
section
variable {W U U':AW} {v:ce} {sv ev cv lv:ae} {s:RS} {f f':Int->Option fY} {tn st:Int} {i:Nat} {x:cC} {o:fY}
end
def av(z:Nat)(c:ae):Prop:=∀a k m,c=.slice (some a) k m->k≠0->a.block≠z
section
variable {W V U:AW} {v:ce} {sv ev cv lv:ae} {s:RS} {f:Int->Option fY} {tn st:Int} {l:List cC} {i:Nat} {x:cC} {o:fY}
open Classical in
end
def Sg(W:AW):aC Tryz.prog 64 0 [] W=some (.slice (some ⟨W.next,0,none⟩) 0 0,W.add (.cells [])):=aL (by kernel_rfl) rfl
def AQ(n:Int):(pi n).length=1:=rfl
def J2(n:Int):(pi n).all Eng.one=true:=rfl
section
variable {W V U:AW} {v:ce} {sv ev cv lv:ae} {s:RS} {f:Int->Option fY} {tn st:Int} {l:List cC} {i:Nat} {x:cC} {o:fY}
open Classical in
end
section
variable {W V U:AW} {v:ce} {sv ev cv lv:ae} {s:RS} {f:Int->Option fY} {tn st:Int} {l:List cC} {i:Nat} {x:cC} {o:fY}
end
section
variable {W V U:AW} {v:ce} {sv ev cv lv:ae} {s:RS} {l:List cC} {i:Nat} {x:cC}
end
section
variable {W V U:AW} {v:ce} {sv ev cv lv:ae} {s:RS} {l:List cC} {i:Nat} {x:cC}
end
abbrev Fl(y:jo):List ae:=[.af y.id,.af y.fr,.af y.to]
abbrev spV(y:jo):ae:=.agg (Fl y).toArray
abbrev SpR(W:AW)(v:ae)(l:List jo):Prop:=Row W 3 (iD 3 Fl) v l
def qz(y:jo):(Fl y).length=3:=rfl
def QE(y:jo):(Fl y).all Eng.one=true:=rfl
def RW:((#[49]:Array ah)[0]?).bind Tryz.prog.underlying=some (.slice 53):=by kernel_rfl
def aeK:iY Tryz.prog #[49,49] 3 24=true:=by kernel_rfl
def acK(y:jo)(W:AW):aC Tryz.prog 49 1 [(0,spV y)] W=some (.slice (some ⟨W.next,0,none⟩) 1 1,W.add (.cells (Fl y))):=aL (by kernel_rfl) rfl
def acn(a b c:Int)(W:AW):cn Tryz.prog 53 [(0,.af a),(1,.af b),(2,.af c)] W=some (spV ⟨a,b,c⟩,W):=aL (by kernel_rfl) rfl
def zr(v:ce)(e k:Int):Int:=if e=0 then(if k<0\/v.sh+v.aB.length<=k then 4 else 0)else e
section
variable {α:Type} {W U:AW} {cv:ae} {bo:Option Nat} {m:List jo} {y:jo}
def OI{z:Nat}{f:α->List ae}{v:ae}{l:List α}(h:mV W z f v l bo){ts:Array ah}{e:ah}(ht:(ts[0]?).bind Tryz.prog.underlying=some (.slice e))(W':AW)(ty:ah)(cf:Array Bool):aD Tryz.prog .len ts ty cf [v] W'=some (.af l.length,W'):=by
 have hsl:∃a c,v=.slice a l.length c:=by rcases h with⟨rfl,rfl,-⟩|⟨-,B,-,-,rfl,-⟩<;>exact⟨_,_,rfl⟩
 obtain⟨a,c,rfl⟩:=hsl;unfold aD;simp only[ht];rfl
def OQ(h:mV U 3 Fl cv (m++[y]) bo)(t:Int):∃B,bo=some B/\B<U.next/\(∀W' kk,j0 3 cv (.int kk (m.length:Int)) W'=some (.pointer (some ⟨B,m.length*3,none⟩),W'))/\
 cS 1 (.pointer (some ⟨B,m.length*3+2,none⟩)) (.af t) U=some (ai,U.put B (.cells ((m++[(⟨y.id,y.fr,t⟩:jo)]).flatMap Fl)))/\mV (U.put B (.cells ((m++[(⟨y.id,y.fr,t⟩:jo)]).flatMap Fl))) 3 Fl cv (m++[⟨y.id,y.fr,t⟩]) bo:=by
 rcases h with⟨h0,-,-⟩|⟨h0,B,h1,h2,h3,h4⟩
 ·simp at h0
 have hl:(m.flatMap Fl).length=m.length*3:=bS qz m;refine⟨B,h1,h2,λW' kk=>by rw[h3,BS (by simp),aU],?_,.inr ⟨by simp,B,h1,h2,by rw[h3];simp,AW.bH _ _ _⟩⟩;rw[kw,gb h4,bl];rw[ax (by simp[fH,hl])];congr 5;rw[fH,fH,List.set_append_right _ _ (by omega),show m.length*3+2-(m.flatMap Fl).length=2 by omega];rfl
end
section
variable {W V U:AW} {v:ce} {sv ev cv:ae} {s:RS} {l:List cC} {k:Int} {x:cC} {bo:Option Nat}
def Ov(m:List jo)(h2:x.k=2)(hl:x.lk=k):vX k m x=m++[⟨x.id,x.tn,-1⟩]:=by unfold vX;rw[ax ⟨h2,hl⟩]
def Li(m:List jo)(h4:x.k=4)(hl:x.lk=k):vX k m x=Xi m x.tn:=by unfold vX;rw[bX,ax ⟨h4,hl⟩]
def UD(m:List jo)(h2:¬(x.k=2/\x.lk=k))(h4:¬(x.k=4/\x.lk=k)):vX k m x=m:=by unfold vX;rw[ay h2,ay h4]
def Hg(l:List cC)(k:Int):(pG k l).length<=l.length:=by
 have:∀(l:List cC) (m:List jo),(l.foldl (vX k) m).length<=m.length+l.length:=by
  intro l;induction l with
  |nil=>intro m;exact aS _
  |cons x l ih=>
   intro m;have h1:(vX k m x).length<=m.length+1:=by
    unfold vX;split
    ·simp
    ·split
     ·unfold Xi;split
      ·rw[jP];omega
      ·omega
     ·omega
   have h2:=ih (vX k m x);simp only[List.foldl_cons,dB];omega
 have:=this l [];simpa[pG]using this
structure Iv (V U:AW) (k:Int) (l:List cC) (i:Nat) (cv:ae):Prop where
 le:Le V U
 c:∃bo,mV U 3 Fl cv (pG k (l.take i)) bo/\∀B,bo=some B->V.next<=B
def Iv.mono{U':AW}{i:Nat}(h:Iv V U k l i cv)(bk:Le U U'):Iv V U' k l i cv:=by obtain⟨bo,h1,h2⟩:=h.c;exact⟨h.le.trans bk,bo,h1.dD bk.next λB hB=>bk.get B (h1.lt hB),h2⟩
def Iv.skip{U':AW}{i:Nat}(h:Iv V U k l i cv)(hx:l[i]? =some x)(h2:¬(x.k=2/\x.lk=k))(h4:¬(x.k=4/\x.lk=k))(bk:Le U U'):Iv V U' k l (i+1) cv:=by have:=h.mono bk;refine⟨this.le,?_⟩;rw[sM hx,UD _ h2 h4];exact this.c
def Iv.tak{i:Nat}(h:Iv V U k l i cv)(hi:i<=2000)(hx:l[i]? =some x)(h2:x.k=2)(hl:x.lk=k):∃wE U2,aN Tryz.prog (U.add (.cells (Fl ⟨x.id,x.tn,-1⟩))) #[49,49] cv (.slice (some ⟨U.next,0,none⟩) 1 1)=some (wE,U2)/\Iv V U2 k l (i+1) wE/\∀q,q<U.next->(∀n c,cv≠ .slice (some ⟨q,0,none⟩) n c)->U2.get q=U.get q:=by
 obtain⟨bo,h3,h4⟩:=h.c;have hn:=h.le.next;have dy:=Hg (l.take i) k;rw[dR]at dy;obtain⟨wE,U2,a1,a2,a3,a4⟩:=Ru (⟨x.id,x.tn,-1⟩:jo) aeK qz QE h3 (by omega) (by omega);refine⟨wE,U2,a1,⟨⟨by omega,λb hb=>(a4 b (by omega) (λe=>by have:=h4 _ e;omega)).trans (h.le.get b hb)⟩,some (U.next+1),?_,λB hB=>?_⟩,λq hq dQ=>a4 q hq λe=>?_⟩
 ·rw[sM hx,Ov _ h2 hl];exact a2
 ·injection hB with hB;omega
 ·rcases h3 with⟨-,-,h3⟩|⟨-,B,h3,-,h5,-⟩
  ·rw[h3]at e;cases e
  ·rw[h3]at e;injection e with e;subst e;exact dQ _ _ h5
def Iv.giv{i:Nat}(h:Iv V U k l i cv)(hx:l[i]? =some x)(h4:x.k=4)(hl:x.lk=k){m:List jo}{y:jo}(he:pG k (l.take i)=m++[y]):
 ∃B U2,(∀W' ty cf,aD Tryz.prog .len #[49] ty cf [cv] W'=some (.af ((m.length:Int)+1),W'))/\(∀W' kk,j0 3 cv (.int kk (m.length:Int)) W'=some (.pointer (some ⟨B,m.length*3,none⟩),W'))/\cS 1 (.pointer (some ⟨B,m.length*3+2,none⟩)) (.af x.tn) U=some (ai,U2)/\Iv V U2 k l (i+1) cv:=by
 obtain⟨bo,h3,h5⟩:=h.c;rw[he]at h3;obtain⟨B,b1,b2,b3,b4,b5⟩:=OQ h3 x.tn;have hB:=h5 B b1;refine⟨B,_,λW' ty cf=>?_,b3,b4,h.le.put hB _,bo,?_,h5⟩
 ·rw[OI h3 RW];simp
 ·rw[sM hx,Li _ h4 hl,he,EF];exact b5
def UZ(x:cC)(U:AW):∃U1,U1.next=U.next+1/\bh Tryz.prog 98 U=some (dd U.next,U.add (.cells (eA Zi)))/\cS 31 (dd U.next) (zI x) (U.add (.cells (eA Zi)))=some (ai,U1)/\Le U U1/\U1.get U.next=some (.cells (eA x)):=
 ⟨_,AW.aJ _ _,TZ U,L4 x U,(Le.refl _).add _,AW.bf _ _⟩
end
section
variable {α:Type} {z:Nat} {f:α->List ae} {W W':AW} {v:ae} {l:List α} {lo:Nat}
def pf{p:Nat}(h:EL lo W' z f v l)(hp:a7 v=true):EL p W z f v l:=by
 rcases h with⟨rfl,rfl|⟨B,rfl⟩⟩|⟨h0,B,c,i1,i2,rfl,hc,i4⟩
 ·exact EL.nil _ _ _ _
 ·simp[a7,dI,bZ]at hp
 ·simp[a7,dI,bZ]at hp
def Va{o t:Option (ae×AW)}{k:IntKind}{e:Int}(h:Ok t λr=>∃u,r.1=.tuple #[u,.int k e]/\Le W r.2/\EL W.next r.2 z f u l)(K7:∀{r},t=some r->o=some (gc W r)):∃u W',o=some (.tuple #[u,.int k e],W')/\Le W W'/\EL W.next W' z f u l:=by
 obtain⟨q,W',h1,u,rfl,h2,h3⟩:=sD (Q:=λq W'=>∃u,q=.tuple #[u,.int k e]/\Le W W'/\EL W.next W' z f u l) h K7 λq W' ⟨u,e1,h2,h3⟩ bk hp=>by
  subst e1;refine⟨u,rfl,.refl _,pf h3 ?_⟩;rcases h3 with⟨rfl,rfl|⟨B,rfl⟩⟩|⟨h0,B,c,i1,i2,rfl,hc,i4⟩
  ·rfl
  ·simp[a7,dI,bZ]at hp
  ·simp[a7,dI,bZ]at hp
 exact⟨u,W',h1,h2,h3⟩
def Tr{bo:Option Nat}(h:mV W z f v l bo)(hb:∀B,bo=some B->lo<=B):EL lo W z f v l:=by
 rcases h with⟨rfl,rfl,-⟩|⟨h0,B,e1,e2,e3,e4⟩
 ·exact EL.nil _ _ _ _
 ·exact .inr ⟨h0,B,_,hb B e1,e2,e3,.inl rfl,e4⟩
end
section
variable {W V U:AW} {v:ce} {sv ev cv:ae} {s:RS} {l:List cC} {k:Int} {x:cC} {bo:Option Nat}
def DZ(hG:GW W)(h:K4 W v sv ev l)(k:Int):∃(a e:Int) (u:ae) (W':AW),rq v l a e/\bD (.func (.func 13) #[] #[]) [tU v sv ev,.af k] W=some (.tuple #[u,.af (zr v e k)],W')/\Le W W'/\EL W.next W' 3 Fl u (if zr v e k=0 then pG k l else []):=by
 obtain⟨V,bx,bk,nV,g0⟩:=yj v sv ev W;have hV:=h.mono bk;obtain⟨a,e,hA,q1⟩:=me (hG.mono bk) hV;suffices hs:∃(u:ae) (W':AW),bD (.func (.func 13) #[] #[]) [tU v sv ev,.af k] W=some (.tuple #[u,.af (zr v e k)],W')/\Le W W'/\EL W.next W' 3 Fl u (if zr v e k=0 then pG k l else [])by obtain⟨u,W',h1⟩:=hs;exact⟨a,e,u,W',hA,h1⟩
 refine Va ?_ xO;unfold wb zr;have cB:=fN g0;have c0:aY (dd W.next) V=some (.af v.sh,V):=jE g0 rfl;have c3:aY (.pointer (some ⟨W.next,3,none⟩)) V=some (sv,V):=jE g0 rfl;have c4:aY (.pointer (some ⟨W.next,4,none⟩)) V=some (ev,V):=jE g0 rfl;by_cases he:e=0;case neg=>have d:=bK he;simp only[SX,bx,cB,q1,d,ay he,aq];exact⟨_,rfl,bk,EL.nil _ _ _ _⟩
 subst he;have d:decide ((0:Int)=0)=true:=rfl;obtain⟨-,K5,hl,s,da⟩:=hA.QF;have OC:=ka K5;have hsm:=h.small;have ls:∀W',aD Tryz.prog .len #[22] 3 #[false] [sv] W'=some (.af (v.aB.length:Int),W'):=λW'=>Row.len hV.aB.1 Mu W' 3 #[false]
 have ad:∀W',az Tryz.prog .add 3 false false (.af v.sh) (.af (v.aB.length:Int)) W'=some (.af (v.sh+v.aB.length),W'):=λW'=>dg (by omega) (by omega)
 have RC:∀W',aD Tryz.prog .len #[25] 3 #[false] [ev] W'=some (.af (l.length:Int),W'):=λW'=>Row.len hV.QX DJ W' 3 #[false]
 by_cases c1:k<0
 ·have d1:=br c1;simp only[SX,bx,cB,q1,d1,bc,ax (.inl c1:k<0\/v.sh+v.aB.length<=k),aq];exact⟨_,rfl,bk,EL.nil _ _ _ _⟩
 have d1:=bK c1;by_cases c2:v.sh+v.aB.length<=k
 ·have d2:=br c2;simp only[SX,bx,cB,q1,d1,aU,c0,c3,ls,ad,d2,bc,ax (.inr c2:k<0\/v.sh+v.aB.length<=k),aq];exact⟨_,rfl,bk,EL.nil _ _ _ _⟩
 have d2:=bK c2;simp only[SX,bx,cB,q1,d1,aU,c0,c3,c4,ls,ad,d2,RC,bc,ay (by omega:¬(k<0\/v.sh+v.aB.length<=k))];refine df l.length (by omega) (λi R U=>R 1=.af k/\R 34=ev/\R 35=.af (l.length:Int)/\R 36=.af (i:Int)/\∃cv,R 8=cv/\Iv V U k l i cv)
  (λr=>r.1=.exit 0/\∃cv,r.2.1 8=cv/\Iv V r.2.2 k l l.length cv) ⟨rfl,rfl,rfl,rfl,_,rfl,.refl _,none,.inl ⟨rfl,rfl,rfl⟩,λB hB=>by cases hB⟩ ?_ ?_ ?_
 ·rintro i R U hi ⟨r1,eE,fk,gh,cv,r8,hI⟩;unfold lC;have t1:decide ((i:Int)<(l.length:Int))=true:=lV;have t2:=λW'=>eH W' i 1
  have e3:((i+1:Nat):Int)=(i:Int)+1:=by omega
  obtain⟨p,p1,p2⟩:=hV.QX.get hi;have hx:l[i]? =some l[i]:=cx hi;have YB:∃s,eT v l i s/\zw v s l[i]=0:=by obtain⟨s1,h1⟩:=da.pre (i+1) (by omega);obtain⟨s0,y,h2,h3,h4,-⟩:=h1.prev;rw[hx]at h3;injection h3 with h3;subst h3;exact⟨s0,h2,h4⟩
  have VU:=p2 U hI.le;generalize l[i]=x at VU hx YB;obtain⟨U1,b0,b1,b2,b3,hb⟩:=UZ x U;have lx:=Di hb;have ll:=vl hb;have li:=pd hb;have lt:=CF hb;have hI1:=hI.mono b3;by_cases h2:x.k=2
  ·have e2:=br h2;by_cases h3:x.lk=k
   ·have e4:=br h3;obtain⟨wE,U2,a1,a2,-⟩:=hI1.tak (by omega) hx h2 h3;simp only[SX,r1,eE,fk,gh,r8,t1,p1,VU,b1,b2,aU,lx,ll,li,lt,e2,e4,acn,acK,a1,t2,aq];exact .inl ⟨aF,r1,eE,fk,by rw[e3];rfl,_,rfl,a2⟩
   ·have e4:=bK h3;have e5:decide (x.k=4)=false:=fF;simp only[SX,r1,eE,fk,gh,r8,t1,p1,VU,b1,b2,aU,lx,ll,li,lt,e2,e4,e5,t2,aq];exact .inl ⟨aF,r1,eE,fk,by rw[e3];rfl,_,r8,hI.skip hx (λe=>h3 e.2) (λe=>h3 e.2) b3⟩
  have e2:=bK h2;by_cases h4:x.k=4
  ·have e5:=br h4;by_cases h3:x.lk=k
   ·have e4:=br h3;obtain⟨s0,g1,g2⟩:=YB;obtain⟨m,y,g3⟩:=g1.aeZ g2 h4;rw[h3]at g3;obtain⟨B,U2,a1,a2,a3,a4⟩:=hI1.giv hx h4 h3 g3;have VQ:m.length<2001:=by have:=Hg (l.take i) k;rw[g3,dR]at this;simp at this;omega
    have sb:∀W',az Tryz.prog .sub 3 false true (.af ((m.length:Int)+1)) (.af 1) W'=some (.af (m.length:Int),W'):=λW'=>by rw[pz (by omega) (by omega),show(m.length:Int)+1-1=(m.length:Int)by omega]
    simp only[SX,r1,eE,fk,gh,r8,t1,p1,VU,b1,b2,aU,lx,ll,li,lt,e2,e4,e5,a1,sb,a2,a3,t2,aq];exact .inl ⟨aF,r1,eE,fk,by rw[e3];rfl,_,r8,a4⟩
   ·have e4:=bK h3;simp only[SX,r1,eE,fk,gh,r8,t1,p1,VU,b1,b2,aU,lx,ll,li,lt,e2,e4,e5,t2,aq];exact .inl ⟨aF,r1,eE,fk,by rw[e3];rfl,_,r8,hI.skip hx (λe=>h3 e.2) (λe=>h3 e.2) b3⟩
  have e5:=bK h4;simp only[SX,eE,fk,gh,r8,t1,p1,VU,b1,b2,aU,lx,li,lt,e2,e5,t2,aq];exact .inl ⟨aF,r1,eE,fk,by rw[e3];rfl,_,r8,hI.skip hx (λe=>h2 e.1) (λe=>h4 e.1) b3⟩
 ·rintro R U ⟨r1,eE,fk,gh,cv,r8,hI⟩;unfold lC;have t1:decide ((l.length:Int)<(l.length:Int))=false:=fF;simp only[SX,fk,gh,t1,aq];exact⟨by simp,aF,cv,r8,hI⟩
 ·rintro⟨q,R,U⟩ ⟨rfl,cv,r8,hI⟩;obtain⟨bo,h3,h4⟩:=hI.c;have r8':R 8=cv:=r8;simp only[SX,r8',aq];refine⟨_,rfl,bk.trans hI.le,?_⟩;rw[dK]at h3;exact Tr h3 λB hB=>by have:=h4 B hB;omega
end
section
variable {W V U:AW} {v:ce} {sv ev cv:ae} {s:RS} {l:List cC} {k:Int} {x:cC} {bo:Option Nat}
def sk{α:Type}{z:Nat}{f:α->List ae}(hf:∀a,(f a).length=z){u:ae}{m:List α}(h:Row W z (iD z f) u m){i:Nat}(hi:i<m.length):∃b o,(∀W' k,j0 z u (.int k (i:Int)) W'=some (.pointer (some ⟨b,o,none⟩),W'))/\(∀W',Le W W'->b9 z (.pointer (some ⟨b,o,none⟩)) W'=some (.agg (f m[i]).toArray,W'))/\∀j x,(f m[i])[j]? =some x->∀W',Le W W'->aY (.pointer (some ⟨b,o+j,none⟩)) W'=some (x,W'):=by
 obtain⟨b,o,cs,h1,h2,h3,h4⟩:=h.elem hi;have e0:(cs.drop o).take z=f m[i]:=h4;refine⟨b,o,h1,λW' bk=>?_,λj x hx W' bk=>?_⟩
 ·have:=fJ (n:=z) (o:=o) (W:=W') (by rw[bk.aH h2];exact h3) (by rw[e0,hf]);rw[e0]at this;exact this
 ·have hj:j<z:=by rw[<-hf m[i]];exact(cr.1 hx).1
  exact dN (by rw[bk.aH h2];exact h3) (by rw[nI h4 hj];exact hx)
end
section
variable {α:Type} {z:Nat} {f:α->List ae} {W W' U U':AW} {v:ae} {l:List α} {lo q:Nat}
def DX{cs:List ae}{o:Nat}(h:∀i (hi:i<l.length),iD z f cs (o+i*z) l[i]):∀n,n<=l.length->(cs.drop o).take (n*z)=(l.take n).flatMap f
 |0,_=>by simp
 |n+1,hn=>by
  have ih:=DX h n (by omega);have hx:((cs.drop o).drop (n*z)).take z=f l[n]:=by rw[oe];exact h n (by omega)
  rw[Nat.succ_mul,List.take_add,ih,hx,qi,cx (by omega),qK,fH];simp
def Lc(h:Row W z (iD z f) v l):Rd W z f v l:=by
 obtain⟨a,c,rfl,h⟩:=h;refine⟨a,c,rfl,?_⟩;rcases h with h|⟨b,o,cs,h1,h2,h3,h4⟩
 ·exact .inl h
 ·exact .inr ⟨b,o,cs,h1,h2,h3,by have:=DX h4 l.length (aS _);rwa [dK]at this⟩
def uC(h:EL lo W z f v l):Eng.one v=true:=by rcases h with⟨rfl,rfl|⟨B,rfl⟩⟩|⟨h0,B,c,i1,i2,rfl,hc,i4⟩<;>rfl
def Iy(h:EL lo W z f v l)(hq:q<lo):av q v:=by
 intro a k m e hk;rcases h with⟨rfl,rfl|⟨B,rfl⟩⟩|⟨h0,B,c,i1,i2,rfl,hc,i4⟩
 ·cases e
 ·injection e with e1 e2;exact absurd e2.symm hk
 ·injection e with e1 e2;injection e1 with e1;subst e1;show B≠q;omega
def NW{at_:List ae->Nat->α->Prop}(h:Row W z at_ v l)(hq:W.next<=q):av q v:=by
 obtain⟨a,m,rfl,h⟩:=h;intro a' k m' e hk;injection e with e1 e2 e3;rcases h with h|⟨b,o,cs,rfl,h2,-⟩
 ·rw[h]at e2;exact absurd e2.symm hk
 ·injection e1 with e1;rw[<-e1];show b≠q;omega
def si{ts:Array ah}{bytes:Nat}(hk:iY Tryz.prog ts z bytes=true)(hf:∀a,(f a).length=z)(h1:∀a,(f a).all Eng.one=true)(h:Rd W z f v l)(hl:l.length<=10000)(hb:bytes<=1000):
 ∃u W',aN Tryz.prog (W.add (.cells [])) ts (.slice (some ⟨W.next,0,none⟩) 0 0) v=some (u,W')/\Le W W'/\EL W.next W' z f u l:=by
 have hE:EL W.next (W.add (.cells [])) z f (.slice (some ⟨W.next,0,none⟩) 0 0) []:=EL.acD _ _ _ _ _;have hm:(2*l.length+192)*bytes<=(2*10000+192)*1000:=Nat.mul_le_mul (by omega) hb;obtain⟨u,W',k1,k2,k3,k4⟩:=hE.app hk hf h1 (h.dD ((Le.refl W).add (.cells []))) (by simp;omega) (by rw[xg,aU];omega) (by rw[AW.aJ];omega);rw[mB]at k2;exact⟨u,W',k1,⟨by rw[AW.aJ]at k3;omega,λb hb=>(k4 b hb).trans (AW.aZ _ _ (by omega))⟩,k2⟩
def LC{o t:Option (ae×AW)}(h:Ok t λr=>Le W r.2/\EL W.next r.2 z f r.1 l)(K7:∀{r},t=some r->o=some (gc W r)):∃v W',o=some (v,W')/\Le W W'/\EL W.next W' z f v l:=
 let⟨v,W',h1,h2,h3⟩:=sD (Q:=λv W'=>Le W W'/\EL W.next W' z f v l) h K7 λv W' ⟨a,b⟩ bk hp=>⟨.refl _,pf b hp⟩
 ⟨v,W',h1,h2,h3⟩
def p9{at_:List ae->Nat->α->Prop}(h:Row U z at_ v l)(ha:av q v)(hn:U.next<=U'.next)(hg:∀d,d<U.next->d≠q->U'.get d=U.get d):Row U' z at_ v l:=by
 obtain⟨a,m,rfl,h⟩:=h;refine⟨a,m,rfl,?_⟩;rcases h with h|⟨b,o,cs,rfl,h2,h3,h4⟩
 ·exact .inl h
 by_cases e0:l=[]
 ·exact .inl e0
 have hb:b≠q:=ha _ _ _ rfl (λe=>e0 (jd.1 e));refine .inr ⟨b,o,cs,rfl,by omega,?_,h4⟩;unfold aH at h3|-;rw[hg b h2 hb];exact h3
end
def u64:Tryz.prog.underlying 64=some (.slice 3):=by kernel_rfl
def u22:Tryz.prog.underlying 22=some (.slice 66):=by kernel_rfl
def u25:Tryz.prog.underlying 25=some (.slice 98):=by kernel_rfl
section
variable {t e:ah}
def Mx(ht:Tryz.prog.underlying t=some (.slice e))(c d:Bool)(l k:Nat)(W:AW):az Tryz.prog .eql t c d (.slice none l k) (.slice none 0 0) W=some (.bool true,W):=by unfold az lK jB;simp only[ht];rfl
def Gd(ht:Tryz.prog.underlying t=some (.slice e))(c d:Bool)(a:Addr)(l k:Nat)(W:AW):az Tryz.prog .eql t c d (.slice (some a) l k) (.slice none 0 0) W=some (.bool false,W):=by unfold az lK jB;simp only[ht]
end
structure pQ where
 nm:List UInt8
 ad:Option Addr
 cp:Nat
 rows:List Int
 q:Int
abbrev pQ.rv(x:pQ):ae:=.slice x.ad x.rows.length x.cp
abbrev ud(x:pQ):List ae:=[.string (aP x.nm),x.rv,.af x.q]
def pQ.sec(x:pQ):iT:=⟨x.nm,x.rows,x.q⟩
def qB(x:pQ):(ud x).length=3:=rfl
def QC(x:pQ):(ud x).all Eng.one=true:=rfl
def Hx(W:AW)(x:pQ):Prop:=lR W x.rv x.rows/\rJ x.rv x.rv=true
def Hx.mono{W W':AW}{x:pQ}(h:Hx W x)(bk:Le W W'):Hx W' x:=⟨h.1.mono bk,h.2⟩
def PQ{W:AW}{sv:ae}{l:List iT}(h:oQ W sv l):∃M:List pQ,M.map pQ.sec=l/\Rd W 3 ud sv M/\∀x∈M,Hx W x:=by
 obtain⟨a,c,rfl,h⟩:=h;rcases h with rfl|⟨b,o,cs,h1,h2,h3,h4⟩
 ·exact⟨[],rfl,⟨a,c,rfl,.inl rfl⟩,λx hx=>by cases hx⟩
 have key:∀n,n<=l.length->∃M:List pQ,M.map pQ.sec=l.take n/\(cs.drop o).take (n*3)=M.flatMap ud/\∀x∈M,Hx W x:=by
  intro n;induction n with
  |zero=>intro _;exact⟨[],by simp,by simp,λx hx=>by cases hx⟩
  |succ n ih=>
   intro hn;obtain⟨M,m1,m2,m3⟩:=ih (by omega);obtain⟨s1,s2,rv,s3,s4,s5,s6⟩:=h4 n (by omega);obtain⟨ra,rc,rfl,-⟩:=id s4;refine⟨M++[⟨l[n].name,ra,rc,l[n].rows,l[n].q⟩],?_,?_,λx hx=>?_⟩
   ·rw[oA,m1,qi,cx (by omega),qK];rfl
   ·have hx:((cs.drop o).drop (n*3)).take 3=ud ⟨l[n].name,ra,rc,l[n].rows,l[n].q⟩:=by rw[oe];exact Ro s1 s3 s2
    rw[Nat.succ_mul,List.take_add,m2,hx,fH];simp
   ·rcases mC.1 hx with hx|hx
    ·exact m3 x hx
    ·rw[kX]at hx;subst hx;exact⟨s4,s5⟩
 obtain⟨M,m1,m2,m3⟩:=key l.length (aS _);rw[dK]at m1;have hl:M.length=l.length:=by rw[<-m1,fW]
 exact⟨M,m1,⟨a,c,by rw[hl],.inr ⟨b,o,cs,h1,h2,h3,by rw[hl];exact m2⟩⟩,m3⟩
def Ig{W:AW}{sv:ae}{M:List pQ}(h:Rd W 3 ud sv M)(hg:∀x∈M,Hx W x):oQ W sv (M.map pQ.sec):=by
 obtain⟨a,c,e,h⟩:=VB qB h;refine⟨a,c,by rw[e,fW],?_⟩;rcases h with rfl|⟨b,o,cs,h1,h2,h3,h4⟩
 ·exact .inl rfl
 refine .inr ⟨b,o,cs,h1,h2,h3,λi hi=>?_⟩;rw[fW]at hi;have k:=h4 i hi;obtain⟨g1,g2⟩:=hg _ (fq hi);rw[List.getElem_map];exact⟨nI k (j:=0) (by omega),nI k (j:=2) (by omega),_,nI k (j:=1) (by omega),g1,g2,rfl⟩
def Pp{lo:Nat}{W:AW}{sv:ae}{M:List pQ}(h:EL lo W 3 ud sv M)(hM:M.length<1000)(hg:∀x∈M,Hx W x):eG W sv (M.map pQ.sec):=by
 refine⟨Ig (h.rd qB) hg,?_⟩;rcases h with⟨rfl,rfl|⟨B,rfl⟩⟩|⟨h0,B,c,i1,i2,rfl,hc,i4⟩
 ·exact⟨none,0,rfl,.inl ⟨by simp,by unfold eS;omega⟩,λh=>absurd rfl h⟩
 ·exact⟨_,0,rfl,.inl ⟨by simp,by unfold eS;omega⟩,λh=>absurd rfl h⟩
 ·refine⟨_,c,by rw[fW],?_,λ_=>⟨B,0,rfl⟩⟩;rcases hc with rfl|rfl
  ·exact .inr rfl
  ·exact .inl ⟨by rw[fW];exact aS _,by unfold eS;omega⟩
def US(W:AW):aC Tryz.prog 22 0 [] W=some (.slice (some ⟨W.next,0,none⟩) 0 0,W.add (.cells [])):=aL (by kernel_rfl) rfl
def TO(W:AW):aC Tryz.prog 25 0 [] W=some (.slice (some ⟨W.next,0,none⟩) 0 0,W.add (.cells [])):=aL (by kernel_rfl) rfl
def adK:iY Tryz.prog #[22,22] 3 48=true:=by kernel_rfl
def acU:iY Tryz.prog #[25,25] 31 232=true:=by kernel_rfl
def OY{W:AW}{v:ae}{l:List Int}(h:lR W v l):Rd W 1 pi v l:=by
 refine Lc ?_;refine Row.imp h (.refl _) λcs p a hx=>?_
 obtain⟨h1,h2⟩:=cr.1 hx;unfold iD;rw[oz h1,h2];rfl
def PA{lo:Nat}{W:AW}{v:ae}{l:List Int}(h:EL lo W 1 pi v l):lR W v l:=h.row AQ λa pre post=>by unfold vQ;rw[ir (aS _),mp];rfl
def BE{W:AW}{v:ae}{l:List Int}(h:lR W v l)(hl:l.length<=10000):∃u W',bD (.func (.func 40) #[] #[]) [v] W=some (u,W')/\Le W W'/\EL W.next W' 1 pi u l:=by
 refine LC ?_ oO;unfold lq;have hr:=OY h;obtain⟨a,c,rfl,hv⟩:=id h;cases a with
 |none=>
  have h0:l=[]:=by
   rcases hv with hv|⟨b,o,cs,e,-⟩
   ·exact hv
   ·cases e
  subst h0;simp only[SX,Mx u64,aq];exact⟨.refl _,EL.nil _ _ _ _⟩
 |some a=>obtain⟨u,W',k1,k2,k3⟩:=si Jr AQ J2 hr hl (by omega);simp only[SX,Gd u64,Sg,k1,aq];exact⟨k2,k3⟩
def Bx{W:AW}{v:ae}{M:List pQ}(h:Rd W 3 ud v M)(hl:M.length<=10000):∃u W',bD (.func (.func 39) #[] #[]) [v] W=some (u,W')/\Le W W'/\EL W.next W' 3 ud u M:=by
 refine LC ?_ fE;unfold dz;obtain⟨a,c,rfl,hv⟩:=id h;cases a with
 |none=>
  have h0:M=[]:=by
   rcases hv with hv|⟨b,o,cs,e,-⟩
   ·exact hv
   ·cases e
  subst h0;simp only[SX,Mx u22,aq];exact⟨.refl _,EL.nil _ _ _ _⟩
 |some a=>obtain⟨u,W',k1,k2,k3⟩:=si adK qB QC h hl (by omega);simp only[SX,Gd u22,US,k1,aq];exact⟨k2,k3⟩
def C3{W:AW}{v:ae}{l:List cC}(h:Rd W 31 eA v l)(hl:l.length<=10000):∃u W',bD (.func (.func 27) #[] #[]) [v] W=some (u,W')/\Le W W'/\EL W.next W' 31 eA u l:=by
 refine LC ?_ gl;unfold dS;obtain⟨a,c,rfl,hv⟩:=id h;cases a with
 |none=>
  have h0:l=[]:=by
   rcases hv with hv|⟨b,o,cs,e,-⟩
   ·exact hv
   ·cases e
  subst h0;simp only[SX,Mx u25,aq];exact⟨.refl _,EL.nil _ _ _ _⟩
 |some a=>obtain⟨u,W',k1,k2,k3⟩:=si acU tx PH h hl (by omega);simp only[SX,Gd u25,TO,k1,aq];exact⟨k2,k3⟩
abbrev wO(v:ce)(sv:ae):List ae:=[.af v.sh,.af v.CL,.af v.CQ,sv]
def ad3(W:AW):bh Tryz.prog 24 W=some (dd W.next,W.add (.cells (wO nT iK))):=aL (by kernel_rfl) rfl
def adu(x:ae)(W:AW):ic Tryz.prog 24 x W=b9 4 x W:=by kernel_rfl
def TJ{W:AW}{b:Nat}{v v0:ce}{sv s0:ae}(h:W.get b=some (.cells (wO v0 s0)))(h1:Eng.one sv=true):cS 4 (dd b) (jA v sv) W=some (ai,W.put b (.cells (wO v sv))):=
 vH h rfl rfl (by simp[h1,oa])
def HA{W:AW}{b:Nat}{v:ce}{sv:ae}(h:W.get b=some (.cells (wO v sv))):b9 4 (dd b) W=some (jA v sv,W):=fJ (bw h) rfl
def A6{W:AW}{b:Nat}{v:ce}{sv:ae}(h:W.get b=some (.cells (wO v sv))):aY (.pointer (some ⟨b,3,none⟩)) W=some (sv,W):=jE h rfl
def P2{W:AW}{b:Nat}{v:ce}{sv u:ae}(h:W.get b=some (.cells (wO v sv)))(h1:u.cells=#[u])(h2:Eng.one u=true):cS 1 (.pointer (some ⟨b,3,none⟩)) u W=some (ai,W.put b (.cells (wO v u))):=by rw[ky h1 h2,KG h];rfl
def VnQ(W W':AW)(v:ce)(q:ae):Prop:=∃u M,q=jA v u/\Le W W'/\EL W.next W' 3 ud u M/\M.map pQ.sec=v.aB/\∀x∈M,Hx W' x/\∀b,b<W.next->av b x.rv
def Jz{W W':AW}{v:ce}{q:ae}(h:VnQ W W' v q)(hp:a7 q=true):VnQ W W v q:=by
 obtain⟨u,M,rfl,h1,h2,h3,h4⟩:=h;have hu:a7 u=true:=by simp[a7,dI]at hp;rcases h2 with⟨rfl,rfl|⟨B,rfl⟩⟩|⟨h0,B,c,i1,i2,rfl,hc,i4⟩<;>simp_all[a7,dI,bZ]
 have hM:M=[]:=by
  rcases h2 with⟨rfl,-⟩|⟨h0,B,c,i1,i2,rfl,hc,i4⟩
  ·rfl
  ·simp[a7,dI,bZ]at hu
 subst hM;exact⟨u,[],rfl,.refl _,pf h2 hu,h3,λx hx=>by cases hx⟩
def D1{M:List pQ}{i:Nat}(hi:i<M.length){y:pQ}(hy:y.sec=M[i].sec):(M.set i y).map pQ.sec=M.map pQ.sec:=by
 rw[List.map_set,hy];refine List.ext_getElem (by simp) λn h1 h2=>?_
 rw[List.getElem_set];split
 ·rename_i e;subst e;rw[List.getElem_map]
 ·rfl
def E0{M:List pQ}{i:Nat}(hi:i<M.length)(y:pQ):(M.set i y).flatMap ud=(M.take i).flatMap ud++(ud y++(M.drop (i+1)).flatMap ud):=by rw[Bj,ax hi,fH,ly]
def Ag{M:List pQ}{i:Nat}(hi:i<M.length):M.flatMap ud=(M.take i).flatMap ud++(ud M[i]++(M.drop (i+1)).flatMap ud):=by have h:=E0 hi M[i];rwa [List.set_getElem_self]at h
def UV{M:List pQ}{i:Nat}(hi:i<=M.length):((M.take i).flatMap ud).length=i*3:=by rw[bS qB,dR,mG hi]
def EJ{W:AW}{v:ce}{sv:ae}(h:oQ W sv v.aB)(hs:v.aB.length<1000)(hr:∀s∈v.aB,s.rows.length<1000):∃q W',bD (.func (.func 26) #[] #[]) [jA v sv] W=some (q,W')/\VnQ W W' v q:=by
 refine sD (Q:=λq W'=>VnQ W W' v q) ?_ wn λq W' hq bk hp=>Jz hq hp
 unfold sQ;obtain⟨V,hV⟩:∃V,V=(W.add (.cells (wO v sv))).add (.cells (wO nT iK)):=⟨_,rfl⟩;have bk:Le W V:=by rw[hV];exact((Le.refl _).add _).add _
 have nV:V.next=W.next+2:=by rw[hV,AW.aJ,AW.aJ]
 have bx:cN (jA v sv) W=some (dd W.next,W.add (.cells (wO v sv))):=gH _;have al:=ad3 (W.add (.cells (wO v sv)));rw[AW.aJ,<-hV]at al;have g0:V.get W.next=some (.cells (wO v sv)):=by rw[hV,AW.aZ _ _ (by rw[AW.aJ];omega)];exact AW.bf _ _
 have g1:V.get (W.next+1)=some (.cells (wO nT iK)):=by have:=AW.bf (W.add (.cells (wO v sv))) (.cells (wO nT iK));rw[AW.aJ,<-hV]at this;exact this
 obtain⟨M0,m1,m2,m3⟩:=PQ h;have CE:M0.length=v.aB.length:=by rw[<-m1,fW]
 obtain⟨u,V1,c1,c2,c3⟩:=Bx (m2.dD bk) (by omega);have n1:=c2.next;have x0:=(c2.get W.next (by omega)).trans g0;have x1:=(c2.get (W.next+1) (by omega)).trans g1;obtain⟨ua,uc,eu⟩:=c3.slice;have pu:=P2 (u:=u) x0 (by rw[eu];rfl) (uC c3);obtain⟨V2,K1⟩:∃V2,V2=V1.put W.next (.cells (wO v u)):=⟨_,rfl⟩;rw[<-K1]at pu;have n2:V2.next=V1.next:=by rw[K1];rfl
 have y0:V2.get W.next=some (.cells (wO v u)):=by rw[K1];exact AW.bH _ _ _
 have y1:V2.get (W.next+1)=some (.cells (wO nT iK)):=by rw[K1];exact(AW.aE _ _ (by omega)).trans x1
 have l2:Le W V2:=by rw[K1];exact(bk.trans c2).put (aS _) _
 have c3':EL (W.next+2) V2 3 ud u M0:=(c3.dD (W':=V2) (by omega) λb hb _=>by rw[K1];exact AW.aE _ _ (by omega)).low (by omega);have ac2:∀{M:List pQ} {U:AW},EL (W.next+2) U 3 ud u M->∀B n c,u=.slice (some ⟨B,0,none⟩) n c->n≠0->W.next<=B:=λ{M U} hE B n c e hn=>by
  rcases hE with⟨-,rfl|⟨B',rfl⟩⟩|⟨h0,B',c',i1,i2,rfl,hc,i4⟩
  ·cases e
  ·injection e with e1 e2;exact absurd e2.symm hn
  ·injection e with e1 e2;injection e1 with e1;injection e1 with e1;omega
 have lnu:∀W',aD Tryz.prog .len #[22] 3 #[false] [u] W'=some (.af (v.aB.length:Int),W'):=λW'=>by have:=Row.len (Ig (c3'.rd qB) (λx hx=>(m3 x hx).mono l2)) Qu W' 3 #[false];rw[fW,CE]at this;exact this
 have vsu:gu u u=true:=by
  rcases c3 with⟨-,rfl|⟨B',rfl⟩⟩|⟨h0,B',c',i1,i2,rfl,hc,i4⟩
  ·exact sd _ _
  ·exact mi _ _ _ _
  ·exact mi _ _ _ _
 simp only[SX,bx,al,aU,A6 g0,c1,pu,A6 y0,lnu]
 refine df v.aB.length (by omega) (λi R U=>R 1=dd W.next/\R 2=dd (W.next+1)/\R 10=.af (v.aB.length:Int)/\R 11=.af (i:Int)/\Le W U/\W.next+2<=U.next/\U.get W.next=some (.cells (wO v u))/\U.get (W.next+1)=some (.cells (wO nT iK))/\
  ∃M,EL (W.next+2) U 3 ud u M/\M.map pQ.sec=v.aB/\(∀j x,M[j]? =some x->j<i->∀b,b<W.next->av b x.rv)/\∀x∈M,Hx U x/\av (W.next+1) x.rv/\∀B n c,u=.slice (some ⟨B,0,none⟩) n c->n≠0->av B x.rv)
  (λr=>r.1=.exit 0/\r.2.1 1=dd W.next/\r.2.1 2=dd (W.next+1)/\Le W r.2.2/\W.next+2<=r.2.2.next/\r.2.2.get W.next=some (.cells (wO v u))/\r.2.2.get (W.next+1)=some (.cells (wO nT iK))/\∃M,EL (W.next+2) r.2.2 3 ud u M/\M.map pQ.sec=v.aB/\(∀x∈M,∀b,b<W.next->av b x.rv)/\∀x∈M,Hx r.2.2 x/\av (W.next+1) x.rv)
  ⟨rfl,rfl,rfl,rfl,l2,by omega,y0,y1,M0,c3',m1,(λj x _ hj=>absurd hj (Nat.not_lt_zero _)),λx hx=>⟨(m3 x hx).mono l2,NW (m3 x hx).1 (by omega),λB n c e hn=>NW (m3 x hx).1 (ac2 c3' B n c e hn)⟩⟩ ?_ ?_ ?_
 ·rintro i R U hi ⟨r1,r2,cd,bF,hU,nU,z0,z1,M,hE,hM,jJ,hx⟩;unfold jT;have t1:decide ((i:Int)<(v.aB.length:Int))=true:=lV;have t2:=λW'=>eH W' i 1
  have e3:((i+1:Nat):Int)=(i:Int)+1:=by omega
  have hlM:M.length=v.aB.length:=by rw[<-hM,fW]
  have Oz:i<M.length:=by omega
  have hE0:=hE;rcases hE with⟨e,-⟩|⟨h0,B,cc,i1,i2,eB,hc,i4⟩
  ·rw[e]at Oz;cases Oz
  have ix:∀W' k,j0 3 u (.int k (i:Int)) W'=some (.pointer (some ⟨B,i*3,none⟩),W'):=λW' k=>by rw[eB,BS Oz,aU]
  have hxi:=hx _ (fq Oz);have oX:=UV (M:=M) (i:=i) (by omega);have lrv:aY (.pointer (some ⟨B,i*3+1,none⟩)) U=some (M[i].rv,U):=jE i4 (by
   rw[Ag Oz,ir (by omega),oX,show i*3+1-i*3=1 by omega];rfl);have hrl:M[i].rows.length<1000:=by
   have Qj:M[i].sec∈v.aB:=by rw[<-hM];exact List.mem_map_of_mem (fq Oz)
   exact hr _ Qj
  obtain⟨w,U1,k1,k2,k3⟩:=BE hxi.1.1 (by omega);obtain⟨wa,wc,ew⟩:=k3.slice;have nk:=k2.next;have z0':=(k2.get W.next (by omega)).trans z0;have z1':=(k2.get (W.next+1) (by omega)).trans z1;have j4:=(k2.get B i2).trans i4;obtain⟨y,hy⟩:∃y:pQ,y=⟨M[i].nm,wa,wc,M[i].rows,M[i].q⟩:=⟨_,rfl⟩;have ys:y.sec=M[i].sec:=by rw[hy];rfl
  have yr:y.rv=w:=by rw[hy,ew]
  have st:cS 1 (.pointer (some ⟨B,i*3+1,none⟩)) w U1=some (ai,U1.put B (.cells ((M.set i y).flatMap ud))):=by rw[ky (by rw[ew];rfl) (uC k3),KG j4,bl];rw[ax (by rw[bS qB];omega)];congr 5;rw[Ag Oz,E0 Oz,List.set_append_right _ _ (by omega),oX,show i*3+1-i*3=1 by omega,hy,ew];rfl
  obtain⟨U2,kg⟩:∃U2,U2=U1.put B (.cells ((M.set i y).flatMap ud)):=⟨_,rfl⟩;rw[<-kg]at st;have n2':U2.next=U1.next:=by rw[kg];rfl
  have o2:∀d,d≠B->U2.get d=U1.get d:=λd hd=>by rw[kg];exact AW.aE _ _ (bL hd)
  simp only[SX,r1,cd,bF,t1,aU,A6 z0,ix,lrv,k1,A6 z0',ph,vsu,ov,st,t2,aq];refine .inl ⟨aF,r1,r2,cd,by rw[e3];rfl,⟨by have:=hU.next;omega,λb hb=>(o2 b (by omega)).trans ((k2.get b (by omega)).trans (hU.get b hb))⟩,by omega,(o2 _ (by omega)).trans z0',(o2 _ (by omega)).trans z1',M.set i y,?_,?_,λj x hj hji b hb=>?_,λx Fo=>?_⟩
  ·refine .inr ⟨by rw[Ne,List.set_eq_nil_iff];exact h0,B,cc,i1,by omega,by rw[jP];exact eB,by rw[jP];exact hc,by rw[kg];exact AW.bH _ _ _⟩
  ·rw[D1 Oz ys];exact hM
  ·rw[nY]at hj;by_cases e:i=j
   ·subst e;rw[ax rfl,ax Oz]at hj;injection hj with hj;rw[<-hj,yr];exact Iy k3 (by have:=hU.next;omega)
   ·rw[ay e]at hj;exact jJ j x hj (by omega) b hb
  ·have new:Hx U2 y/\av (W.next+1) y.rv/\∀B n c,u=.slice (some ⟨B,0,none⟩) n c->n≠0->av B y.rv:=by
    have hav:∀B n c,u=.slice (some ⟨B,0,none⟩) n c->n≠0->av B y.rv:=λB' n c e hn=>by rw[yr];rw[eB]at e;injection e with e1;injection e1 with e1;injection e1 with e1;exact Iy k3 (by omega)
    have iU:lR U1 y.rv y.rows:=by rw[yr,show y.rows=M[i].rows by rw[hy]];exact PA k3
    refine⟨⟨p9 iU (hav B _ _ eB (by omega)) (by omega) (λd _ hd=>o2 d hd),?_⟩,by rw[yr];exact Iy k3 (by omega),hav⟩;rw[yr];rcases k3 with⟨-,rfl|⟨B',rfl⟩⟩|⟨-,B',c',-,-,rfl,-⟩
    ·exact y7 _ _
    ·exact mT _ _ _ _
    ·exact mT _ _ _ _
   rcases List.mem_or_eq_of_mem_set Fo with Fo|rfl
   ·obtain⟨a1,a0,a2⟩:=hx x Fo;exact⟨⟨p9 (a1.mono k2).1 (a2 B _ _ eB (by omega)) (by omega) (λd _ hd=>o2 d hd),a1.2⟩,a0,a2⟩
   ·exact new
 ·rintro R U ⟨r1,r2,cd,bF,hU,nU,z0,z1,M,hE,hM,jJ,hx⟩;unfold jT;have t1:decide ((v.aB.length:Int)<(v.aB.length:Int))=false:=fF;simp only[SX,cd,bF,t1,aq];exact⟨by simp,aF,r1,r2,hU,nU,z0,z1,M,hE,hM,(λx h=>by
   obtain⟨j,hj,e⟩:=tv h;have hlM:M.length=v.aB.length:=by rw[<-hM,fW]
   exact jJ j x (by rw[cx hj,e]) (by omega)),λx h=>⟨(hx x h).1,(hx x h).2.1⟩⟩
 ·rintro⟨q,R,U⟩ ⟨rfl,r1,r2,hU,nU,z0,z1,M,hE,hM,jJ,hx⟩;simp only at r1 r2 hU nU z0 z1 hE hM hx;have po:=TJ (v:=v) (sv:=u) z1 (by rw[eu];rfl);have gg:=HA (W:=U.put (W.next+1) (.cells (wO v u))) (AW.bH _ _ _);simp only[SX,r1,r2,HA z0,po,HZ,adu,gg,bl,aq]
  exact⟨u,M,rfl,hU.put (by omega) _,(hE.dD (W':=U.put (W.next+1) (.cells (wO v u))) (aS _) λb hb _=>AW.aE _ _ (by omega)).low (by omega),hM,
   λx h=>⟨⟨p9 (hx x h).1.1 (hx x h).2 (aS _) (λd _ hd=>AW.aE _ _ (bL hd)),(hx x h).1.2⟩,jJ x h⟩⟩
structure Rs (W:AW) (v:ce) (sv ev:ae) (l:List cC):Prop where
 a:K4 W v sv ev l
 cap:∃a c,ev=.slice a l.length c/\l.length<=c/\c<eS/\(a=none\/∃b o,a=some ⟨b,o,none⟩)
def Rs.mono{W W':AW}{v:ce}{sv ev:ae}{l:List cC}(h:Rs W v sv ev l)(bk:Le W W'):Rs W' v sv ev l:=⟨h.a.mono bk,h.cap⟩
def Rs.vs{W:AW}{v:ce}{sv ev:ae}{l:List cC}(h:Rs W v sv ev l):gu ev ev=true:=by
 obtain⟨a,c,rfl,-,-,rfl|⟨b,o,rfl⟩⟩:=h.cap
 ·exact sd _ _
 ·exact mi _ _ _ _
def Yb:rQ Tryz.prog 25=some 31:=by kernel_rfl
def yk{P:Program}{W:AW}{t:ah}{z:Nat}(hz:rQ P t=some z){l c h:Nat}{k:IntKind}(h1:h<=c):
 dX P t (.slice none l c) none (some (.int k (h:Int))) none W=some (.slice none h c,W):=by
 obtain⟨e,he,hz⟩:=sm hz;unfold dX jS;simp only[he,hz,eW,iX,Nat.zero_le,bc,Nat.sub_zero,true_and,h1]
def Qd{W:AW}{v:ce}{sv ev:ae}{l:List cC}(h:Rs W v sv ev l){n:Nat}(hn:n<=l.length):∃u,(∀W':AW,dX Tryz.prog 25 ev none (some (.af (n:Int))) none W'=some (u,W'))/\Rd W 31 eA u (l.take n):=by
 have dy:(l.take n).length=n:=by rw[dR];omega
 obtain⟨a,c,rfl,h1,h2,h3⟩:=h.cap;obtain⟨a',c',e,hr⟩:=Lc h.a.QX;injection e with e1 e2 e3;subst e1;subst e3;rcases h3 with rfl|⟨b,o,rfl⟩
 ·refine⟨_,λW'=>yk Yb (by omega),none,c,by rw[dy],?_⟩;rcases hr with rfl|⟨b',o',cs,e4,-⟩
  ·exact .inl (by simp)
  ·cases e4
 ·refine⟨_,λW'=>Ah Yb (by omega) h2,_,_,by rw[dy],?_⟩;rcases hr with rfl|⟨b',o',cs,e4,i1,i2,i3⟩
  ·exact .inl (by simp)
  ·injection e4 with e4;injection e4 with e5 e6;subst e5;subst e6;refine .inr ⟨b,o,cs,rfl,i1,i2,?_⟩;rw[dy,<-JX tx,<-i3,tC,mG (oB 31 hn)]
def R5(W:AW):bh Tryz.prog 27 W=some (dd W.next,W.add (.cells (yN nT iK iK))):=aL (by kernel_rfl) rfl
def G0(W:AW):cn Tryz.prog 27 [] W=some (tU nT iK iK,W):=aL (by kernel_rfl) rfl
def Tc(v:ce)(a a2:Option Addr)(n c n2 c2:Nat)(W:AW):cn Tryz.prog 27 [(0,jA v (.slice a n c)),(1,.slice a2 n2 c2)] W=some (tU v (.slice a n c) (.slice a2 n2 c2),W):=aL (by kernel_rfl) rfl
def O1(x:ae)(W:AW):ic Tryz.prog 27 x W=b9 5 x W:=by kernel_rfl
def Rh{W:AW}{b:Nat}{v v0:ce}{sv ev s0 e0:ae}(h:W.get b=some (.cells (yN v0 s0 e0)))(h1:Eng.one sv=true)(h2:Eng.one ev=true):cS 5 (dd b) (tU v sv ev) W=some (ai,W.put b (.cells (yN v sv ev))):=
 vH h rfl rfl (by simp[h1,h2,oa])
def Kr(e n:Int)(m:Nat):Int:=if e=0 then(if n<0\/(m:Int)<n then 7 else 0)else e
def xm(v:ce)(c:Int):ce:=if c=0 then v else nT
def Ky(l:List cC)(c n:Int):List cC:=if c=0 then l.take n.toNat else []
def Fz(W W':AW)(v:ce)(l:List cC)(c n:Int)(q:ae):Prop:=∃u w M,q=.tuple #[tU (xm v c) u w,.af c]/\Le W W'/\EL W.next W' 3 ud u M/\M.map pQ.sec=(xm v c).aB/\(∀x∈M,Hx W' x/\∀b,b<W.next->av b x.rv)/\EL W.next W' 31 eA w (Ky l c n)
def Gc{W W':AW}{v:ce}{l:List cC}{c n:Int}{q:ae}(h:Fz W W' v l c n q)(hp:a7 q=true):Fz W W v l c n q:=by
 obtain⟨u,w,M,rfl,h1,h2,h3,h4,h5⟩:=h;have key:∀{α:Type} {z:Nat} {f:α->List ae} {v:ae} {l:List α},EL W.next W' z f v l->(a7 v=true\/∃a n c,v=.slice (some a) n c):=λ{α z f v l} h=>by
  rcases h with⟨rfl,rfl|⟨B,rfl⟩⟩|⟨h0,B,c,i1,i2,rfl,hc,i4⟩
  ·exact .inl rfl
  ·exact .inr ⟨_,_,_,rfl⟩
  ·exact .inr ⟨_,_,_,rfl⟩
 have hu:a7 u=true:=by
  rcases key h2 with h|⟨a,n,c,rfl⟩
  ·exact h
  ·simp[a7,dI,bZ]at hp
 have hw:a7 w=true:=by
  rcases key h5 with h|⟨a,n,c,rfl⟩
  ·exact h
  ·simp[a7,dI,bZ]at hp
 have hM:M=[]:=by
  rcases h2 with⟨rfl,-⟩|⟨h0,B,c,i1,i2,rfl,hc,i4⟩
  ·rfl
  ·simp[a7,dI,bZ]at hu
 subst hM;exact⟨u,w,[],rfl,.refl _,pf h2 hu,h3,(λx hx=>by cases hx),pf h5 hw⟩
section
variable {W:AW} {v:ce} {sv ev:ae} {l:List cC}
def H5{U:AW}{b:Nat}{v0:ce}{s0 e0:ae}{c n:Int}{u w:ae}{M:List pQ}(bk:Le W U)(hb:W.next<=b)(g:U.get b=some (.cells (yN v0 s0 e0)))(hE:EL (b+1) U 3 ud u M)(hM:M.map pQ.sec=(xm v c).aB)(hx:∀x∈M,Hx U x/\∀d,d<b+1->av d x.rv)(hW:EL (b+1) U 31 eA w (Ky l c n)):
 ∃U',cS 5 (dd b) (tU (xm v c) u w) U=some (ai,U')/\U'.get b=some (.cells (yN (xm v c) u w))/\Fz W U' v l c n (.tuple #[tU (xm v c) u w,.af c]):=by
 refine⟨_,Rh g (uC hE) (uC hW),AW.bH _ _ _,u,w,M,rfl,bk.put hb _,(hE.dD (W':=U.put b (.cells (yN (xm v c) u w))) (aS _) λd hd _=>AW.aE _ _ (by omega)).low (by omega),hM,
  λx h=>⟨⟨p9 (hx x h).1.1 ((hx x h).2 b (by omega)) (aS _) (λd _ hd=>AW.aE _ _ (bL hd)),(hx x h).1.2⟩,λd hd=>(hx x h).2 d (by omega)⟩,(hW.dD (W':=U.put b (.cells (yN (xm v c) u w))) (aS _) λd hd _=>AW.aE _ _ (by omega)).low (by omega)⟩
def H6{U:AW}{b:Nat}{c n:Int}(hc:c≠0)(bk:Le W U)(hb:W.next<=b)(g:U.get b=some (.cells (yN nT iK iK))):
 ∃U',cS 5 (dd b) (tU nT iK iK) U=some (ai,U')/\U'.get b=some (.cells (yN nT iK iK))/\Fz W U' v l c n (.tuple #[tU nT iK iK,.af c]):=by
 have hv:xm v c=nT:=by unfold xm;rw[ay hc]
 have hl:Ky l c n=[]:=by unfold Ky;rw[ay hc]
 obtain⟨U',h1,h2,h3⟩:=H5 (W:=W) (v:=v) (l:=l) (c:=c) (n:=n) (u:=iK) (w:=iK) (M:=[]) bk hb g (EL.nil _ _ _ _) (by rw[hv];rfl) (λx hx=>by cases hx) (by rw[hl];exact EL.nil _ _ _ _);rw[hv]at h1 h2 h3;exact⟨U',h1,h2,h3⟩
def Vv(v:ce)(sv ev:ae)(W:AW):∃V0 V,cN (tU v sv ev) W=some (dd W.next,V0)/\bh Tryz.prog 27 V0=some (dd (W.next+1),V)/\Le W V/\V.next=W.next+2/\V.get W.next=some (.cells (yN v sv ev))/\V.get (W.next+1)=some (.cells (yN nT iK iK)):=
 ⟨_,_,MJ v sv ev W,by rw[R5,AW.aJ],((Le.refl _).add _).add _,by rw[AW.aJ,AW.aJ],by rw[AW.aZ _ _ (by rw[AW.aJ];omega),AW.bf],by rw[show W.next+1=(W.add (.cells (yN v sv ev))).next by rw[AW.aJ],AW.bf]⟩
end
def Mf(v:ce):xm v 0=v:=ax rfl
def Rj(l:List cC)(k:Nat):Ky l 0 (k:Int)=l.take k:=by unfold Ky;rw[ax rfl,nG]
section
variable {W:AW} {v:ce} {sv ev:ae} {l:List cC}
def I7(hG:GW W)(h:Rs W v sv ev l)(n:Int):∃(a e:Int) (q:ae) (W':AW),rq v l a e/\bD (.func (.func 12) #[] #[]) [tU v sv ev,.af n] W=some (q,W')/\Fz W W' v l (Kr e n l.length) n q:=by
 obtain⟨V0,V,bx,al,bk,nV,g0,g1⟩:=Vv v sv ev W;have hV:=h.mono bk;obtain⟨a,e,hA,q1⟩:=me (hG.mono bk) hV.a;suffices hs:∃(q:ae) (W':AW),bD (.func (.func 12) #[] #[]) [tU v sv ev,.af n] W=some (q,W')/\Fz W W' v l (Kr e n l.length) n q by obtain⟨q,W',h1⟩:=hs;exact⟨a,e,q,W',hA,h1⟩
 refine sD (Q:=λq W'=>Fz W W' v l (Kr e n l.length) n q) ?_ zH λq W' hq _ hp=>Gc hq hp
 unfold x8 Kr;have cB:=fN g0;have c4:aY (.pointer (some ⟨W.next,4,none⟩)) V=some (ev,V):=jE g0 rfl;have RC:∀W',aD Tryz.prog .len #[25] 3 #[false] [ev] W'=some (.af (l.length:Int),W'):=λW'=>Row.len h.a.QX DJ W' 3 #[false]
 by_cases he:e=0;case neg=>have d:=bK he;obtain⟨U',p1,p2,p3⟩:=H6 (v:=v) (l:=l) (n:=n) he bk (by omega) g1;simp only[SX,bx,al,cB,q1,d,G0,p1,k8,O1,fN p2,bl,ay he,aq];exact p3
 subst he;have d:decide ((0:Int)=0)=true:=rfl;rw[ax rfl];by_cases c1:n<0\/(l.length:Int)<n
 ·obtain⟨U',p1,p2,p3⟩:=H6 (v:=v) (l:=l) (c:=7) (n:=n) (by decide) bk (by omega) g1;rw[ax c1];by_cases c2:n<0
  ·have d2:=br c2;simp only[SX,bx,al,cB,q1,d2,G0,p1,k8,O1,fN p2,bl,aq];exact p3
  ·have d2:=bK c2;have d3:decide ((l.length:Int)<n)=true:=br (c1.resolve_left c2);simp only[SX,bx,al,cB,q1,d2,aU,c4,RC,d3,G0,p1,k8,O1,fN p2,bl,aq];exact p3
 rw[ay c1];obtain⟨k,rfl⟩:∃k:Nat,n=(k:Int):=⟨n.toNat,by omega⟩;have d2:decide ((k:Int)<0)=false:=fF;have d3:decide ((l.length:Int)<(k:Int))=false:=fF;have hl:=hA.QF.2.2.1;have c0:b9 4 (dd W.next) V=some (jA v sv,V):=fJ (bw g0) rfl;obtain⟨s,b1,b2⟩:=Qd hV (n:=k) (by omega);obtain⟨q,V1,k1,u,M,rfl,k2,k3,k4,k5⟩:=EJ hV.a.aB.1 h.a.small h.a.rows;obtain⟨w,V2,j1,j2,j3⟩:=C3 (b2.dD k2) (by rw[dR];omega);have n1:=k2.next;have n2:=j2.next;have x4:aY (.pointer (some ⟨W.next,4,none⟩)) V1=some (ev,V1):=jE ((k2.get _ (by omega)).trans g0) rfl;have x1:=(j2.get (W.next+1) (by omega)).trans ((k2.get (W.next+1) (by omega)).trans g1);obtain⟨U',p1,p2,p3⟩:=H5 (v:=v) (l:=l) (c:=0) (n:=(k:Int)) (u:=u) (w:=w) (M:=M) (bk.trans (k2.trans j2)) (by omega) x1 ((k3.mono j2).low (by omega)) (by rw[Mf];exact k4) (λx hx=>⟨(k5 x hx).1.mono j2,λd hd=>(k5 x hx).2 d (by omega)⟩) (by rw[Rj];exact j3.low (by omega));rw[Mf]at p1 p2 p3;obtain⟨ua,uc,rfl⟩:=k3.slice;obtain⟨wa,wc,rfl⟩:=j3.slice;simp only[SX,bx,al,cB,q1,d2,aU,c4,RC,d3,c0,b1,k1,x4,ph,h.vs,ov,j1,Tc,p1,k8,O1,fN p2,bl,aq];exact p3
open Classical in
end
def uO(l:List Int):Int:=gD (l.map λn=>if 0<n/\n<=100 then n else 0)
def AH{l:List Int}{k:Nat}(hk:k<l.length):uO (l.take (k+1))=uO (l.take k)+(if 0<l[k]/\l[k]<=100 then l[k]else 0):=by unfold uO;rw[qi,cx hk,qK,oA,iN,lA,y9]
def ya(l:List Int)(k:Nat):0<=uO (l.take k)/\uO (l.take k)<=100*k:=by
 induction k with
 |zero=>simp[uO,gD]
 |succ k ih=>
  by_cases hk:k<l.length
  ·rw[AH hk];split<;>omega
  ·rw[mz (show l.length<=k by omega)]at ih;rw[mz (show l.length<=k+1 by omega)];omega
def ub(l:List iT):Int:=gD (l.map λs=>uO s.rows)
def Dm{l:List iT}{k:Nat}(hk:k<l.length):ub (l.take (k+1))=ub (l.take k)+uO l[k].rows:=by unfold ub;rw[qi,cx hk,qK,oA,iN,lA,y9]
def KN(l:List iT)(h:∀s∈l,s.rows.length<=20)(k:Nat):0<=ub (l.take k)/\ub (l.take k)<=2000*k:=by
 induction k with
 |zero=>simp[ub,gD]
 |succ k ih=>
  by_cases hk:k<l.length
  ·rw[Dm hk];have h1:=ya l[k].rows l[k].rows.length;rw[dK]at h1;have:=h _ (fq hk);omega
  ·rw[mz (show l.length<=k by omega)]at ih;rw[mz (show l.length<=k+1 by omega)];omega
def Ls:((#[22]:Array ah)[0]?).bind Tryz.prog.underlying=some (.slice 66):=by kernel_rfl
def ZB(v:ce):Prop:=v.aB.length<=10/\(∀s∈v.aB,s.rows.length<=20)/\ub v.aB<=200
def Kq{v:ce}{sv:ae}{W:AW}(hs:oQ W sv v.aB):∃b,bD (.func (.func 20) #[] #[]) [jA v sv] W=some (.bool b,W)/\(b=false->ZB v):=by
 have nK:Ok (uH bD (jA v sv) W) λr=>∃b,r.1=.bool b/\Le W r.2/\(b=false->ZB v):=by
  unfold uH;obtain⟨W1,hB,bk,hn,c4,c0,c3⟩:=lc v sv W;have zB:=hs.mono bk;have QN:=bk.next;have yA:∀(k:Nat) (W':AW),k<1000000->az Tryz.prog .add 3 false true (.af (k:Int)) (.af 1) W'=some (.af ((k+1:Nat):Int),W'):=λk W' hk=>dg (by omega) (by omega)
  simp only[SX,hB,c3 _ (.refl _),zB.len Ls];by_cases t0:10<(v.aB.length:Int)
  ·simp only[SX,br t0,aq];exact⟨_,rfl,bk,λhb=>by cases hb⟩
  simp only[SX,bK t0];have hl:v.aB.length<=10:=by omega
  refine df v.aB.length (by omega) (λi R W'=>Le W1 W'/\R 1=.pointer (some ⟨W.next,0,none⟩)/\R 3=.af (ub (v.aB.take i))/\R 4=.af (i:Int)/\∀j (h:j<v.aB.length),j<i->v.aB[j].rows.length<=20)
   (λr=>Le W1 r.2.2/\((r.1=.exit 0/\r.2.1 3=.af (ub v.aB)/\∀s∈v.aB,s.rows.length<=20)\/(r.1=.ret/\r.2.1 2=.bool true))) ⟨.refl _,rfl,rfl,rfl,λj h hj=>by omega⟩ ?_ ?_ ?_
  ·rintro i R W' hi ⟨Fc,f1,f3,f4,hj⟩;unfold nM;have e1:((i:Int)<(v.aB.length:Int)):=by omega
   obtain⟨b,o,rv,p1,p2,p3,p4,p5,-⟩:=zB.get hi;have hlw:=Fc.next;have Fs:aH (W'.add (.cells [.string (aP v.aB[i].name),rv,.af v.aB[i].q])) W'.next=some [.string (aP v.aB[i].name),rv,.af v.aB[i].q]:=bO;simp only[SX,f1,f4,aU,c3 _ Fc,zB.len Ls,e1,p1,p3 _ Fc,Si,OO bz (od _) (Row.one p2) (oa _ _),du];have l2:Le W1 (W'.add (.cells [.string (aP v.aB[i].name),rv,.af v.aB[i].q])):=Fc.add _;have n2:(W'.add (.cells [.string (aP v.aB[i].name),rv,.af v.aB[i].q])).next=W'.next+1:=AW.aJ _ _;generalize hW2:W'.add (.cells [.string (aP v.aB[i].name),rv,.af v.aB[i].q])=W2 at *;have d0:∀W3,Le W2 W3->aY (.pointer (some ⟨W'.next,0,none⟩)) W3=some (.string (aP v.aB[i].name),W3):=λW3 h3=>dN (by rw[h3.aH (by omega)];exact Fs) rfl
   have d1:∀W3,Le W2 W3->aY (.pointer (some ⟨W'.next,1,none⟩)) W3=some (rv,W3):=λW3 h3=>dN (by rw[h3.aH (by omega)];exact Fs) rfl
   simp only[SX,d1 _ (.refl _),p2.len vq];by_cases t1:20<(v.aB[i].rows.length:Int)
   ·simp only[SX,br t1,aq];exact .inr ⟨by simp,l2,.inr ⟨aF,rfl⟩⟩
   simp only[SX,bK t1,d0 _ (.refl _),gM wq];by_cases t2:100<(v.aB[i].name.length:Int)
   ·simp only[SX,br t2,aq];exact .inr ⟨by simp,l2,.inr ⟨aF,rfl⟩⟩
   simp only[SX,bK t2];have acb:∀s∈v.aB.take i,s.rows.length<=20:=λs hs=>by obtain⟨j,Zc,rfl⟩:=tv hs;rw[dR]at Zc;rw[List.getElem_take];exact hj j (by omega) (by omega)
   have AI:=KN (v.aB.take i) acb i;rw[tC,Nat.min_self]at AI;refine df v.aB[i].rows.length (by omega) (λk R X=>X=W2/\R 1=.pointer (some ⟨W.next,0,none⟩)/\R 3=.af (ub (v.aB.take i)+uO (v.aB[i].rows.take k))/\R 4=.af (i:Int)/\R 5=.pointer (some ⟨W'.next,0,none⟩)/\R 6=.af (k:Int))
    (λr=>r.2.2=W2/\r.1=.exit 2/\r.2.1 1=.pointer (some ⟨W.next,0,none⟩)/\r.2.1 3=.af (ub (v.aB.take i)+uO v.aB[i].rows)/\r.2.1 4=.af (i:Int)) ⟨rfl,f1,by rw[show uO (v.aB[i].rows.take 0)=0 from rfl,js];exact f3,f4,rfl,rfl⟩ ?_ ?_ ?_
   ·rintro k R W3 hk ⟨rfl,g1,g3,g4,g5,g6⟩;unfold jR;have e2:((k:Int)<(v.aB[i].rows.length:Int)):=by omega
    obtain⟨p,q1,q2⟩:=p2.get hk;have hkb:=ya v.aB[i].rows k;have ht:=AH hk;simp only[SX,g3,g5,g6,aU,d1 _ (.refl _),p2.len vq,e2,q1,q2 _ l2];by_cases t3:0<v.aB[i].rows[k];case neg=>rw[bX,js]at ht;simp only[SX,bK t3,yA k _ (by omega),aq];exact .inl ⟨aF,aF,g1,by rw[ht];exact g3,g4,g5,rfl⟩
    simp only[SX,br t3,d1 _ (.refl _),q1,q2 _ l2];by_cases t4:v.aB[i].rows[k]<=100;case neg=>rw[bX,js]at ht;simp only[SX,bK t4,yA k _ (by omega),aq];exact .inl ⟨aF,aF,g1,by rw[ht];exact g3,g4,g5,rfl⟩
    rw[ax ⟨t3,t4⟩]at ht;have ea:∀W',az Tryz.prog .add 3 false false (.af (ub (v.aB.take i)+uO (v.aB[i].rows.take k))) (.af v.aB[i].rows[k]) W'=some (.af (ub (v.aB.take i)+uO (v.aB[i].rows.take k)+v.aB[i].rows[k]),W'):=λW'=>dg (by omega) (by omega)
    simp only[SX,br t4,ea,yA k _ (by omega),aq];exact .inl ⟨aF,aF,g1,by rw[ht,<-tN];rfl,g4,g5,rfl⟩
   ·rintro R W3 ⟨rfl,g1,g3,g4,g5,g6⟩;unfold jR;have e2:¬((v.aB[i].rows.length:Int)<(v.aB[i].rows.length:Int)):=by omega
    rw[dK]at g3;simp only[SX,g5,g6,aU,d1 _ (.refl _),p2.len vq,e2,aq];exact⟨by simp,aF,aF,g1,g3,g4⟩
   ·rintro⟨x,R,W3⟩ ⟨hW,hx,g1,g3,g4⟩;simp only at hW hx g1 g3 g4;subst hW hx;simp only[SX,g4,yA i _ (by omega),aq];refine .inl ⟨aF,l2,g1,by rw[Dm hi];exact g3,rfl,λj h hji=>?_⟩;by_cases acw:j<i
    ·exact hj j h acw
    ·obtain rfl:j=i:=by omega
     omega
  ·rintro R W' ⟨Fc,f1,f3,f4,hj⟩;unfold nM;have e1:¬((v.aB.length:Int)<(v.aB.length:Int)):=by omega
   rw[dK]at f3;simp only[SX,f1,f4,aU,c3 _ Fc,zB.len Ls,e1,aq];exact⟨by simp,Fc,.inl ⟨aF,f3,λs hs=>by obtain⟨j,Zc,rfl⟩:=tv hs;exact hj j Zc Zc⟩⟩
  ·rintro⟨x,R,W'⟩ ⟨Fc,hq⟩;simp only at Fc hq;rcases hq with⟨rfl,f3,hj⟩|⟨rfl,f2⟩
   ·simp only[SX,f3,aq];exact⟨_,rfl,bk.trans Fc,λhb=>⟨hl,hj,by have:=of_decide_eq_false hb;omega⟩⟩
   ·simp only[SX,f2,aq];exact⟨_,rfl,bk.trans Fc,λhb=>by cases hb⟩
 obtain⟨⟨r,W'⟩,h1,b,h2,h3,h4⟩:=nK;simp only at h2 h3;subst h2;exact⟨b,by rw[AX h1,w6 h3],h4⟩
def Qv(a b:Int)(W:AW):aD Tryz.prog .min #[3,3] 3 #[false,true] [.af a,.af b] W=some (.af (min a b),W):=by
 have e:aD Tryz.prog .min #[3,3] 3 #[false,true] [.af a,.af b] W=(iy Tryz.prog ([Value.int .i64 a,.af b].all a7) (builtin .min #[3,3] 3 #[false,true] #[.af a,.af b])).map λv=>(v,W):=by unfold aD;rfl
 rw[e];have e2:builtin .min #[3,3] 3 #[false,true] #[.af a,.af b]=(do pure (.value (<-Builtin.min_ #[3,3] 3 #[.af a,.af b]))):=rfl;rw[e2];refine xJ ?_ rfl _ rfl;unfold Builtin.min_;simp only[List.foldlM_cons,List.foldlM_nil,dM,Builtin.min2,eF,bl];congr 2;by_cases h:b<a
 ·rw[ax h];omega
 ·rw[ay h];omega
def O8(a b:Int)(W:AW):aD Tryz.prog .max #[3,3] 3 #[true,false] [.af a,.af b] W=some (.af (max a b),W):=by
 have e:aD Tryz.prog .max #[3,3] 3 #[true,false] [.af a,.af b] W=(iy Tryz.prog ([Value.int .i64 a,.af b].all a7) (builtin .max #[3,3] 3 #[true,false] #[.af a,.af b])).map λv=>(v,W):=by unfold aD;rfl
 rw[e];have e2:builtin .max #[3,3] 3 #[true,false] #[.af a,.af b]=(do pure (.value (<-Builtin.max_ #[3,3] 3 #[.af a,.af b]))):=rfl;rw[e2];refine xJ ?_ rfl _ rfl;unfold Builtin.max_;simp only[List.foldlM_cons,List.foldlM_nil,dM,Builtin.max2,eF,bl];congr 2;by_cases h:a<b
 ·rw[ax h];omega
 ·rw[ay h];omega
def yZ{K:LT->Option (ae×AW)}{Q:ae×AW->Prop}{V:AW}{b:Nat}{v:ce}{sv:ae}{R0:Nat->ae}(hs:oQ V sv v.aB)(n1:v.aB.length<=10)(n2:∀s∈v.aB,s.rows.length<=20)(c3:aY (.pointer (some ⟨b,3,none⟩)) V=some (sv,V))(r1:R0 1=dd b)(r3:R0 3=.af 0)(r4:R0 4=.af 0)
 (hK:∀R z,R 3=.af z->Ok (K (.exit 0,R,V)) Q):Ok (ak (dP (j8 bD) R0 V) K) Q:=by
 refine df v.aB.length (by omega) (λi R W'=>W'=V/\R 1=dd b/\(∃z:Int,R 3=.af z/\0<=z/\z<=2000*i)/\R 4=.af (i:Int))
  (λr=>r.2.2=V/\r.1=.exit 0/\∃z,r.2.1 3=.af z) ⟨rfl,r1,⟨0,r3,by omega,by omega⟩,r4⟩ ?_ ?_ ?_
 ·rintro i R W' hi ⟨rfl,f1,⟨z,f3,z1,z2⟩,f4⟩;unfold j8;have e1:decide ((i:Int)<(v.aB.length:Int))=true:=lV;obtain⟨bb,o,rv,p1,p2,p3,p4,p5,-⟩:=hs.get hi;have p5':=p5 W' (.refl _);have h20:=n2 _ (fq hi);have t2:=λW'=>eH W' i 1
  have e3:((i+1:Nat):Int)=(i:Int)+1:=by omega
  simp only[SX,f1,f4,aU,c3,hs.len Ls,e1];refine df v.aB[i].rows.length (by omega) (λk R X=>X=W'/\R 1=dd b/\(∃z:Int,R 3=.af z/\0<=z/\z<=2000*i+100*k)/\R 4=.af (i:Int)/\R 5=.af (k:Int))
   (λr=>r.2.2=W'/\r.1=.exit 2/\r.2.1 1=dd b/\(∃z:Int,r.2.1 3=.af z/\0<=z/\z<=2000*((i:Int)+1))/\r.2.1 4=.af (i:Int)) ⟨rfl,f1,⟨z,f3,z1,by omega⟩,f4,rfl⟩ ?_ ?_ ?_
  ·rintro k R W3 hk ⟨rfl,g1,⟨y,g3,y1,y2⟩,g4,g5⟩;unfold jI;have e2:decide ((k:Int)<(v.aB[i].rows.length:Int))=true:=lV;obtain⟨p,q1,q2⟩:=p2.get hk;have m1:=Qv v.aB[i].rows[k] 100;have m2:=O8 0 (min v.aB[i].rows[k] 100);obtain⟨mm,hmm⟩:∃mm,mm=max 0 (min v.aB[i].rows[k] 100):=⟨_,rfl⟩;have hm1:0<=mm/\mm<=100:=by omega
   rw[<-hmm]at m2;have ea:=λW'=>sw W' y mm
   have ec:=λW'=>eH W' k 1
   simp only[SX,g1,g3,g4,g5,aU,c3,p1,p5',p2.len vq,e2,q1,q2 _ (.refl _),m1,m2,ea,ec,aq];exact .inl ⟨aF,aF,g1,⟨_,rfl,by omega,by omega⟩,g4,by rw[show((k+1:Nat):Int)=(k:Int)+1 by omega];rfl⟩
  ·rintro R W3 ⟨rfl,g1,⟨y,g3,y1,y2⟩,g4,g5⟩;unfold jI;have e2:decide ((v.aB[i].rows.length:Int)<(v.aB[i].rows.length:Int))=false:=fF;simp only[SX,g1,g4,g5,aU,c3,p1,p5',p2.len vq,e2,aq];exact⟨by simp,aF,aF,g1,⟨_,g3,by omega,by omega⟩,g4⟩
  ·rintro⟨x,R,W3⟩ ⟨rfl,rfl,g1,⟨y,g3,y1,y2⟩,g4⟩;have g1:R 1=dd b:=g1;have g3:R 3=.af y:=g3;have g4:R 4=.af (i:Int):=g4;simp only[SX,g4,t2,aq];exact .inl ⟨aF,aF,g1,⟨y,g3,by omega,by omega⟩,by rw[e3];rfl⟩
 ·rintro R W' ⟨rfl,f1,⟨z,f3,z1,z2⟩,f4⟩;unfold j8;have e1:decide ((v.aB.length:Int)<(v.aB.length:Int))=false:=fF;simp only[SX,f1,f4,aU,c3,hs.len Ls,e1,aq];exact⟨by simp,aF,aF,z,f3⟩
 ·rintro⟨x,R,W'⟩ ⟨rfl,rfl,z,f3⟩;exact hK R z f3
def IZ{W:AW}{v:ce}{sv ev:ae}{l:List cC}(hs:eG W sv v.aB)(he:Rx W ev l):∃c:Bool,bD (.func (.func 6) #[] #[]) [tU v sv ev] W=some (.bool c,W)/\(c=false->K4 W v sv ev l):=by
 have nK:Ok (uk bD (tU v sv ev) W) λr=>∃c:Bool,r.1=.bool c/\Le W r.2/\(c=false->K4 W v sv ev l):=by
  unfold uk;obtain⟨V,bx,bk,nV,g0⟩:=yj v sv ev W;have h1:=hs.mono bk;have l4:b9 4 (dd W.next) V=some (jA v sv,V):=fJ (bw g0) rfl;have c3:aY (.pointer (some ⟨W.next,3,none⟩)) V=some (sv,V):=jE g0 rfl;have c4:aY (.pointer (some ⟨W.next,4,none⟩)) V=some (ev,V):=jE g0 rfl;have ln:∀W',aD Tryz.prog .len #[25] 3 #[false] [ev] W'=some (.af (l.length:Int),W'):=λW'=>Row.len he DJ W' 3 #[false]
  obtain⟨b,f1,f2⟩:=Kq h1.1;cases b with
  |true=>simp only[SX,bx,aU,l4,f1,wu2,aq];exact⟨_,rfl,bk,λe=>by cases e⟩
  |false=>
  obtain⟨n1,n2,-⟩:=f2 rfl;have hR:K4 W v sv ev l:=⟨hs,by omega,λs hm=>by have:=n2 s hm;omega,he⟩;cases d1:decide ((200:Int)<(l.length:Int))with
  |true=>
   cases d2:decide ((l.length:Int)<=2000)with
   |true=>simp only[SX,bx,aU,l4,f1,c4,ln,d1,d2,aq];exact⟨_,rfl,bk,λ_=>hR⟩
   |false=>
    cases d3:decide ((2010:Int)<(l.length:Int))with
    |true=>simp only[SX,bx,aU,l4,f1,c4,ln,d1,d2,d3,aq];exact⟨_,rfl,bk,λ_=>hR⟩
    |false=>
     simp only[SX,bx,aU,l4,f1,c4,ln,d1,d2,d3];refine yZ h1.1 n1 n2 c3 rfl rfl rfl λR z hz=>?_
     simp only[SX,hz,aq];exact⟨_,rfl,bk,λ_=>hR⟩
  |false=>
   cases d3:decide ((2010:Int)<(l.length:Int))with
   |true=>simp only[SX,bx,aU,l4,f1,c4,ln,d1,d3,aq];exact⟨_,rfl,bk,λ_=>hR⟩
   |false=>
    simp only[SX,bx,aU,l4,f1,c4,ln,d1,d3];refine yZ h1.1 n1 n2 c3 rfl rfl rfl λR z hz=>?_
    simp only[SX,hz,aq];exact⟨_,rfl,bk,λ_=>hR⟩
 obtain⟨⟨q,W'⟩,h1,c,h2,h3,h4⟩:=nK;simp only at h2;subst h2;exact⟨c,cG rfl ⟨_,h1,rfl,h3⟩ Bv,h4⟩
section
variable {α:Type} {V U U':AW} {z:Nat} {f:α->List ae} {m:List α} {cv:ae}
end
section
variable {W V:AW} {v:ce} {sv ev:ae} {l:List cC}
open Classical in
end
def TN{n:Int}(h0:0<=n)(h1:n<=255)(W:AW):wg Tryz.prog 5 3 (.int .u8 n) W=some (.af n,W):=by have:wg Tryz.prog 5 3 (.int .u8 n) W=some (.af (IntKind.i64.wrap n),W):=aL (by kernel_rfl) rfl;rw[this,sZ (by omega) (by omega)]
def B5(g:Nat->Int):List ae:=(List.range 201).map λj=>.af (g j)
def Pg(g:Nat->Int):(B5 g).length=201:=by simp[B5]
def PU(g:Nat->Int){j:Nat}(hj:j<201):(B5 g)[j]? =some (.af (g j)):=by unfold B5;rw[kN,List.getElem?_range hj];rfl
def PJ(g:Nat->Int)(j:Nat)(x:Int):(B5 g).set j (.af x)=B5 λk=>if k=j then x else g k:=by
 unfold B5;refine List.ext_getElem (by simp) λn h1 h2=>?_
 rw[List.getElem_set];simp only[List.getElem_map,List.getElem_range];by_cases e:j=n
 ·rw[ax e,ax e.symm]
 ·rw[ay e,ay (bL e)]
def adt(W:AW):bh Tryz.prog 48 W=some (dd W.next,W.add (.cells (B5 λ_=>0))):=aL (by kernel_rfl) rfl
structure ZY (m:List jo) (i:Nat) (op:Bool) (n:Nat) (y:jo):Prop where
 last:y.to<0->i+1=m.length/\op=true
 len:0<=y.to->y.fr<y.to
 chain:∀(j:Nat) (z:jo),j+1=i->m[j]? =some z->z.to<y.fr
 id:1<=y.id/\y.id<=n
 pre:∀(j:Nat) (z:jo),j<i->m[j]? =some z->z.fr<y.fr
def tg{st:Int}{m:List jo}(h:BF st m){i j:Nat}{y z:jo}(hi:m[i]? =some y)(hj:m[j]? =some z)(hij:j<i):z.to<y.fr/\z.fr<y.fr:=by obtain⟨h1,h2⟩:=cr.1 hi;obtain⟨h3,h4⟩:=cr.1 hj;have k:=List.pairwise_iff_getElem.1 h.1 j i h3 h1 hij;rw[h2,h4]at k;have:=h.2 z (by rw[<-h4];exact fq _);exact⟨k,by omega⟩
def kj.spn{v:ce}{s:RS}{sp:Int->List jo}(h:kj v s sp){k:Int}{i:Nat}{y:jo}(hy:(sp k)[i]? =some y):ZY (sp k) i (s.cl.any λc=>decide (c.an<0)) s.cl.length y:=by
 have Qj:=mD hy;have Bw:=h.RO k y Qj;have hs:=h.LU k;cases hl:s.lk k with
 |none=>rw[hl]at hs;have:=hs.2 y Qj;exact⟨λe=>by omega,λ_=>this.2.1,λj z hj hz=>(tg hs hy hz (by omega)).1,Bw,λj z hj hz=>(tg hs hy hz hj).2⟩
 |some id=>
  rw[hl]at hs;obtain⟨m',f,e,h1,h2,h3,h4⟩:=hs;by_cases hi:i<m'.length
  ·have Lt:m'[i]? =some y:=by rw[e,o6 hi]at hy;exact hy
   have:=h1.2 y (mD Lt);have get:∀{j z},j<i->(sp k)[j]? =some z->m'[j]? =some z:=λ{j z} hj hz=>by rw[e,o6 (by omega)]at hz;exact hz
   exact⟨λe=>by omega,λ_=>this.2.1,λj z hj hz=>(tg h1 Lt (get (by omega) hz) (by omega)).1,Bw,λj z hj hz=>(tg h1 Lt (get hj hz) hj).2⟩
  ·have dy:i=m'.length:=by have:=(cr.1 hy).1;rw[e,dj,List.length_singleton]at this;omega
   have Lt:y=⟨id,f,-1⟩:=by rw[e,ir (by omega),dy,mp]at hy;injection hy with hy;exact hy.symm
   subst Lt;have get:∀{j z},j<i->(sp k)[j]? =some z->z∈m':=λ{j z} hj hz=>by rw[e,o6 (by omega)]at hz;exact mD hz
   refine⟨λ_=>⟨by rw[e,dj,List.length_singleton];omega,?_⟩,λe=>(by simp only at e;omega),λj z hj hz=>h2 z (get (by omega) hz),Bw,λj z hj hz=>?_⟩
   ·obtain⟨w,o,a,b,c⟩:=(h.V8 k id).1 hl;obtain⟨d1,d2⟩:=h.TC w o a;have pa:o.c<s.cl.length:=by simp only at Bw;omega
    rw[nZ];refine⟨a6 s o.c,?_,by rw[d2];rfl⟩;have:a6 s o.c=s.cl[o.c]:=by simp[a6,List.getD,pa]
    rw[this];exact fq _
   ·have:=h1.2 z (get hj hz);have:=h2 z (get hj hz);simp only;omega
def ij(sp:Int->List jo)(k:Int)(i:Nat)(g:Nat->Int):Prop:=
 ∀id:Nat,g id=0\/∃(k':Int) (j:Nat) (z:jo),(sp k')[j]? =some z/\(k'<k\/(k'=k/\j<i))/\z.id=(id:Int)/\g id=z.fr
def ij.lt{v:ce}{s:RS}{sp:Int->List jo}(h:kj v s sp){k:Int}{i:Nat}{g:Nat->Int}(hg:ij sp k i g){y:jo}(hy:(sp k)[i]? =some y){id:Nat}(Bw:y.id=(id:Int))(h0:0<g id):g id<y.fr:=by
 rcases hg id with e|⟨k',j,z,h1,h2,h3,h4⟩
 ·omega
 rw[h4];rcases h2 with h2|⟨rfl,h2⟩
 ·exact h.Gv k' k z y (mD h1) (mD hy) h2 (by omega)
 ·exact(h.spn hy).pre j z h2 h1
def ij.upd{sp:Int->List jo}{k:Int}{i:Nat}{g:Nat->Int}(hg:ij sp k i g){y:jo}(hy:(sp k)[i]? =some y){id:Nat}(Bw:y.id=(id:Int)):ij sp k (i+1) λq=>if q=id then y.fr else g q:=by
 intro q;by_cases e:q=id
 ·subst e;simp only[bc];exact .inr ⟨k,i,y,hy,.inr ⟨rfl,by omega⟩,Bw,rfl⟩
 ·simp only[ay e];rcases hg q with e|⟨k',j,z,h1,h2,h3,h4⟩
  ·exact .inl e
  ·exact .inr ⟨k',j,z,h1,h2.imp (λa=>a) (λ⟨a,b⟩=>⟨a,by omega⟩),h3,h4⟩
def ij.up{sp:Int->List jo}{k:Int}{i:Nat}{g:Nat->Int}(hg:ij sp k i g)(hi:(sp k).length<=i):ij sp (k+1) 0 g:=by
 intro q;rcases hg q with e|⟨k',j,z,h1,h2,h3,h4⟩
 ·exact .inl e
 ·exact .inr ⟨k',j,z,h1,.inl (by omega),h3,h4⟩
section
variable {W V:AW} {v:ce} {sv ev cv:ae} {l:List cC} {s:RS} {A:Nat} {m:List jo} {op:Bool} {k:Int} {g0:Nat->Int} {u:ae}
def ID{ρ:Type}{K:LT->Option ρ}{Q:ρ->Prop}{R0:Nat->ae}{U0:AW}(hL:kj v s λq=>pG q l)(nu:op=s.cl.any λc=>decide (c.an<0))(oI:s.cl.length<=200)(hm:(pG k l).length<=2000)
 (hc:We U0 cv s.cl)(hA:A<U0.next)(hu:EL (A+1) U0 3 Fl u (pG k l))(hgA:U0.get A=some (.cells (B5 g0)))(CE:ij (λq=>pG q l) k 0 g0)
 (r2:R0 2=dd W.next)(bF:R0 11=cv)(cq:R0 13=.bool op)(bQ:R0 15=dd A)(cK:R0 16=.af k)(cT:R0 17=u)(cL:R0 19=.af 0)
 (hK:∀R U g,R 2=dd W.next->R 11=cv->R 13=.bool op->R 15=dd A->R 16=.af k->U.next=U0.next->(∀b,b≠A->U.get b=U0.get b)->U.get A=some (.cells (B5 g))->ij (λq=>pG q l) (k+1) 0 g->Ok (K (.exit 4,R,U)) Q):Ok (ak (dP (dF bD) R0 U0) K) Q:=by
 have K8:∀W',aD Tryz.prog .len #[33] 3 #[false] [cv] W'=some (.af (s.cl.length:Int),W'):=λW'=>Row.len hc Ly W' 3 #[false]
 have hS:=hu.row qz (mY qz);have PZ:∀W',aD Tryz.prog .len #[49] 3 #[false] [u] W'=some (.af ((pG k l).length:Int),W'):=λW'=>Row.len hS RW W' 3 #[false]
 have hav:=Iy hu (q:=A) (by omega);refine df (pG k l).length (by omega) (λi R U=>R 2=dd W.next/\R 11=cv/\R 13=.bool op/\R 15=dd A/\R 16=.af k/\R 17=u/\R 19=.af (i:Int)/\U.next=U0.next/\(∀b,b≠A->U.get b=U0.get b)/\∃g,U.get A=some (.cells (B5 g))/\ij (λq=>pG q l) k i g)
  (λr=>r.1=.exit 4/\r.2.1 2=dd W.next/\r.2.1 11=cv/\r.2.1 13=.bool op/\r.2.1 15=dd A/\r.2.1 16=.af k/\r.2.2.next=U0.next/\(∀b,b≠A->r.2.2.get b=U0.get b)/\∃g,r.2.2.get A=some (.cells (B5 g))/\ij (λq=>pG q l) (k+1) 0 g)
  ⟨r2,bF,cq,bQ,cK,cT,cL,rfl,λ_ _=>rfl,g0,hgA,CE⟩ ?_ ?_ ?_
 ·rintro i R U hi ⟨r2,bF,cq,bQ,cK,cT,cL,hn,hk,g,hg,sA⟩;unfold dF;have hSU:SpR U u (pG k l):=p9 hS hav (by omega) λd _ hd=>hk d hd
  obtain⟨b,o,p1,p2,p3⟩:=sk qz hSU hi;have hy:(pG k l)[i]? =some (pG k l)[i]:=cx hi;have ok:=hL.spn (k:=k) hy;have fy:=λ{id:Nat} Bw h0=>sA.lt hL (k:=k) hy (id:=id) Bw h0
  have hup:=λ{id:Nat} Bw=>sA.upd (k:=k) hy (id:=id) Bw
  have c0:=p3 0 _ rfl U (.refl _);have c1:=p3 1 _ rfl U (.refl _);have c2:=p3 2 _ rfl U (.refl _);rw[dA]at c0;have hpr:∀j,j+1=i->∃b' o' z,(pG k l)[j]? =some z/\(∀W' kk,j0 3 u (.int kk (j:Int)) W'=some (.pointer (some ⟨b',o',none⟩),W'))/\aY (.pointer (some ⟨b',o'+2,none⟩)) U=some (.af z.to,U):=λj hj=>by
   have hj':j<(pG k l).length:=by omega
   obtain⟨b',o',q1,-,q3⟩:=sk qz hSU hj';exact⟨b',o',_,cx hj',q1,q3 2 _ rfl U (.refl _)⟩
  generalize(pG k l)[i]=y at c0 c1 c2 hy ok fy hup;have t1:decide ((i:Int)<((pG k l).length:Int))=true:=lV;have t2:=λW'=>eH W' i 1
  have e3:((i+1:Nat):Int)=(i:Int)+1:=by omega
  have sb:=λW'=>yv W' ((pG k l).length:Int) 1
  have sbi:=λW'=>yv W' i 1
  obtain⟨id,Bw⟩:∃id:Nat,y.id=(id:Int):=⟨y.id.toNat,by have:=ok.id;omega⟩;have ahN:=ok.id;have d1:decide (y.id<1)=false:=fF;have d2:decide ((s.cl.length:Int)<y.id)=false:=fF;have d3:decide ((200:Int)<y.id)=false:=fF;have R4:∀W',Ik 201 1 (dd A) (.af y.id) W'=some (.pointer (some ⟨A,id,none⟩),W'):=λW'=>by have:=BP (len:=201) (z:=1) (b:=A) (o:=0) (i:=id) (k:=.i64) (W:=W') (by omega);rw[Bw];rw[aU,kp]at this;exact this
  have lg:aY (.pointer (some ⟨A,id,none⟩)) U=some (.af (g id),U):=jE hg (PU g (by omega));have st:cS 1 (.pointer (some ⟨A,id,none⟩)) (.af y.fr) U=some (ai,U.put A (.cells (B5 λq=>if q=id then y.fr else g q))):=by rw[kw,KG hg,bl,ax (by rw[Pg];omega),PJ]
  have Ex:U.next=U0.next/\(∀b,b≠A->(U.put A (.cells (B5 λq=>if q=id then y.fr else g q))).get b=U0.get b)/\∃g',(U.put A (.cells (B5 λq=>if q=id then y.fr else g q))).get A=some (.cells (B5 g'))/\ij (λq=>pG q l) k (i+1) g':=
   ⟨hn,λb hb=>(AW.aE _ _ (bL hb)).trans (hk b hb),_,AW.bH _ _ _,hup Bw⟩
  have gg:decide (0<g id)=true->decide (y.fr<=g id)=false:=λh=>bK (by have:=fy Bw (jn h);omega)
  cases Mw:decide (y.to<0)with
  |true=>
   obtain⟨f1,f2⟩:=ok.last (jn Mw);have d4:decide ((i:Int)<((pG k l).length:Int)-1)=false:=fF;have d5:decide (0<=y.to)=false:=bK (by have:=jn Mw;omega);subst nu;rw[f2]at cq;cases CH:decide ((0:Int)<(i:Int))with
   |false=>
    cases ye:decide (y.fr<=g id)with
    |false=>simp only[SX,bF,cq,bQ,cT,cL,PZ,t1,p1,dA,c0,c1,c2,Mw,sb,d4,d5,CH,d1,K8,d2,d3,R4,lg,ye,st,t2,aq];exact .inl ⟨aF,r2,bF,by rw[f2];exact cq,bQ,cK,cT,by rw[e3];rfl,Ex⟩
    |true=>
     have hz:decide (0<g id)=false:=by cases h:decide (0<g id)with|false=>rfl|true=>rw[gg h]at ye;cases ye
     simp only[SX,bF,cq,bQ,cT,cL,PZ,t1,p1,dA,c0,c1,c2,Mw,sb,d4,d5,CH,d1,K8,d2,d3,R4,lg,ye,hz,st,t2,aq];exact .inl ⟨aF,r2,bF,by rw[f2];exact cq,bQ,cK,cT,by rw[e3];rfl,Ex⟩
   |true=>
    have hip:=jn CH;obtain⟨b',o',z,z1,z2,z3⟩:=hpr (i-1) (by omega);have WP:∀W' kk,j0 3 u (.int kk ((i:Int)-1)) W'=some (.pointer (some ⟨b',o',none⟩),W'):=λW' kk=>by rw[<-z2 W' kk];congr 2;omega
    have d6:decide (y.fr<=z.to)=false:=bK (by have:=ok.chain (i-1) z (by omega) z1;omega);cases ye:decide (y.fr<=g id)with
    |false=>simp only[SX,bF,cq,bQ,cT,cL,PZ,t1,p1,dA,c0,c1,c2,Mw,sb,d4,d5,CH,sbi,WP,z3,d6,d1,K8,d2,d3,R4,lg,ye,st,t2,aq];exact .inl ⟨aF,r2,bF,by rw[f2];exact cq,bQ,cK,cT,by rw[e3];rfl,Ex⟩
    |true=>
     have hz:decide (0<g id)=false:=by cases h:decide (0<g id)with|false=>rfl|true=>rw[gg h]at ye;cases ye
     simp only[SX,bF,cq,bQ,cT,cL,PZ,t1,p1,dA,c0,c1,c2,Mw,sb,d4,d5,CH,sbi,WP,z3,d6,d1,K8,d2,d3,R4,lg,ye,hz,st,t2,aq];exact .inl ⟨aF,r2,bF,by rw[f2];exact cq,bQ,cK,cT,by rw[e3];rfl,Ex⟩
  |false=>
   have ah9:=of_decide_eq_false Mw;have d5:decide (0<=y.to)=true:=lV;have d4:decide (y.to<=y.fr)=false:=bK (by have:=ok.len (by omega);omega);cases CH:decide ((0:Int)<(i:Int))with
   |false=>
    cases ye:decide (y.fr<=g id)with
    |false=>simp only[SX,bF,bQ,cT,cL,PZ,t1,p1,dA,c0,c1,c2,Mw,XX,d4,d5,CH,d1,K8,d2,d3,R4,lg,ye,st,t2,aq];exact .inl ⟨aF,r2,bF,cq,bQ,cK,cT,by rw[e3];rfl,Ex⟩
    |true=>
     have hz:decide (0<g id)=false:=by cases h:decide (0<g id)with|false=>rfl|true=>rw[gg h]at ye;cases ye
     simp only[SX,bF,bQ,cT,cL,PZ,t1,p1,dA,c0,c1,c2,Mw,XX,d4,d5,CH,d1,K8,d2,d3,R4,lg,ye,hz,st,t2,aq];exact .inl ⟨aF,r2,bF,cq,bQ,cK,cT,by rw[e3];rfl,Ex⟩
   |true=>
    have hip:=jn CH;obtain⟨b',o',z,z1,z2,z3⟩:=hpr (i-1) (by omega);have WP:∀W' kk,j0 3 u (.int kk ((i:Int)-1)) W'=some (.pointer (some ⟨b',o',none⟩),W'):=λW' kk=>by rw[<-z2 W' kk];congr 2;omega
    have d6:decide (y.fr<=z.to)=false:=bK (by have:=ok.chain (i-1) z (by omega) z1;omega);cases ye:decide (y.fr<=g id)with
    |false=>simp only[SX,bF,bQ,cT,cL,PZ,t1,p1,dA,c0,c1,c2,Mw,XX,d4,d5,CH,sbi,WP,z3,d6,d1,K8,d2,d3,R4,lg,ye,st,t2,aq];exact .inl ⟨aF,r2,bF,cq,bQ,cK,cT,by rw[e3];rfl,Ex⟩
    |true=>
     have hz:decide (0<g id)=false:=by cases h:decide (0<g id)with|false=>rfl|true=>rw[gg h]at ye;cases ye
     simp only[SX,bF,bQ,cT,cL,PZ,t1,p1,dA,c0,c1,c2,Mw,XX,d4,d5,CH,sbi,WP,z3,d6,d1,K8,d2,d3,R4,lg,ye,hz,st,t2,aq];exact .inl ⟨aF,r2,bF,cq,bQ,cK,cT,by rw[e3];rfl,Ex⟩
 ·rintro R U ⟨r2,bF,cq,bQ,cK,cT,cL,hn,hk,g,hg,sA⟩;unfold dF;have t1:decide (((pG k l).length:Int)<((pG k l).length:Int))=false:=fF;simp only[SX,cT,cL,PZ,t1,aq];exact⟨by simp,aF,r2,bF,cq,bQ,cK,hn,hk,g,hg,sA.up (aS _)⟩
 ·rintro⟨q,R,U⟩ ⟨rfl,r2,bF,cq,bQ,cK,hn,hk,g,hg,sA⟩;exact hK R U g r2 bF cq bQ cK hn hk hg sA
end
def JU{k m:Nat}(hm:0<m)(c d:Bool)(W:AW):az Tryz.prog .rem 3 c d (.af (k:Int)) (.af (m:Int)) W=some (.af ((k % m:Nat):Int),W):=by rw[xQ (by omega),CB (by omega),Int.natCast_emod]
def Py{α:Type}(p:α->Bool){l:List α}{i:Nat}(hi:i<l.length):(l.take (i+1)).any p=((l.take i).any p||p l[i]):=by rw[qi,cx hi,qK,List.any_append,List.any_cons,List.any_nil,Bool.or_false]
section
variable {W V:AW} {v:ce} {sv ev cv:ae} {l:List cC} {m:List lJ}
def DP{ρ:Type}{K:LT->Option ρ}{Q:ρ->Prop}{R0:Nat->ae}{U:AW}{p2:ae}(hc:We U cv m)(hm:m.length<=200)(r2:R0 2=p2)(bF:R0 11=cv)(cq:R0 13=.bool false)(di:R0 14=.af 0)
 (hK:∀R,R 2=p2->R 11=cv->R 13=.bool (m.any λc=>decide (c.an<0))->Ok (K (.exit 0,R,U)) Q):Ok (ak (dP (eC bD) R0 U) K) Q:=by
 have K8:∀W',aD Tryz.prog .len #[33] 3 #[false] [cv] W'=some (.af (m.length:Int),W'):=λW'=>Row.len hc Ly W' 3 #[false]
 refine df m.length (by omega) (λi R U'=>U'=U/\R 2=p2/\R 11=cv/\R 13=.bool ((m.take i).any λc=>decide (c.an<0))/\R 14=.af (i:Int))
  (λr=>r.1=.exit 0/\r.2.2=U/\r.2.1 2=p2/\r.2.1 11=cv/\r.2.1 13=.bool (m.any λc=>decide (c.an<0))) ⟨rfl,r2,bF,cq,di⟩ ?_ ?_ ?_
 ·rintro i R U' hi ⟨hU,r2,bF,cq,di⟩;have hU:U=U':=hU.symm;subst hU;unfold eC;have t1:decide ((i:Int)<(m.length:Int))=true:=lV;have t2:=λW'=>eH W' i 1
  have e3:((i+1:Nat):Int)=(i:Int)+1:=by omega
  obtain⟨b,o,p1,-,p3⟩:=sk eX hc hi;have c25:=p3 25 _ rfl U (.refl _);have ha:=Py (λc:lJ=>decide (c.an<0)) hi;cases hb:(m.take i).any λc=>decide (c.an<0)with
  |true=>rw[hb]at cq ha;simp only[SX,bF,cq,di,K8,t1,t2,aq];exact .inl ⟨aF,aF,r2,bF,by rw[ha];rfl,by rw[e3];rfl⟩
  |false=>rw[hb]at cq ha;simp only[SX,bF,cq,di,K8,t1,p1,c25,t2,aq];exact .inl ⟨aF,aF,r2,bF,by rw[ha];rfl,by rw[e3];rfl⟩
 ·rintro R U' ⟨hU,r2,bF,cq,di⟩;have hU:U=U':=hU.symm;subst hU;unfold eC;have t1:decide ((m.length:Int)<(m.length:Int))=false:=fF;rw[dK]at cq;simp only[SX,bF,di,K8,t1,aq];exact⟨by simp,aF,aF,r2,bF,cq⟩
 ·rintro⟨q,R,U'⟩ ⟨rfl,hU,r2,bF,cq⟩;simp only at hU;subst hU;exact hK R r2 bF cq
def Dg{W:AW}(hG:GW W)(hs:eG W sv v.aB)(he:Rx W ev l)(la:∃a c,ev=.slice a l.length c/\l.length<=c/\c<eS/\(a=none\/∃b o,a=some ⟨b,o,none⟩)){n:Nat}(hn:n<=255):bD (.func (.func 4) #[] #[]) [tU v sv ev,.int .u8 (n:Int)] W=some (.bool true,W):=by
 refine cG rfl ?_ pO;unfold mq;obtain⟨V,bx,bk,nV,g0⟩:=yj v sv ev W;have cB:=fN g0;obtain⟨c,hf,hc⟩:=IZ (hs.mono bk) (he.mono bk);have sh:=Dx (hG.mono bk);cases c with
 |true=>simp only[SX,bx,cB,hf,sh,aq];exact⟨aF,bk⟩
 |false=>
 have hV:=hc rfl;have hK:Rs V v sv ev l:=⟨hV,la⟩;have c4:aY (.pointer (some ⟨W.next,4,none⟩)) V=some (ev,V):=jE g0 rfl;have RC:∀W',aD Tryz.prog .len #[25] 3 #[false] [ev] W'=some (.af (l.length:Int),W'):=λW'=>Row.len hV.QX DJ W' 3 #[false]
 by_cases qN:200<l.length
 ·have d1:decide ((200:Int)<(l.length:Int))=true:=lV;simp only[SX,bx,cB,hf,aU,c4,RC,d1,sh,aq];exact⟨aF,bk⟩
 have d1:decide ((200:Int)<(l.length:Int))=false:=fF;obtain⟨a,e,A1,q1⟩:=me (hG.mono bk) hV;by_cases he0:e=0;case neg=>have d:=bK he0;simp only[SX,bx,cB,hf,aU,c4,RC,d1,q1,d,sh,aq];exact⟨aF,bk⟩
 subst he0;have d:decide ((0:Int)=0)=true:=rfl;obtain⟨-,K5,hl,s,da⟩:=A1.QF;have OC:=ka K5;have hsm:=hV.small;have hI:=da.inv;have hLk:=da.Q4;rw[dK]at hLk;have ad1:∀W',az Tryz.prog .add 3 false true (.af (l.length:Int)) (.af 1) W'=some (.af ((l.length+1:Nat):Int),W'):=λW'=>by rw[dg (by omega) (by omega)];rfl
 have rm:=λW'=>JU (k:=n) (m:=l.length+1) (by omega) false false W'
 have cv5:=λW'=>TN (n:=(n:Int)) (by omega) (by omega) W'
 have hkl:n % (l.length+1)<=l.length:=by have:=Nat.mod_lt n (show 0<l.length+1 by omega);omega
 generalize hk:n % (l.length+1)=k at rm hkl;have a27:=R5 V;have lz:Le V (V.add (.cells (yN nT iK iK))):=(Le.refl _).add _;obtain⟨V0,hV0⟩:∃V0,V0=V.add (.cells (yN nT iK iK)):=⟨_,rfl⟩;rw[<-hV0]at a27 lz;have n0:V0.next=V.next+1:=by rw[hV0];rfl
 have gz:V0.get V.next=some (.cells (yN nT iK iK)):=by rw[hV0];exact AW.bf _ _
 obtain⟨a2,e2,q,V1,A2,q2,u,w,M,rfl,l1,x1,x2,x3,x4⟩:=I7 (hG.mono (bk.trans lz)) (hK.mono lz) (k:Int);obtain⟨rfl,rfl⟩:=A1.Qa A2;have hce:Kr 0 (k:Int) l.length=0:=by unfold Kr;rw[ax rfl,bX]
 rw[hce,Mf]at q2 x2;rw[hce,Rj]at x4;have gz1:=(l1.get V.next (by omega)).trans gz;have pt:=Rh (v:=v) (sv:=u) (ev:=w) gz1 (uC x1) (uC x4);obtain⟨V2,K1⟩:∃V2,V2=V1.put V.next (.cells (yN v u w)):=⟨_,rfl⟩;rw[<-K1]at pt;have g2:V2.get V.next=some (.cells (yN v u w)):=by rw[K1];exact AW.bH _ _ _
 have n1:=l1.next;have n2:V2.next=V1.next:=by rw[K1];rfl
 have l2:Le V V2:=by rw[K1];exact(lz.trans l1).put (aS _) _
 have o2:∀d,d≠V.next->V2.get d=V1.get d:=λd hd=>by rw[K1];exact AW.aE _ _ (bL hd)
 have hMl:M.length<1000:=by rw[<-fW (f:=pQ.sec),x2];exact hV.small
 have y1:EL V0.next V2 3 ud u M:=x1.dD (W':=V2) (by omega) λb hb _=>o2 b (by omega)
 have y4:EL V0.next V2 31 eA w (l.take k):=x4.dD (W':=V2) (by omega) λb hb _=>o2 b (by omega)
 have y3:∀x∈M,Hx V2 x:=λx hx=>⟨p9 (x3 x hx).1.1 ((x3 x hx).2 V.next (by omega)) (by omega) (λd _ hd=>o2 d hd),(x3 x hx).1.2⟩
 have YX:=Pp y1 hMl y3;rw[x2]at YX;have hC:K4 V2 v u w (l.take k):=⟨YX,hV.small,hV.rows,y4.row tx (mY tx)⟩;obtain⟨a3,e3,A3,q3⟩:=me (hG.mono (bk.trans l2)) hC;obtain⟨s',Z6⟩:=da.pre k hkl;have A3':rq v (l.take k) 0 0:=.ok K5 (by rw[dR];omega) (by
  have:=Z6.beg (aS k);rwa [show(l.take k).length=k by rw[dR];omega]);obtain⟨rfl,rfl⟩:=A3.Qa A3';obtain⟨a4,e4,cv,V3,A4,q4,l3,r4⟩:=Dk (hG.mono (bk.trans l2)) (hV.mono l2);obtain⟨rfl,rfl⟩:=A1.Qa A4;have oI:We V3 cv s.cl:=by
  rcases r4 with⟨h,-⟩|⟨-,s2,KQ,Fs⟩
  ·exact absurd rfl h
  ·rw[KQ.Qa da]at Fs;exact Fs
 have SE:=l2.trans l3;have cB2:=fN ((l2.get _ (by omega)).trans g0);have c42:aY (.pointer (some ⟨W.next,4,none⟩)) V=some (ev,V):=c4;simp only[SX,bx,cB,hf,aU,c4,RC,d1,q1,cv5,ad1,rm,a27];have ahG:∀W',az Tryz.prog .add 3 false true (.af (l.length:Int)) (.af 1) W'=some (.af ((l.length+1:Nat):Int),W'):=ad1;simp only[SX,q2,pt,fN g2,q3,cB2,q4];refine DP (p2:=dd W.next) oI hI.len rfl rfl rfl rfl ?_;intro R r2 bF cq;have a48:=adt V3;obtain⟨V4,hV4⟩:∃V4,V4=V3.add (.cells (B5 λ_=>0)):=⟨_,rfl⟩;rw[<-hV4]at a48;have l4:Le V3 V4:=by rw[hV4];exact(Le.refl _).add _
 have n4:V4.next=V3.next+1:=by rw[hV4];rfl
 have gA:V4.get V3.next=some (.cells (B5 λ_=>0)):=by rw[hV4];exact AW.bf _ _
 have n3:=l3.next;have Ip:=SE.trans l4;have ls:∀W',aD Tryz.prog .len #[22] 3 #[false] [sv] W'=some (.af (v.aB.length:Int),W'):=λW'=>Row.len hV.aB.1 Mu W' 3 #[false]
 have ads:∀W',az Tryz.prog .add 3 false false (.af v.sh) (.af (v.aB.length:Int)) W'=some (.af (v.sh+v.aB.length),W'):=λW'=>dg (by omega) (by omega)
 have MT:∀{U},Le V U->aY (dd W.next) U=some (.af v.sh,U)/\aY (.pointer (some ⟨W.next,3,none⟩)) U=some (sv,U)/\b9 5 (dd W.next) U=some (tU v sv ev,U):=λ{U} hu=>by have g:=(hu.get W.next (by omega)).trans g0;exact⟨jE g rfl,jE g rfl,fN g⟩
 simp only[SX,a48];refine df (v.sh+v.aB.length).toNat (by omega) (λi R U=>R 2=dd W.next/\R 11=cv/\R 13=.bool (s.cl.any λc=>decide (c.an<0))/\R 15=dd V3.next/\R 16=.af (i:Int)/\Le V3 U/\V3.next<U.next/\∃g,U.get V3.next=some (.cells (B5 g))/\ij (λq=>pG q l) (i:Int) 0 g)
  (λr=>r.1=.exit 2/\Le V3 r.2.2) ⟨r2,bF,cq,rfl,rfl,l4,by omega,_,gA,λid=>.inl rfl⟩ ?_ ?_ ?_
 ·rintro i R U hi ⟨r2,bF,cq,bQ,cK,hU,nU,g,hg,sA⟩;unfold fV;obtain⟨f0,f3,f5⟩:=MT (SE.trans hU);have t1:decide ((i:Int)<v.sh+(v.aB.length:Int))=true:=lV;have t2:=λW'=>eH W' i 1
  have e3:((i+1:Nat):Int)=(i:Int)+1:=by omega
  obtain⟨a5,e5,us,U1,A5,q5,l5,h5⟩:=DZ (hG.mono (bk.trans (SE.trans hU))) (hV.mono (SE.trans hU)) (i:Int);obtain⟨rfl,rfl⟩:=A1.Qa A5;have hhe:zr v 0 (i:Int)=0:=by unfold zr;rw[ax rfl,bX]
  rw[hhe]at q5 h5;rw[ax rfl]at h5;simp only[SX,r2,cK,aU,f0,f3,ls,ads,t1,f5,q5];have n5:=l5.next;refine ID (W:=W) (v:=v) (l:=l) (s:=s) (A:=V3.next) (k:=(i:Int)) (g0:=g) (u:=us) (cv:=cv) hLk rfl hI.len (by have:=Hg l (i:Int);omega) ((oI.mono hU).mono l5) (by omega) (h5.low (by omega)) ((l5.get _ nU).trans hg) sA r2 bF cq bQ cK rfl rfl ?_;intro R' U' g' s2 s11 s13 s15 s16 hn hk wB Su;simp only[SX,s16,t2,aq];refine .inl ⟨aF,s2,s11,s13,s15,by rw[e3];rfl,⟨by have:=hU.next;omega,λb hb=>(hk b (by omega)).trans ((l5.get b (by omega)).trans (hU.get b hb))⟩,by omega,g',wB,by rw[e3];exact Su⟩
 ·rintro R U ⟨r2,bF,cq,bQ,cK,hU,nU,g,hg,sA⟩;unfold fV;obtain⟨f0,f3,f5⟩:=MT (SE.trans hU);have t1:decide ((((v.sh+v.aB.length).toNat:Nat):Int)<v.sh+(v.aB.length:Int))=false:=fF;simp only[SX,r2,cK,aU,f0,f3,ls,ads,t1,aq];exact⟨by simp,aF,hU⟩
 ·rintro⟨q,R,U⟩ ⟨rfl,hU⟩;simp only at hU;have sh':=Dx (hG.mono (bk.trans (SE.trans hU)));simp only[SX,sh',aq];exact⟨aF,bk.trans (SE.trans hU)⟩
end
end Go.Proofs.YtekljimefjclgaaGreatDoor
namespace Go.Proofs.YtekljimefjclgaaGreatDoor
open Go Go.Eng Go.RowKit
def PB(l c:Nat):rJ (.slice none l c) (.slice none l c)=true:=by simp[rJ]
def H7{W:AW}{n:Nat}{t e:ah}{v:ae}(h:DR Tryz.prog W (n+1) t [v])(ht:Tryz.prog.underlying t=some (.slice e)):∃a l c,v=.slice a l c/\(a=none\/∃b,a=some ⟨b,0,none⟩):=by obtain⟨a,len,cap,e1,-,-,h3,-⟩:=h.Sw ht;injection e1 with e1;exact⟨a,len,cap,e1,h3⟩
def Z9{v:ae}(h:∃a l c,v=.slice a l c/\(a=none\/∃b,a=some ⟨b,0,none⟩)):rJ v v=true/\Eng.one v=true:=by
 obtain⟨a,l,c,rfl,rfl|⟨b,rfl⟩⟩:=h
 ·exact⟨PB _ _,rfl⟩
 ·exact⟨mT _ _ _ _,rfl⟩
def Ul{W:AW}{n:Nat}{c:List ae}(h:DR Tryz.prog W (n+3) 66 c):∃s:iT,∀pre post,NA W (pre++(c++post)) pre.length s:=by
 obtain⟨c1,c2,rfl,h1,h2⟩:=(h.struct Tryz.underlying66).cons;obtain⟨c3,c4,rfl,h3,h4⟩:=h2.cons;obtain⟨c5,c6,rfl,h5,h6⟩:=h4.cons;obtain rfl:=h6.nil;obtain⟨s,rfl,_⟩:=h1.str Tryz.underlying9;obtain⟨rv,zs,rfl,hz,_⟩:=h3.ints Tryz.underlying64 Tryz.underlying3 (by kernel_rfl);obtain⟨q,rfl⟩:=h5.int Tryz.underlying3;refine⟨⟨s.data.toList,zs,q⟩,λpre post=>⟨?_,?_,rv,?_,hz,Z9 (H7 h3 Tryz.underlying64)⟩⟩
 ·rw[ir (by omega),E9];simp
 ·rw[ir (by omega),w5];rfl
 ·rw[ir (by omega),w5];rfl
def Vs{W:AW}{n:Nat}{c:List ae}(h:DR Tryz.prog W (n+5) 24 c):∃(v:ce) (sv:ae),c=[.af v.sh,.af v.CL,.af v.CQ,sv]/\eG W sv v.aB:=by obtain⟨c1,c2,rfl,h1,h2⟩:=(h.struct Tryz.underlying24).cons;obtain⟨c3,c4,rfl,h3,h4⟩:=h2.cons;obtain⟨c5,c6,rfl,h5,h6⟩:=h4.cons;obtain⟨c7,c8,rfl,h7,h8⟩:=h6.cons;obtain rfl:=h8.nil;obtain⟨a,rfl⟩:=h1.int Tryz.underlying3;obtain⟨b,rfl⟩:=h3.int Tryz.underlying2;obtain⟨d,rfl⟩:=h5.int Tryz.underlying2;obtain⟨sv,l,rfl,r1,a',c',r2,r3,r4,r5⟩:=h7.row Tryz.underlying22 (at_:=NA W) (λc _ hc=>Ul hc);exact⟨⟨a,b,d,l⟩,sv,rfl,r1,a',c',r2,.inl ⟨r3,r4⟩,r5⟩
def QW{W:AW}{n:Nat}{c:List ae}(h:DR Tryz.prog W (n+2) 39 c):∃a b d e:Int,c=[.int .u32 a,.int .u32 b,.int .u64 d,.int .u64 e]:=by obtain⟨c1,c2,rfl,h1,h2⟩:=(h.struct Tryz.underlying39).cons;obtain⟨c3,c4,rfl,h3,h4⟩:=h2.cons;obtain⟨c5,c6,rfl,h5,h6⟩:=h4.cons;obtain⟨c7,c8,rfl,h7,h8⟩:=h6.cons;obtain rfl:=h8.nil;obtain⟨a,rfl⟩:=h1.int Tryz.underlying36;obtain⟨b,rfl⟩:=h3.int Tryz.underlying36;obtain⟨d,rfl⟩:=h5.int Tryz.underlying37;obtain⟨e,rfl⟩:=h7.int Tryz.underlying37;exact⟨a,b,d,e,rfl⟩
def UI{W:AW}{n:Nat}{t:ah}{cs:List ae}(h:DR Tryz.prog W (n+1) t cs)(ht:Tryz.prog.underlying t=some (.int .i64)):∃m,cs=[.af m]/\m<9223372036854775808:=by unfold DR at h;rw[ht]at h;obtain⟨m,h1,-,h3⟩:=h;have:IntKind.i64.max=9223372036854775807:=rfl;exact⟨m,h1,by omega⟩
def ZR{W:AW}{n:Nat}{c:List ae}(h:DR Tryz.prog W (n+3) 41 c):∃o:t8,c=(KH o).cells.toList/\o.nw<9223372036854775808:=by obtain⟨c1,r1,rfl,h1,h⟩:=(h.struct Tryz.underlying41).cons;obtain⟨c2,r2,rfl,h2,h⟩:=h.cons;obtain⟨c3,r3,rfl,h3,h⟩:=h.cons;obtain⟨c4,r4,rfl,h4,h⟩:=h.cons;obtain⟨c5,r5,rfl,h5,h⟩:=h.cons;obtain⟨c6,r6,rfl,h6,h⟩:=h.cons;obtain⟨c7,r7,rfl,h7,h⟩:=h.cons;obtain⟨c8,r8,rfl,h8,h⟩:=h.cons;obtain⟨c9,r9,rfl,h9,h⟩:=h.cons;obtain rfl:=h.nil;obtain⟨x1,rfl⟩:=h1.int Tryz.underlying3;obtain⟨x2,rfl⟩:=h2.int Tryz.underlying36;obtain⟨x3,rfl⟩:=h3.int Tryz.underlying2;obtain⟨x4,rfl⟩:=h4.int Tryz.underlying3;obtain⟨x5,rfl⟩:=h5.int Tryz.underlying3;obtain⟨x6,rfl⟩:=h6.int Tryz.underlying3;obtain⟨x7,rfl⟩:=h7.int Tryz.underlying36;obtain⟨a,b,d,e,rfl⟩:=QW h8;obtain⟨x9,rfl,hb9⟩:=UI h9 Tryz.underlying2;exact⟨⟨x1,x2,x3,x4,x5,x6,x7,a,b,d,e,x9⟩,rfl,hb9⟩
def Zk{W:AW}{n:Nat}{c:List ae}(h:DR Tryz.prog W (n+3) 43 c):∃o:FV,c=(OF o).cells.toList:=by obtain⟨c1,r1,rfl,h1,h⟩:=(h.struct Tryz.underlying43).cons;obtain⟨c2,r2,rfl,h2,h⟩:=h.cons;obtain⟨c3,r3,rfl,h3,h⟩:=h.cons;obtain⟨c4,r4,rfl,h4,h⟩:=h.cons;obtain⟨c5,r5,rfl,h5,h⟩:=h.cons;obtain⟨c6,r6,rfl,h6,h⟩:=h.cons;obtain rfl:=h.nil;obtain⟨x1,rfl⟩:=h1.int Tryz.underlying30;obtain⟨x2,rfl⟩:=h2.int Tryz.underlying3;obtain⟨x3,rfl⟩:=h3.int Tryz.underlying3;obtain⟨x4,rfl⟩:=h4.int Tryz.underlying2;obtain⟨a,b,d,e,rfl⟩:=QW h5;obtain⟨x6,rfl⟩:=h6.int Tryz.underlying3;exact⟨⟨x1,x2,x3,x4,a,b,d,e,x6⟩,rfl⟩
def Wy{W:AW}{n:Nat}{c:List ae}(h:DR Tryz.prog W (n+2) 60 c):∃e:Jn,c=PO e:=by obtain⟨c1,r1,rfl,h1,h⟩:=(h.struct Tryz.underlying60).cons;obtain⟨c2,r2,rfl,h2,h⟩:=h.cons;obtain⟨c3,r3,rfl,h3,h⟩:=h.cons;obtain⟨c4,r4,rfl,h4,h⟩:=h.cons;obtain⟨c5,r5,rfl,h5,h⟩:=h.cons;obtain rfl:=h.nil;obtain⟨x1,rfl⟩:=h1.int Tryz.underlying36;obtain⟨x2,rfl⟩:=h2.int Tryz.underlying37;obtain⟨x3,rfl⟩:=h3.int Tryz.underlying37;obtain⟨x4,rfl⟩:=h4.int Tryz.underlying3;obtain⟨x5,rfl⟩:=h5.int Tryz.underlying2;exact⟨⟨x1,x2,x3,x4,x5⟩,rfl⟩
def X8{W:AW}{n:Nat}{c:List ae}(h:DR Tryz.prog W (n+4) 98 c):∃e:cC,c=eA e:=by obtain⟨c1,r1,rfl,h1,h⟩:=(h.struct Tryz.underlying98).cons;obtain⟨c2,r2,rfl,h2,h⟩:=h.cons;obtain⟨c3,r3,rfl,h3,h⟩:=h.cons;obtain⟨c4,r4,rfl,h4,h⟩:=h.cons;obtain⟨c5,r5,rfl,h5,h⟩:=h.cons;obtain⟨c6,r6,rfl,h6,h⟩:=h.cons;obtain⟨c7,r7,rfl,h7,h⟩:=h.cons;obtain⟨c8,r8,rfl,h8,h⟩:=h.cons;obtain rfl:=h.nil;obtain⟨x1,rfl⟩:=h1.int Tryz.underlying3;obtain⟨x2,rfl⟩:=h2.int Tryz.underlying3;obtain⟨x3,rfl⟩:=h3.int Tryz.underlying3;obtain⟨x4,rfl⟩:=h4.int Tryz.underlying3;obtain⟨x5,rfl⟩:=h5.int Tryz.underlying3;obtain⟨o,rfl,-⟩:=ZR h6;obtain⟨r,rfl⟩:=Zk h7;obtain⟨g,rfl⟩:=Wy (n:=n+1) h8;exact⟨⟨x1,x2,x3,x4,x5,o,r,g⟩,rfl⟩
section
variable {H:Type} {enc:ah×ae->H} {w:ap} {σ:cm} {W:AW} {v0:ae} {d:DataW H} {p:List MemPlace} {r:Reach} {b0:Nat}
def Uc{t:ah}{fs:Array Field}(ht:Tryz.prog.underlying t=some (.struct fs))(hv:Value.okWide Tryz.prog w r b0 t v0):∃cs,v0=.agg cs:=by unfold Value.okWide at hv;rw[ht]at hv;obtain⟨cs,h,_⟩:=hv;exact⟨cs,h⟩
def Yy:Og Tryz.prog 7 27=true:=by kernel_rfl
end
def Wr{w:ap}(hl:rl iO w.heap):je (σG iO) (WG iO 1) w:=⟨RZ rfl hl,QB,0,_,rfl⟩
def acB:GW (WG iO 1):=OP rfl (λx hx=>by
 have h2:x=(0,mZ):=by simpa[iO]using hx
 rw[h2];rfl)
def abo{W:AW}(h:Le (WG iO 1) W):GW W:=acB.mono h
def aba:Kids Tryz.prog (· <Tryz.prog.types.size):=kids_rows (by kernel_rfl) (by kernel_rfl)
def Yv:∀t e,t<Tryz.prog.types.size->Tryz.prog.underlying t=some (.slice e)->0<Tryz.prog.cellsOf e:=slices_full_of Tryz.prog (by kernel_rfl)
def FJ(gJ:bB Tryz.prog aj.ng bD){w:ap}{σ:cm}{W:AW}(ho:je σ W w)(hs:Sub (σG iO) σ){i:Nat}{args cw:List ae}(hr:LR σ args cw)(h:bD (.func (.func i) #[] #[]) args W=some (.bool true,W)):
 Calls Tryz.prog i cw.toArray w λe w'=>e=.returned (.bool true)/\cW w w':=by
 have hG:qM σ [0]:=λg hg=>by obtain⟨e,he⟩:=(MK (gs:=iO) (ng:=[0]) rfl) g hg;exact⟨e,hs _ _ he⟩
 exact MM gJ ho.rel hG ho.ro hr rfl h
end Go.Proofs.YtekljimefjclgaaGreatDoor
namespace Go.Proofs.YtekljimefjclgaaGreatDoor
open Go Go.Eng Go.RowKit Go.WideShapes
abbrev XQ(ev:ae)(l:List cC):Prop:=∃a c,ev=.slice a l.length c/\l.length<=c/\c<eS/\(a=none\/∃b o,a=some ⟨b,o,none⟩)
def PV{W:AW}{n:Nat}{c:List ae}(h:DR Tryz.prog W (n+6) 27 c):∃(v:ce) (sv ev:ae) (l:List cC),c=[.af v.sh,.af v.CL,.af v.CQ,sv,ev]/\eG W sv v.aB/\Rx W ev l/\XQ ev l:=by
 obtain⟨c1,c2,rfl,h1,h2⟩:=(h.struct Tryz.underlying27).cons;obtain⟨c3,c4,rfl,h3,h4⟩:=h2.cons;obtain rfl:=h4.nil;obtain⟨v,sv,rfl,hs⟩:=Vs h1;have ha:=λ{ev:ae} (e:c3=[ev])=>H7 (n:=n+4) (by rw[<-e];exact h3) Tryz.underlying25
 obtain⟨ev,l,rfl,hr,a',c',e1,e2,e3,-⟩:=h3.row Tryz.underlying25 (at_:=iD 31 eA) (λc _ hc=>by obtain⟨e,rfl⟩:=X8 hc;exact⟨e,λpre post=>mY tx e pre post⟩);obtain⟨a,n1,c1,e4,e5⟩:=ha rfl;subst e1;injection e4 with e6 e7 e8;subst e6;exact⟨v,sv,_,l,rfl,hs,hr,_,c',rfl,e2,e3,e5.imp id λ⟨b,hb⟩=>⟨b,0,hb⟩⟩
section
variable {H:Type} {enc:ah×ae->H} {w:ap} {σ:cm} {W:AW} {v0:ae} {d:DataW H} {p:List MemPlace} {r:Reach} {b0:Nat}
def MW(ho:je σ W w)(hv:Value.okWide Tryz.prog w r b0 27 v0)(h:DataW.Trod enc Tryz.prog w 0 (λ_=>true) true 27 v0 d p):
 ∃(σ2:cm) (W2:AW) (v:ce) (sv ev:ae) (l:List cC),je σ2 W2 w/\Sub σ σ2/\Le W W2/\VR σ2 (tU v sv ev) v0/\eG W2 sv v.aB/\Rx W2 ev l/\XQ ev l:=by
 obtain⟨cs,rfl⟩:=Uc Tryz.underlying27 hv;obtain⟨m,hm⟩:=h;obtain⟨σ2,W2,zS,o2,s2,l2,r2,a2⟩:=FQ Yy hm σ W ho;obtain⟨v,sv,ev,l,rfl,hs,hr⟩:=PV a2;exact⟨σ2,W2,v,sv,ev,l,o2,s2,l2,.F2 (a:=#[.af v.sh,.af v.CL,.af v.CQ,sv,ev]) r2,hs,hr⟩
def Xo{t:ah}(ht:Tryz.prog.underlying t=some (.int .u8))(h:Value.okWide Tryz.prog w r b0 t v0):∃n:Nat,v0=.int .u8 (n:Int)/\n<=255:=by obtain⟨n,rfl⟩:=okWide_int ht h;simp only[Value.okWide,ht,Cell.okWide,Cell.ok]at h;have h2:=h.2;have e1:IntKind.u8.max=255:=rfl;have e2:IntKind.u8.min=0:=rfl;unfold IntKind.has at h2;exact⟨n.toNat,by rw[xl (by omega)],by omega⟩
end
end Go.Proofs.YtekljimefjclgaaGreatDoor
