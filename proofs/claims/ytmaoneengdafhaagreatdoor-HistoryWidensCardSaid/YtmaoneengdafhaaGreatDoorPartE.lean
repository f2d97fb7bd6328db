/- A part: contracts and laws. -/
import Derived.Test.YtmaoneengdafhaaGreatDoorPartD
set_option linter.unusedVariables false
set_option linter.unusedSimpArgs false
set_option linter.unusedSectionVars false
set_option linter.defProp false
noncomputable section
open Go renaming MemPlace->cx,TypeId->ae,Value->ad,World->am,undef->ak
set_option maxRecDepth 100000
namespace Go.Proofs.YtmaoneengdafhaaGreatDoor
open Go Go.Eng
def iJ(l:List gn)(y:Int):gn:=l.getD (y-1).toNat ho0
def yh(l:List gn)(os:List Int)(i:Nat):Int:=if os.getD i 0<1\/(l.length:Int)<os.getD i 0 then 4 else if os.getD i 0∈os.take i then 8 else 0
def Pk2(l:List gn)(os:List Int):Prop:=∃j,j<l.length/\0<=(l.getD j ho0).to/\¬((j:Int)+1)∈os
def Sn(l:List gn)(os:List Int)(i:Nat):Prop:=∃k,i<k/\k<os.length/\KG (iJ l (os.getD k 0)) (iJ l (os.getD i 0))=true
inductive NO (l:List gn) (os:List Int):Int->Int->Prop
 |one {i:Nat} (hi:i<os.length) (h1:∀j,j<i->yh l os j=0) (h2:yh l os i≠0):NO l os i (yh l os i)
 |two (h1:∀j,j<os.length->yh l os j=0) (h2:Pk2 l os):NO l os os.length 10
 |three {i:Nat} (h1:∀j,j<os.length->yh l os j=0) (h2:¬Pk2 l os) (hi:i<os.length) (h3:∀j,j<i->¬Sn l os j) (h4:Sn l os i):NO l os i 9
 |pn (h1:∀j,j<os.length->yh l os j=0) (h2:¬Pk2 l os) (h3:∀j,j<os.length->¬Sn l os j):NO l os 0 0
def Ec{p:Nat->Prop}{i j:Nat}(h1:∀k,k<i->¬p k)(h2:p i)(h3:∀k,k<j->¬p k)(h4:p j):i=j:=by
 rcases Nat.lt_trichotomy i j with h|h|h
 ·exact absurd h2 (h3 i h)
 ·exact h
 ·exact absurd h4 (h1 j h)
def NO.Fh{l:List gn}{os:List Int}{a e a' e':Int}(h:NO l os a e)(h':NO l os a' e'):a=a'/\e=e':=by
 cases h with
 |one hi h1 h2=>
  cases h' with
  |one pb Ch FB=>have:=Ec (p:=λi=>yh l os i≠0) (λk hk hn=>hn (h1 k hk)) h2 (λk hk hn=>hn (Ch k hk)) FB;subst this;exact⟨rfl,rfl⟩
  |two k1 _=>exact absurd (k1 _ hi) h2
  |three k1 _ _ _ _=>exact absurd (k1 _ hi) h2
  |pn k1 _ _=>exact absurd (k1 _ hi) h2
 |two h1 h2=>
  cases h' with
  |one pb Ch FB=>exact absurd (h1 _ pb) FB
  |two _ _=>exact⟨rfl,rfl⟩
  |three _ k2 _ _ _=>exact absurd h2 k2
  |pn _ k2 _=>exact absurd h2 k2
 |three h1 h2 hi h3 h4=>
  cases h' with
  |one pb Ch FB=>exact absurd (h1 _ pb) FB
  |two _ k2=>exact absurd k2 h2
  |three _ _ pb h3' h4'=>have:=Ec (p:=Sn l os) h3 h4 h3' h4';subst this;exact⟨rfl,rfl⟩
  |pn _ _ k3=>exact absurd h4 (k3 _ hi)
 |pn h1 h2 h3=>
  cases h' with
  |one pb Ch FB=>exact absurd (h1 _ pb) FB
  |two _ k2=>exact absurd k2 h2
  |three _ _ pb _ h4'=>exact absurd h4' (h3 _ pb)
  |pn _ _ _=>exact⟨rfl,rfl⟩
def NO.zero{l:List gn}{os:List Int}{a:Int}(h:NO l os a 0):a=0/\(∀j,j<os.length->yh l os j=0)/\¬Pk2 l os/\(∀j,j<os.length->¬Sn l os j):=by
 generalize he:(0:Int)=e at h;cases h with
 |one hi h1 h2=>exact absurd he.symm h2
 |two h1 h2=>exact absurd he (by decide)
 |three h1 h2 hi h3 h4=>exact absurd he (by decide)
 |pn h1 h2 h3=>exact⟨rfl,h1,h2,h3⟩
def NG{l:List gn}{os:List Int}{i:Nat}(h:yh l os i=0):1<=os.getD i 0/\os.getD i 0<=l.length/\(os.getD i 0-1).toNat<l.length:=by
 unfold yh at h;split at h
 ·omega
 ·omega
noncomputable def A9(v:fc)(l:List gn)(os:List Int):Nat->cK
 |0=>Dw v
 |k+1=>(Cg (A9 v l os k) (iJ l (os.getD k 0)).op).1
def vQ(v:fc)(l:List gn)(os:List Int)(k:Nat):Prop:=0<=(iJ l (os.getD k 0)).to/\(Cg (A9 v l os k) (iJ l (os.getD k 0)).op).2.1≠(iJ l (os.getD k 0)).rp
inductive BM (v:fc) (l:List fF) (os:List Int):cK->Int->Int->Prop
 |Da {a e:Int} (h:HV (fp v).2 l a e) (he:e≠0):BM v l os CJ 0 e
 |H0 {s:TL} (h:HV (fp v).2 l 0 0) (hs:qH l l.length s) (hl:400<os.length):BM v l os CJ 0 3
 |pick {s:TL} {a e:Int} (h:HV (fp v).2 l 0 0) (hs:qH l l.length s) (hl:os.length<=400) (hp:NO s.ops os a e) (he:e≠0):BM v l os CJ a e
 |I3 {s:TL} {k:Nat} (h:HV (fp v).2 l 0 0) (hs:qH l l.length s) (hl:os.length<=400) (hp:NO s.ops os 0 0) (hk:k<os.length) (h1:∀j,j<k->¬vQ v s.ops os j) (h2:vQ v s.ops os k):BM v l os CJ k 6
 |pn {s:TL} (h:HV (fp v).2 l 0 0) (hs:qH l l.length s) (hl:os.length<=400) (hp:NO s.ops os 0 0) (h1:∀j,j<os.length->¬vQ v s.ops os j):BM v l os (A9 v s.ops os os.length) 0 0
def BM.Fh{v:fc}{l:List fF}{os:List Int}{x y:cK}{a e a' e':Int}(h:BM v l os x a e)(h':BM v l os y a' e'):x=y/\a=a'/\e=e':=by
 have key:∀{a e:Int},HV (fp v).2 l 0 0->HV (fp v).2 l a e->e≠0->False:=λh1 h2 h3=>h3 (h1.Fh h2).2.symm
 cases h with
 |Da h he=>
  cases h' with
  |Da h' Sx=>exact⟨rfl,rfl,(h.Fh h').2⟩
  |H0 h' _ _=>exact(key h' h he).elim
  |pick h' _ _ _ _=>exact(key h' h he).elim
  |I3 h' _ _ _ _ _ _=>exact(key h' h he).elim
  |pn h' _ _ _ _=>exact(key h' h he).elim
 |H0 h hs hl=>
  cases h' with
  |Da h' Sx=>exact(key h h' Sx).elim
  |H0 _ _ _=>exact⟨rfl,rfl,rfl⟩
  |pick _ _ B6 _ _=>omega
  |I3 _ _ B6 _ _ _ _=>omega
  |pn _ _ B6 _ _=>omega
 |pick h hs hl hp he=>
  cases h' with
  |Da h' Sx=>exact(key h h' Sx).elim
  |H0 _ _ B6=>omega
  |pick _ EP _ F3 _=>rw[hs.Fh EP]at F3;exact⟨rfl,hp.Fh F3⟩
  |I3 _ EP _ F3 _ _ _=>rw[hs.Fh EP]at F3;exact absurd (hp.Fh F3).2 he
  |pn _ EP _ F3 _=>rw[hs.Fh EP]at F3;exact absurd (hp.Fh F3).2 he
 |I3 h hs hl hp hk h1 h2=>
  cases h' with
  |Da h' Sx=>exact(key h h' Sx).elim
  |H0 _ _ B6=>omega
  |pick _ EP _ F3 Sx=>rw[hs.Fh EP]at F3;exact absurd (F3.Fh hp).2 Sx
  |I3 _ EP _ _ AO Ch FB=>rw[hs.Fh EP]at Ch FB;have:=Ec h1 h2 Ch FB;subst this;exact⟨rfl,rfl,rfl⟩
  |pn _ EP _ _ Ch=>rw[hs.Fh EP]at Ch;exact absurd h2 (Ch _ hk)
 |pn h hs hl hp h1=>
  cases h' with
  |Da h' Sx=>exact(key h h' Sx).elim
  |H0 _ _ B6=>omega
  |pick _ EP _ F3 Sx=>rw[hs.Fh EP]at F3;exact absurd (F3.Fh hp).2 Sx
  |I3 _ EP _ _ AO Ch FB=>rw[hs.Fh EP]at FB;exact absurd FB (h1 _ AO)
  |pn _ EP _ _ _=>rw[hs.Fh EP];exact⟨rfl,rfl,rfl⟩
def yC{os:List Int}{i:Nat}(hi:i<os.length):os.getD i 0=os[i]:=by simp[List.getD,hi]
section
variable {W:AW} {lv ov:ad} {l:List gn} {os:List Int}
def Mc.ln(h:Mc W lv l)(U:AW):aR Tryz.prog .len #[78] 3 #[false] [lv] U=some (.af (l.length:Int),U):=Row.len h Hi U 3 #[false]
def gg.ln(h:gg W ov os)(U:AW):aR Tryz.prog .len #[28] 3 #[false] [ov] U=some (.af (os.length:Int),U):=Row.len h OX U 3 #[false]
def gg.gd(h:gg W ov os){i:Nat}(hi:i<os.length):∃p,(∀W' k,nR 1 ov (.int k (i:Int)) W'=some (p,W'))/\bG p W=some (.af (os.getD i 0),W):=by obtain⟨p,h1,h2⟩:=gg.get h hi;exact⟨p,h1,by rw[yC hi];exact h2 W (.refl _)⟩
def Mc.at(h:Mc W lv l){y:Int}(h1:1<=y)(h2:y<=l.length):∃b o,(∀W',nR 25 lv (.af (y-1)) W'=some (.pointer (some ⟨b,o,none⟩),W'))/\b<W.next/\∀W',W'.get b=W.get b->fd 25 (.pointer (some ⟨b,o,none⟩)) W'=some (Eg (iJ l y),W'):=by
 have hi:(y-1).toNat<l.length:=by omega
 obtain⟨b,o,k1,k2,k3⟩:=Mc.get h hi;refine⟨b,o,λW'=>?_,k2,λW' hW=>?_⟩
 ·have:=k1 W' .i64;rwa [show(((y-1).toNat:Nat):Int)=y-1 by omega]at this
 ·have:=(k3 W' hW).1;have e:iJ l y=l[(y-1).toNat]:=by unfold iJ;rw[lh,bS hi];rfl
  rw[e];exact this
end
end Go.Proofs.YtmaoneengdafhaaGreatDoor
namespace Go.Proofs.YtmaoneengdafhaaGreatDoor
open Go Go.Eng
def Ej(o:gn)(W:AW):gv 25 (.pointer (some ⟨W.next,0,none⟩)) (Eg o) (W.add (.cells (iz ho0)))=some (ak,W.add (.cells (iz o))):=by rw[anN (AW.aH _ _),iy]
def YJ(tp:Option Addr)(i:Fn)(a b:Array ad)(W:AW):∃W1,bf (.func (.func 52) #[] #[]) [.pointer tp,.func i a b] W=some (.func (.func 92) #[] #[.pointer (some ⟨W.next,0,none⟩),.pointer (some ⟨W.next+1,0,none⟩)],W1)/\Le W W1/\W1.next=W.next+2/\
 W1.get W.next=some (.cells [.pointer tp])/\W1.get (W.next+1)=some (.cells [.func i a b]):=by
 refine⟨(W.add (.cells [.pointer tp])).add (.cells [.func i a b]),?_,((Le.refl _).add _).add _,by rw[AW.ar,AW.ar],by rw[AW.aD _ _ (by rw[AW.ar];omega),AW.aH],AW.aH _ _⟩;have:iF bf (.pointer tp) (.func i a b) W=some (.func (.func 92) #[] #[.pointer (some ⟨W.next,0,none⟩),.pointer (some ⟨W.next+1,0,none⟩)],(W.add (.cells [.pointer tp])).add (.cells [.func i a b])):=by unfold iF;simp only[SX,uP,AW.ar]
 rw[qr this,pC rfl]
def YS{b1 b2 tb:Nat}{WI f ov:ad}{ops:List gn}{W0 W:AW}(hr:Mc W0 ov ops)(hl:ops.length<=1000)(P:gn->Bool)(h1:bG (.pointer (some ⟨b1,0,none⟩)) W=some (.pointer (some ⟨tb,0,none⟩),W))(h5:bG (.pointer (some ⟨tb,5,none⟩)) W=some (ov,W))
 (I:List gn->AW->Prop)(Q:AW->Prop)(hI:I [] W)(hS:∀pre W',I pre W'->Le W0 W'/\bG (.pointer (some ⟨b2,0,none⟩)) W'=some (WI,W'))(hA:∀pre W' cs,I pre W'->I pre (W'.add (.cells cs)))
 (Da:∀pre o W',I pre W'->bf WI [Eg o] W'=some (.bool (P o),W'))(skip:∀pre o W',pre++[o]<+:ops->I pre W'->P o=false->I (pre++[o]) W')
 (step:∀pre o W',pre++[o]<+:ops->I pre W'->P o=true->∃b W2,bf f [Eg o] W'=some (.bool b,W2)/\(b=true->I (pre++[o]) W2)/\(b=false->Q W2)):
 ∃W2,bf (.func (.func 92) #[] #[.pointer (some ⟨b1,0,none⟩),.pointer (some ⟨b2,0,none⟩)]) [f] W=some (.tuple #[],W2)/\(I ops W2\/Q W2):=by
 have sX:Ok (fW bf f (.pointer (some ⟨b1,0,none⟩)) (.pointer (some ⟨b2,0,none⟩)) W) λr=>r.1=.tuple #[]/\(I ops r.2\/Q r.2):=by
  unfold fW;have l0:=(hS _ _ hI).1;simp only[SX,h1,aJ,aN,h5,(hr.mono l0).len Hi];refine bz ops.length (by omega) (λk R V=>R 0=f/\R 2=.pointer (some ⟨b2,0,none⟩)/\R 9=ov/\R 10=.af (ops.length:Int)/\R 11=.af (k:Int)/\I (ops.take k) V)
   (λr=>(r.1=.exit 0/\I ops r.2.2)\/(r.1=.ret/\Q r.2.2)) ⟨rfl,rfl,rfl,rfl,rfl,hI⟩ ?_ ?_ ?_
  ·rintro k R V hk ⟨r0,r2,r9,sr,qR,hi⟩;unfold fh;have t1:((k:Int)<(ops.length:Int)):=by omega
   have t2:=λW'=>bJ W' k 1
   have e3:((k+1:Nat):Int)=(k:Int)+1:=by omega
   obtain⟨b,o,i1,i2,i3⟩:=Mc.get (hr.mono (hS _ _ hi).1) hk;obtain⟨f0,-⟩:=i3 V rfl;have lI:ops.take k++[ops[k]]<+:ops:=by rw[<-lW hk];exact List.take_prefix _ _
   have YN:ops.take (k+1)=ops.take k++[ops[k]]:=lW hk;rw[YN];generalize ops[k]=x at f0 lI;have ZP:=hA _ _ (iz x) hi;have g2:fd 25 (.pointer (some ⟨V.next,0,none⟩)) (V.add (.cells (iz x)))=some (Eg x,V.add (.cells (iz x))):=Pa (AW.aH _ _);have k2:=(hS _ _ ZP).2;have hp:=Da _ x _ ZP;cases hP:P x with
   |false=>rw[hP]at hp;simp only[SX,r0,r2,r9,sr,qR,t1,i1,f0,LC,Ej,k2,g2,hp,t2,ai];exact .inl ⟨ao,r0,r2,r9,sr,by rw[e3];rfl,skip _ _ _ lI ZP hP⟩
   |true=>
    rw[hP]at hp;obtain⟨c,W2,s1,s2,s3⟩:=step _ x _ lI ZP hP;cases c with
    |true=>simp only[SX,r0,r2,r9,sr,qR,t1,i1,f0,LC,Ej,k2,g2,hp,s1,t2,ai];exact .inl ⟨ao,r0,r2,r9,sr,by rw[e3];rfl,s2 rfl⟩
    |false=>simp only[SX,r0,r2,r9,sr,qR,t1,i1,f0,LC,Ej,k2,g2,hp,s1,ai];exact .inr ⟨by simp,.inr ⟨ao,s3 rfl⟩⟩
  ·rintro R V ⟨r0,r2,r9,sr,qR,hi⟩;unfold fh;have t1:¬((ops.length:Int)<(ops.length:Int)):=by omega
   rw[cY]at hi;simp only[SX,sr,qR,t1,ai];exact⟨by simp,.inl ⟨ao,hi⟩⟩
  ·rintro⟨x,R,V⟩ hq;rcases hq with⟨rfl,hi⟩|⟨rfl,hq⟩
   ·simp only[SX,ai];exact⟨ao,.inl hi⟩
   ·simp only[SX,ai];exact⟨ao,.inr hq⟩
 obtain⟨⟨r,W'⟩,h1,h2,h3⟩:=sX;simp only at h2 h3;subst h2;exact⟨W',by rw[pm h1,pC rfl],h3⟩
def NJ{b1 b2 tb nt:Nat}{WI ov:ad}{ops:List gn}{W0 W:AW}{R:Nat->ad}{ps:Array Tmp}{ac bd:Code}(hr:Mc W0 ov ops)(hl:ops.length<=1000)(P:gn->Bool)(hp:ps.size=1)
 (h1:bG (.pointer (some ⟨b1,0,none⟩)) (W.add (.loop .ready none R nt ps ac bd))=some (.pointer (some ⟨tb,0,none⟩),W.add (.loop .ready none R nt ps ac bd)))(h5:bG (.pointer (some ⟨tb,5,none⟩)) (W.add (.loop .ready none R nt ps ac bd))=some (ov,W.add (.loop .ready none R nt ps ac bd)))
 (J:List gn->AW->Prop)(Q:X->AW->Prop)(h0:J [] (W.add (.loop .ready none R nt ps ac bd)))
 (hS:∀pre W',J pre W'->Le W0 W'/\bG (.pointer (some ⟨b2,0,none⟩)) W'=some (WI,W'))(hA:∀pre W' cs,J pre W'->W.next<W'.next->J pre (W'.add (.cells cs)))(hP:∀pre W' o,J pre W'->J pre (W'.put W.next o))(hQ:∀x W' o,Q x W'->Q x (W'.put W.next o))
 (Da:∀pre o W',J pre W'->bf WI [Eg o] W'=some (.bool (P o),W'))(skip:∀pre o W',pre++[o]<+:ops->J pre W'->P o=false->J (pre++[o]) W')
 (d:Nat)(has:∀o W' R',R'=kD ps.toList [Eg o] R->eH Tryz.prog bf false nt ac LT R' W' ke=some (.normal,fM R' (some d) (.pointer (some ⟨W'.next,0,none⟩)),W'.add (.cells (iz o))))
 (step:∀pre o W' b R',R'=fM (kD ps.toList [Eg o] R) (some d) (.pointer (some ⟨b,0,none⟩))->pre++[o]<+:ops->P o=true->J pre W'->W.next<W'.next->W'.get b=some (.cells (iz o))->W.next<b->b<W'.next->
   Ok (eH Tryz.prog bf false nt bd LT R' W' ke) λq=>W'.next<=q.2.2.next/\q.2.2.get W.next=W'.get W.next/\((q.1=.normal/\J (pre++[o]) q.2.2)\/(q.1≠ .normal/\Q q.1 q.2.2))):
 ∃x W2,i8 bf (.func (.func 92) #[] #[.pointer (some ⟨b1,0,none⟩),.pointer (some ⟨b2,0,none⟩)]) (.loop .ready none R nt ps ac bd) W=some (x,W2.kill W.next)/\((x=.normal/\J ops W2)\/(x≠ .normal/\Q x W2)):=by
 obtain⟨W2,k1,k2⟩:=YS (f:=.func (.yield W.next) #[] #[]) (W:=W.add (.loop .ready none R nt ps ac bd)) (b2:=b2) (WI:=WI) hr hl P h1 h5
  (λpre W'=>J pre W'/\W.next<W'.next/\W'.get W.next=some (.loop .ready none R nt ps ac bd))
  (λW'=>∃x,x≠ .normal/\Q x W'/\W'.get W.next=some (.loop .done x.jump R nt ps ac bd))
  ⟨h0,by rw[AW.ar];omega,AW.aH _ _⟩ (λpre W' h=>hS _ _ h.1)
  (λpre W' cs h=>⟨hA _ _ _ h.1 h.2.1,by rw[AW.ar];omega,by rw[AW.aD _ _ (by omega)];exact h.2.2⟩)
  (λpre o W' h=>Da _ _ _ h.1) (λpre o W' lI h hn=>⟨skip _ _ _ lI h.1 hn,h.2⟩)
  (λpre o W' lI ⟨hJ,kW,di⟩ ZU=>by
    have hJ2:=hP _ _ (.loop .busy none R nt ps ac bd) (hA _ _ (iz o) hJ kW);obtain⟨⟨x,R2,W3⟩,k1,k2,k3,k4⟩:=step pre o _ W'.next _ rfl lI ZU hJ2 (by rw[AW.bh,AW.ar];omega) (by rw[AW.ay _ _ (by omega)];exact AW.aH _ _) kW (by rw[AW.bh,AW.ar];omega);simp only at k1 k2 k3 k4;rw[AW.aW]at k3;have hy:=Bp (P:=Tryz.prog) (args:=[Eg o]) di (by rw[hp];rfl) (has o W' _ rfl) (by rw[AW.aD _ _ (by omega)];exact di) k1 k3;have hn3:W.next<W3.next:=by rw[AW.bh,AW.ar]at k2;omega
    rcases k4 with⟨rfl,k4⟩|⟨kx,k4⟩
    ·exact⟨true,_,hy,λ_=>⟨hP _ _ _ k4,by rw[AW.bh];exact hn3,AW.aW _ _ _⟩,λh=>by cases h⟩
    ·refine⟨false,W3.put W.next (.loop .done x.jump R nt ps ac bd),?_,λh=>by(cases h),λ_=>⟨x,kx,hQ _ _ _ k4,AW.aW _ _ _⟩⟩;refine hy.trans ?_;cases x with
     |normal=>exact absurd rfl kx
     |exit i=>rfl
     |ret=>rfl)
 rcases k2 with⟨h2,h3,h4⟩|⟨x,h2,h3,h4⟩
 ·exact⟨.normal,W2,rS k1 h4 (by simp),.inl ⟨rfl,h2⟩⟩
 ·exact⟨x,W2,Fq k1 h4,.inr ⟨h2,h3⟩⟩
def SW{b1 b2 tb nt:Nat}{WI ov:ad}{ops:List gn}{W0 W:AW}{R:Nat->ad}{ps:Array Tmp}{ac bd:Code}{ρ:Type}{K:X×AW->Option ρ}{G:ρ->Prop}(hr:Mc W0 ov ops)(hl:ops.length<=1000)(P:gn->Bool)(hp:ps.size=1)
 (h1:bG (.pointer (some ⟨b1,0,none⟩)) (W.add (.loop .ready none R nt ps ac bd))=some (.pointer (some ⟨tb,0,none⟩),W.add (.loop .ready none R nt ps ac bd)))(h5:bG (.pointer (some ⟨tb,5,none⟩)) (W.add (.loop .ready none R nt ps ac bd))=some (ov,W.add (.loop .ready none R nt ps ac bd)))
 (J:List gn->AW->Prop)(Q:X->AW->Prop)(h0:J [] (W.add (.loop .ready none R nt ps ac bd)))
 (hS:∀pre W',J pre W'->Le W0 W'/\bG (.pointer (some ⟨b2,0,none⟩)) W'=some (WI,W'))(hA:∀pre W' cs,J pre W'->W.next<W'.next->J pre (W'.add (.cells cs)))(hP:∀pre W' o,J pre W'->J pre (W'.put W.next o))(hQ:∀x W' o,Q x W'->Q x (W'.put W.next o))
 (Da:∀pre o W',J pre W'->bf WI [Eg o] W'=some (.bool (P o),W'))(skip:∀pre o W',pre++[o]<+:ops->J pre W'->P o=false->J (pre++[o]) W')
 (d:Nat)(has:∀o W' R',R'=kD ps.toList [Eg o] R->eH Tryz.prog bf false nt ac LT R' W' ke=some (.normal,fM R' (some d) (.pointer (some ⟨W'.next,0,none⟩)),W'.add (.cells (iz o))))
 (step:∀pre o W' b R',R'=fM (kD ps.toList [Eg o] R) (some d) (.pointer (some ⟨b,0,none⟩))->pre++[o]<+:ops->P o=true->J pre W'->W.next<W'.next->W'.get b=some (.cells (iz o))->W.next<b->b<W'.next->
   Ok (eH Tryz.prog bf false nt bd LT R' W' ke) λq=>W'.next<=q.2.2.next/\q.2.2.get W.next=W'.get W.next/\((q.1=.normal/\J (pre++[o]) q.2.2)\/(q.1≠ .normal/\Q q.1 q.2.2)))
 (after:∀x W2,(x=.normal/\J ops W2)\/(x≠ .normal/\Q x W2)->Ok (K (x,W2.kill W.next)) G):
 Ok (dN (i8 bf (.func (.func 92) #[] #[.pointer (some ⟨b1,0,none⟩),.pointer (some ⟨b2,0,none⟩)]) (.loop .ready none R nt ps ac bd) W) K) G:=by
 obtain⟨x,W2,k1,k2⟩:=NJ hr hl P hp h1 h5 J Q h0 hS hA hP hQ Da skip d has step;rw[k1,Ai];exact after x W2 k2
def BF(o:gn):Bool:=decide (0<=o.to)
def PL(o:gn)(W:AW):bf (.func (.func 26) #[] #[]) [Eg o] W=some (.bool (BF o),W):=by refine aX rfl ?_ CF;unfold Ag;have x1:(W.add (.cells (iz o))).get W.next=some (.cells (iz o)):=AW.aH _ _;simp only[SX,aN,I1 x1,ai];exact⟨rfl,(Le.refl _).add _⟩
def SN:Tryz.prog.underlying 115=some (.map 3 4):=by kernel_rfl
def tz4:iM Tryz.prog 4=some (.bool false):=by kernel_rfl
def agh(W:AW):qu Tryz.prog 115 none W=some (.map (some W.next),W.add (.map [] 0)):=rfl
def alM(W:AW):cl Tryz.prog 115 W=some (bi W.next,W.add (.cells [.map none])):=aL (by kernel_rfl) rfl
def alI(W:AW):cl Tryz.prog 3 W=some (bi W.next,W.add (.cells [.af 0])):=aL (by kernel_rfl) rfl
def alE(W:AW):cl Tryz.prog 35 W=some (bi W.next,W.add (.cells [.af 0])):=aL (by kernel_rfl) rfl
def oLI(x:ad)(W:AW):fR Tryz.prog 3 x W=bG x W:=by kernel_rfl
def oLE(x:ad)(W:AW):fR Tryz.prog 35 x W=bG x W:=by kernel_rfl
structure Lg (W:AW) (ov:ad) (os:List Int):Prop where
 ints:gg W ov os
 from_:∀k,k<=os.length->∃v',(∀U,ft Tryz.prog 28 ov (some (.af (k:Int))) none none U=some (v',U))/\gg W v' (os.drop k)
def Lg.mono{W W':AW}{ov:ad}{os:List Int}(h:Lg W ov os)(aS:Le W W'):Lg W' ov os:=⟨h.ints.mono aS,λk hk=>let⟨v,a,b⟩:=h.from_ k hk;⟨v,a,b.mono aS⟩⟩
def stM{W:AW}{b:Nat}{x:ad}{m:Nat}(h:W.get b=some (.cells [x])):gv 1 (bi b) (.map (some m)) W=some (ak,W.put b (.cells [.map (some m)])):=by have:=AV (n:=1) (o:=0) (v:=.map (some m)) h rfl (aM 1) rfl;exact this.trans rfl
def abq{W:AW}{b:Nat}{x:ad}{n:Int}(h:W.get b=some (.cells [x])):gv 1 (bi b) (.af n) W=some (ak,W.put b (.cells [.af n])):=by rw[zl,dJ h];rfl
def lP(os:List Int)(i:Nat):Int->Option ad:=λx=>if x∈os.take i then some (.bool true)else none
def Qb{os:List Int}{i:Nat}(hi:i<os.length):lP os (i+1)=λx=>if x=os.getD i 0 then some (.bool true)else lP os i x:=by
 funext x;unfold lP;rw[lW hi,yC hi];by_cases e:x=os[i]
 ·rw[aq e,aq (List.mem_append_right _ (by rw[e];exact nL.2 rfl))]
 ·rw[ap e];by_cases h:x∈os.take i
  ·rw[aq h,aq (List.mem_append_left _ h)]
  ·rw[ap h,ap (λhm=>(py.1 hm).elim h λh2=>e (nL.1 h2))]
section
variable {W:AW} {lv ov sv ev pv:ad} {l:List gn} {os:List Int} {tb:Nat} {v:fc}
def Zj{U:AW}{b1 bx:Nat}{x y:Int}(h1:U.get b1=some (.cells [bi tb]))(ht:U.get tb=some (.cells (PV v sv ev lv pv)))(hx:U.get bx=some (.cells [.af x]))(hl:Mc U lv l)(Z6:l.length<=1000)(x1:1<=x)(x2:x<=l.length)(y1:1<=y)(y2:y<=l.length):
 bf (.func (.func 53) #[] #[bi b1,bi bx]) [.af y] U=some (.bool (KG (iJ l y) (iJ l x)),U):=by
 refine aX rfl ?_ mX;unfold jb;have c1:bG (bi b1) U=some (bi tb,U):=aZ (az h1) rfl;have c2:bG (.pointer (some ⟨tb,5,none⟩)) U=some (lv,U):=aZ (az ht) rfl;have c3:bG (bi bx) U=some (.af x,U):=aZ (az hx) rfl;have s1:=λW'=>uH W' x 1
 have s2:=λW'=>uH W' y 1
 obtain⟨b,o,g1,g2,g3⟩:=hl.at x1 x2;obtain⟨b',o',k1,k2,k3⟩:=hl.at y1 y2;simp only[SX,c1,aJ,aN,c2,s2,k1,k3 _ rfl,c3,s1,g1,g3 _ rfl,IN,ai];exact⟨ao,.refl _⟩
structure xr (W U:AW) (ov:ad) (tb:Nat) (m:Int->Option ad) (a e:Int):Prop where
 le:Le W U
 n:W.next+6<=U.next
 b1:U.get W.next=some (.cells [bi tb])
 b2:U.get (W.next+1)=some (.cells [ov])
 b3:U.get (W.next+2)=some (.cells [.af a])
 b4:U.get (W.next+3)=some (.cells [.af e])
 b5:U.get (W.next+5)=some (.cells [.map (some (W.next+4))])
 m:∃n,sH U (W.next+4) m n
def xr.keep{U U':AW}{m:Int->Option ad}{a e:Int}(h:xr W U ov tb m a e)(hn:U.next<=U'.next)(hg:∀d,d<W.next+6->U'.get d=U.get d):xr W U' ov tb m a e:=by have:=h.n;obtain⟨n,hm⟩:=h.m;exact⟨⟨by have:=h.le.next;omega,λd hd=>(hg d (by omega)).trans (h.le.get d hd)⟩,by omega,(hg _ (by omega)).trans h.b1,(hg _ (by omega)).trans h.b2,(hg _ (by omega)).trans h.b3,(hg _ (by omega)).trans h.b4,(hg _ (by omega)).trans h.b5,n,hm.keep (hg _ (by omega))⟩
def xr.ans{U:AW}{m:Int->Option ad}{a e:Int}(h:xr W U ov tb m a e)(a' e':Int):∃U1 U2,gv 1 (bi (W.next+2)) (.af a') U=some (ak,U1)/\gv 1 (bi (W.next+3)) (.af e') U1=some (ak,U2)/\xr W U2 ov tb m a' e'/\U2.next=U.next/\∀d,d≠W.next+2->d≠W.next+3->U2.get d=U.get d:=by
 obtain⟨n,hm⟩:=h.m;have hn:=h.n;have g3:(U.put (W.next+2) (.cells [.af a'])).get (W.next+3)=some (.cells [.af e]):=(AW.ay _ _ (by omega)).trans h.b4;have k:∀d,d≠W.next+2->d≠W.next+3->((U.put (W.next+2) (.cells [.af a'])).put (W.next+3) (.cells [.af e'])).get d=U.get d:=λd h1 h2=>(AW.ay _ _ (aV h2)).trans (AW.ay _ _ (aV h1))
 refine⟨_,_,abq h.b3,abq g3,⟨⟨h.le.next,λd hd=>(k d (by omega) (by omega)).trans (h.le.get d hd)⟩,hn,(k _ (by omega) (by omega)).trans h.b1,(k _ (by omega) (by omega)).trans h.b2,(AW.ay _ _ (by omega)).trans (AW.aW _ _ _),AW.aW _ _ _,(k _ (by omega) (by omega)).trans h.b5,n,hm.keep (k _ (by omega) (by omega))⟩,rfl,k⟩
def xr.res{U:AW}{m:Int->Option ad}{a e:Int}(h:xr W U ov tb m a e):iS Tryz.prog [(bi (W.next+2),some 3),(bi (W.next+3),some 35)] U=some (.tuple #[.af a,.af e],U):=by have c1:bG (bi (W.next+2)) U=some (.af a,U):=aZ (az h.b3) rfl;have c2:bG (bi (W.next+3)) U=some (.af e,U):=aZ (az h.b4) rfl;rw[yu,oLI,oLE,c1,bL,c2];rfl
end
section
variable {W:AW} {lv ov sv ev pv:ad} {l:List gn} {os:List Int} {tb:Nat} {v:fc}
def MT(ht:W.get tb=some (.cells (PV v sv ev lv pv)))(Mp:tb<W.next)(hl:Mc W lv l)(ho:Lg W ov os)(Z6:l.length<=800)(Nb:os.length<=800)(OW:∀(j:Nat) (o:gn),l[j]? =some o->o.id=(j:Int)+1):
 ∃a e:Int,NO l os a e/\bf (.func (.func 23) #[] #[]) [bi tb,ov] W=some (.tuple #[.af a,.af e],W):=by
 have sX:Ok (fL bf (bi tb) ov W) λr=>∃a e:Int,NO l os a e/\r.1=.tuple #[.af a,.af e]/\Le W r.2:=by
  unfold fL;have hbx:∀U,nG ov U=some (bi U.next,U.add (.cells [ov])):=λU=>by obtain⟨a,c,e,-⟩:=ho.ints;rw[e];exact aL rfl rfl
  obtain⟨V0,hV0⟩:∃V0,V0=(((((W.add (.cells [bi tb])).add (.cells [ov])).add (.cells [.af 0])).add (.cells [.af 0])).add (.map [] 0)).add (.cells [.map (some (W.next+4))]):=⟨_,rfl⟩;have s5:=stM (W:=((((((W.add (.cells [bi tb])).add (.cells [ov])).add (.cells [.af 0])).add (.cells [.af 0])).add (.map [] 0)).add (.cells [.map none]))) (b:=W.next+5) (x:=.map none) (m:=W.next+4) (AW.aH (((((W.add (.cells [bi tb])).add (.cells [ov])).add (.cells [.af 0])).add (.cells [.af 0])).add (.map [] 0)) _);have e5:(((((W.add (.cells [bi tb])).add (.cells [ov])).add (.cells [.af 0])).add (.cells [.af 0])).add (.map [] 0)).next=W.next+5:=rfl;rw[<-e5,jl,e5,<-hV0]at s5;have O0:xr W V0 ov tb (lP os 0) 0 0:=by
   have k:∀d,d<W.next+5->V0.get d=(((((W.add (.cells [bi tb])).add (.cells [ov])).add (.cells [.af 0])).add (.cells [.af 0])).add (.map [] 0)).get d:=λd hd=>by rw[hV0];exact AW.aD _ _ (by rw[e5];omega)
   have k4:∀d,d<W.next+4->V0.get d=((((W.add (.cells [bi tb])).add (.cells [ov])).add (.cells [.af 0])).add (.cells [.af 0])).get d:=λd hd=>(k d (by omega)).trans (AW.aD _ _ (by simp only[AW.ar];omega))
   have k3:∀d,d<W.next+3->V0.get d=(((W.add (.cells [bi tb])).add (.cells [ov])).add (.cells [.af 0])).get d:=λd hd=>(k4 d (by omega)).trans (AW.aD _ _ (by simp only[AW.ar];omega))
   have k2:∀d,d<W.next+2->V0.get d=((W.add (.cells [bi tb])).add (.cells [ov])).get d:=λd hd=>(k3 d (by omega)).trans (AW.aD _ _ (by simp only[AW.ar];omega))
   have k1:∀d,d<W.next+1->V0.get d=(W.add (.cells [bi tb])).get d:=λd hd=>(k2 d (by omega)).trans (AW.aD _ _ (by simp only[AW.ar];omega))
   refine⟨⟨by rw[hV0];simp only[AW.ar];omega,λd hd=>(k1 d (by omega)).trans (AW.aD _ _ (by omega))⟩,by rw[hV0];simp only[AW.ar];omega,(k1 _ (by omega)).trans (AW.aH _ _),(k2 _ (by omega)).trans (AW.aH (W.add _) _),(k3 _ (by omega)).trans (AW.aH ((W.add _).add _) _),(k4 _ (by omega)).trans (AW.aH (((W.add _).add _).add _) _),by rw[hV0];exact AW.aH (((((W.add (.cells [bi tb])).add (.cells [ov])).add (.cells [.af 0])).add (.cells [.af 0])).add (.map [] 0)) _,0,?_⟩;have e0:lP os 0=λ_=>none:=by funext x;unfold lP;rw[qJ,ap (by simp)]
   rw[e0];exact sH.keep (Kw (W:=(((W.add (.cells [bi tb])).add (.cells [ov])).add (.cells [.af 0])).add (.cells [.af 0]))) (k (W.next+4) (by omega))
  have S0:∀{U:AW} {m:Int->Option ad} {a e:Int},xr W U ov tb m a e->bG (bi (W.next+1)) U=some (ov,U):=λh=>aZ (az h.b2) rfl
  have ldT:∀{U:AW} {m:Int->Option ad} {a e:Int},xr W U ov tb m a e->bG (bi W.next) U=some (bi tb,U):=λh=>aZ (az h.b1) rfl
  have ldL:∀{U:AW} {m:Int->Option ad} {a e:Int},xr W U ov tb m a e->bG (.pointer (some ⟨tb,5,none⟩)) U=some (lv,U):=λh=>aZ (az ((h.le.get _ Mp).trans ht)) rfl
  have ldM:∀{U:AW} {m:Int->Option ad} {a e:Int},xr W U ov tb m a e->bG (bi (W.next+5)) U=some (.map (some (W.next+4)),U):=λh=>aZ (az h.b5) rfl
  have PF:=ho.ints;simp only[SX,uP,hbx,alI,alE,agh,alM,AW.ar,i9,Nat.reduceAdd,s5];simp only[SX,S0 O0,gg.ln PF];clear s5 hV0;refine bz os.length (by omega) (λi R U=>xr W U ov tb (lP os i) 0 0/\R 2=bi W.next/\R 3=bi (W.next+1)/\R 4=bi (W.next+2)/\R 5=bi (W.next+3)/\R 6=bi (W.next+5)/\R 14=ov/\R 15=.af (os.length:Int)/\R 16=.af (i:Int)/\∀j,j<i->yh l os j=0)
   (λr=>r.2.1 4=bi (W.next+2)/\r.2.1 5=bi (W.next+3)/\((r.1=.exit 0/\xr W r.2.2 ov tb (lP os os.length) 0 0/\r.2.1 2=bi W.next/\r.2.1 3=bi (W.next+1)/\r.2.1 6=bi (W.next+5)/\∀j,j<os.length->yh l os j=0)\/(r.1=.ret/\∃i m,i<os.length/\(∀j,j<i->yh l os j=0)/\yh l os i≠0/\xr W r.2.2 ov tb m (i:Int) (yh l os i))))
   ⟨O0,rfl,rfl,rfl,rfl,rfl,rfl,rfl,rfl,λj hj=>by omega⟩ ?_ ?_ ?_
  ·rintro i R U hi ⟨hO,r2,r3,r4,r5,r6,MD,Xx,XC,hz⟩;unfold eX;have t1:decide ((i:Int)<(os.length:Int))=true:=dj;have t2:=λW'=>bJ W' i 1
   have e3:((i+1:Nat):Int)=(i:Int)+1:=by omega
   obtain⟨p,p1,p2⟩:=gg.gd (PF.mono hO.le) hi;have bad:∀e,yh l os i=e->e≠0->∃U1 U2,gv 1 (bi (W.next+2)) (.af (i:Int)) U=some (ak,U1)/\gv 1 (bi (W.next+3)) (.af e) U1=some (ak,U2)/\xr W U2 ov tb (lP os i) (i:Int) (yh l os i):=λe he h0=>by obtain⟨U1,U2,k1,k2,k3,-⟩:=hO.ans (i:Int) e;exact⟨U1,U2,k1,k2,by rw[he];exact k3⟩
   simp only[SX,MD,Xx,XC,t1,p1,p2];by_cases c1:os.getD i 0<1
   ·have e4:yh l os i=4:=by unfold yh;rw[aq (.inl c1)]
    have d:=be c1;obtain⟨U1,U2,k1,k2,k3⟩:=bad 4 e4 (by decide);simp only[SX,d,r4,r5,k1,k2,ai];exact .inr ⟨by simp,r4,r5,.inr ⟨ao,i,_,hi,hz,by rw[e4];decide,k3⟩⟩
   have d1:=bm c1;by_cases c2:(l.length:Int)<os.getD i 0
   ·have e4:yh l os i=4:=by unfold yh;rw[aq (.inr c2)]
    have d:=be c2;obtain⟨U1,U2,k1,k2,k3⟩:=bad 4 e4 (by decide);simp only[SX,d1,r2,ldT hO,aJ,aN,ldL hO,hl.ln,d,r4,r5,k1,k2,ai];exact .inr ⟨by simp,r4,r5,.inr ⟨ao,i,_,hi,hz,by rw[e4];decide,k3⟩⟩
   have d2:=bm c2;obtain⟨n,hm⟩:=hO.m;have lk:=K2 hm SN ty3 tz4 (os.getD i 0);by_cases c3:os.getD i 0∈os.take i
   ·have e4:yh l os i=8:=by unfold yh;rw[bK,aq c3]
    have em:(lP os i (os.getD i 0)).getD (.bool false)=.bool true:=by unfold lP;rw[aq c3];rfl
    rw[em]at lk;obtain⟨U1,U2,k1,k2,k3⟩:=bad 8 e4 (by decide);simp only[SX,d1,r2,ldT hO,aJ,aN,ldL hO,hl.ln,d2,r6,ldM hO,lk,r4,r5,k1,k2,ai];exact .inr ⟨by simp,r4,r5,.inr ⟨ao,i,_,hi,hz,by rw[e4];decide,k3⟩⟩
   ·have em:(lP os i (os.getD i 0)).getD (.bool false)=.bool false:=by unfold lP;rw[ap c3];rfl
    rw[em]at lk;obtain⟨es,c,m1,m2⟩:=JN hm SN ty3 (os.getD i 0) (.bool true);have hn6:=hO.n;have hO2:xr W (U.put (W.next+4) (.map es c)) ov tb (lP os (i+1)) 0 0:=by
     have k:∀d,d≠W.next+4->(U.put (W.next+4) (.map es c)).get d=U.get d:=λd hd=>AW.ay _ _ (aV hd)
     refine⟨⟨hO.le.next,λd hd=>(k d (by omega)).trans (hO.le.get d hd)⟩,hn6,(k _ (by omega)).trans hO.b1,(k _ (by omega)).trans hO.b2,(k _ (by omega)).trans hO.b3,(k _ (by omega)).trans hO.b4,(k _ (by omega)).trans hO.b5,?_⟩;rw[<-Qb hi]at m2;exact⟨_,m2⟩
    simp only[SX,d1,r2,ldT hO,aJ,aN,ldL hO,hl.ln,d2,r6,ldM hO,lk,m1,t2,ai];refine .inl ⟨ao,hO2,r2,r3,r4,r5,r6,MD,Xx,by rw[e3];rfl,λj hj=>?_⟩;by_cases e:j=i
    ·subst e;unfold yh;rw[bK,ap c3]
    ·exact hz j (by omega)
  ·rintro R U ⟨hO,r2,r3,r4,r5,r6,MD,Xx,XC,hz⟩;unfold eX;have t1:decide ((os.length:Int)<(os.length:Int))=false:=cN;simp only[SX,Xx,XC,t1,ai];exact⟨by simp,r4,r5,.inl ⟨ao,hO,r2,r3,r6,hz⟩⟩
  rintro⟨e,R,U⟩ ⟨r4,r5,⟨rfl,hO,r2,r3,r6,hz⟩|⟨rfl,i,m,hi,h1,h2,hO⟩⟩;case inr=>have r4':R 4=bi (W.next+2):=r4;have r5':R 5=bi (W.next+3):=r5;have hO':xr W U ov tb m (i:Int) (yh l os i):=hO;simp only[SX,r4',r5',hO'.res,ai];exact⟨_,_,.one hi h1 h2,rfl,hO'.le⟩
  simp only at r2 r3 r4 r5 r6;have hO:xr W U ov tb (lP os os.length) 0 0:=hO;have Ye:lP os os.length=λx=>if x∈os then some (.bool true)else none:=by funext x;unfold lP;rw[cY]
  obtain⟨V1,s1,s2,s3,s4,s5⟩:=YJ (some ⟨tb,0,none⟩) (.func 26) #[] #[] U;have n2:=s2.next;have hUn:=hO.n;have HO:xr W V1 ov tb (lP os os.length) 0 0:=hO.keep n2 λd hd=>s2.get d (by omega)
  simp only[SX,r2,ldT hO,s1];refine SW (W0:=W) (b1:=U.next) (b2:=U.next+1) (tb:=tb) (WI:=.func (.func 26) #[] #[]) (ops:=l) hl (by omega) BF rfl (xi ((AW.aD _ _ (by omega)).trans s4) rfl) (xi ((AW.aD _ _ (by omega)).trans ((HO.le.get _ Mp).trans ht)) rfl)
   (λpre V=>V1.next<=V.next/\(∀b,b<V1.next->V.get b=V1.get b)/\∀o∈pre,BF o=true->o.id∈os) (λx V=>x=.ret/\xr W V ov tb (lP os os.length) (os.length:Int) 10/\Pk2 l os)
   ⟨by rw[AW.ar];omega,λb hb=>AW.aD _ _ (by omega),λo h=>by cases h⟩
   (λpre V ⟨g1,g2,_⟩=>⟨⟨by have:=HO.le.next;omega,λb hb=>(g2 b (by have:=HO.le.next;omega)).trans (HO.le.get b hb)⟩,xi ((g2 _ (by omega)).trans s5) rfl⟩)
   (λpre V cs ⟨g1,g2,g3⟩ kW=>⟨by rw[AW.ar];omega,λb hb=>(AW.aD _ _ (by omega)).trans (g2 b hb),g3⟩)
   (λpre V o ⟨g1,g2,g3⟩=>⟨by rw[AW.bh];omega,λb hb=>(AW.ay _ _ (by omega)).trans (g2 b hb),g3⟩)
   (λx V o ⟨h1,h2,h3⟩=>⟨h1,h2.keep (by rw[AW.bh];omega) λd hd=>AW.ay _ _ (by omega),h3⟩)
   (λpre o V _=>PL o V) (λpre o V lI ⟨g1,g2,g3⟩ hn=>⟨g1,g2,λx hx hd=>by
    rcases py.1 hx with hx|hx
    ·exact g3 x hx hd
    ·rw[nL.1 hx,hn]at hd;cases hd⟩) 9 ?_ ?_ ?_
  ·intro o V R' hR;have r44:R' 44=Eg o:=by rw[hR];rfl
   rw[lY];unfold il;simp only[SX,LC,r44,Ej];rfl
  ·intro pre o V b R' hR lI ZU ⟨g1,g2,g3⟩ kW hb Nx nD;have r3':R' 3=bi (W.next+1):=by rw[hR];exact r3
   have r4':R' 4=bi (W.next+2):=by rw[hR];exact r4
   have r5':R' 5=bi (W.next+3):=by rw[hR];exact r5
   have r6':R' 6=bi (W.next+5):=by rw[hR];exact r6
   have r9':R' 9=bi b:=by rw[hR];rfl
   clear hR;rw[mc];unfold ip;have X1:xr W V ov tb (lP os os.length) 0 0:=HO.keep g1 λd hd=>g2 d (by omega)
   obtain⟨n,hm⟩:=X1.m;have lk:=K2 hm SN ty3 tz4 o.id;rw[Ye]at lk;by_cases c:o.id∈os
   ·simp only[aq c,nA]at lk;simp only[SX,r6',r9',ldM X1,aN,Vu hb,lk,ai];refine⟨aM _,ao,.inl ⟨ao,g1,g2,λx hx hd=>?_⟩⟩;rcases py.1 hx with hx|hx
    ·exact g3 x hx hd
    ·rw[nL.1 hx];exact c
   ·simp only[ap c,Option.getD_none]at lk;obtain⟨U1,U2,k1,k2,k3,k4,k5⟩:=X1.ans (os.length:Int) 10;simp only[SX,r3',r4',r5',r6',r9',ldM X1,aN,Vu hb,lk,S0 X1,gg.ln PF,k1,k2,ai];refine⟨by omega,k5 _ (by omega) (by omega),.inr ⟨by simp,ao,k3,?_⟩⟩;have nQ:=lI.length_le;rw[cT,List.length_singleton]at nQ;have di:l[pre.length]? =some o:=by obtain⟨t,e⟩:=lI;rw[<-e];simp
    refine⟨pre.length,by omega,?_,?_⟩
    ·rw[lh,di];unfold BF at ZU;simpa using ZU
    ·rw[<-OW _ _ di];exact c
  rintro x V (⟨rfl,q1,q2,q3⟩|⟨hx,rfl,X1,h2⟩);case inr=>
   have hOK:xr W (V.kill V1.next) ov tb (lP os os.length) (os.length:Int) 10:=X1.keep (by rw[AW.dz];omega) λd hd=>AW.cE _ (by omega)
   simp only[SX,r4,r5,hOK.res,ai];exact⟨_,_,.two hz h2,rfl,hOK.le⟩
  have An:¬Pk2 l os:=by
   rintro⟨j,h1,h2,h3⟩;have hj:l[j]? =some (l.getD j ho0):=by rw[lh,bS h1];rfl
   have:=q3 _ (qt hj) (by unfold BF;simpa using h2);rw[OW _ _ hj]at this;exact h3 this
  have X1:xr W V ov tb (lP os os.length) 0 0:=HO.keep q1 λd hd=>q2 d (by omega)
  have hO2:xr W (V.kill V1.next) ov tb (lP os os.length) 0 0:=X1.keep (by rw[AW.dz];omega) λd hd=>AW.cE _ (by omega)
  generalize V.kill V1.next=V2 at *;simp only[SX,r3,S0 hO2,gg.ln PF];refine bz os.length (by omega) (λi R U=>xr W U ov tb (lP os os.length) 0 0/\R 2=bi W.next/\R 3=bi (W.next+1)/\R 4=bi (W.next+2)/\R 5=bi (W.next+3)/\R 52=ov/\R 53=.af (os.length:Int)/\R 54=.af (i:Int)/\∀j,j<i->¬Sn l os j)
   (λr=>r.2.1 4=bi (W.next+2)/\r.2.1 5=bi (W.next+3)/\((r.1=.exit 5/\xr W r.2.2 ov tb (lP os os.length) 0 0/\∀j,j<os.length->¬Sn l os j)\/(r.1=.ret/\∃i,i<os.length/\(∀j,j<i->¬Sn l os j)/\Sn l os i/\xr W r.2.2 ov tb (lP os os.length) (i:Int) 9)))
   ⟨hO2,r2,r3,r4,r5,rfl,rfl,rfl,λj hj=>by omega⟩ ?_ ?_ ?_
  ·rintro i R U hi ⟨hO,r2,r3,r4,r5,r52,r53,r54,hz3⟩;unfold eR;have t1:decide ((i:Int)<(os.length:Int))=true:=dj;have t2:=λW'=>bJ W' i 1
   have e3:((i+1:Nat):Int)=(i:Int)+1:=by omega
   obtain⟨p,p1,p2⟩:=gg.gd (PF.mono hO.le) hi;obtain⟨x1,x2,-⟩:=NG (hz i hi);have hUn:=hO.n;have st:=abq (W:=U.add (.cells [.af 0])) (n:=os.getD i 0) (AW.aH U _);rw[jl]at st;obtain⟨U1,hU1⟩:∃U1,U1=U.add (.cells [.af (os.getD i 0)]):=⟨_,rfl⟩;have l1:Le U U1:=by rw[hU1];exact(Le.refl U).add _
   have gx:U1.get U.next=some (.cells [.af (os.getD i 0)]):=by rw[hU1];exact AW.aH _ _
   have HO:xr W U1 ov tb (lP os os.length) 0 0:=hO.keep l1.next λd hd=>l1.get d (by omega)
   rw[<-hU1]at st;clear hU1;obtain⟨v',f1,f2⟩:=ho.from_ (i+1) (by omega);rw[e3]at f1;have eG:(os.drop (i+1)).length<1000:=by rw[qA];omega
   have Yt:=GZ (W:=U1) (f:=.func (.func 53) #[] #[bi W.next,bi U.next]) (p:=λy=>KG (iJ l y) (iJ l (os.getD i 0))) (f2.mono HO.le) eG (λy hy=>by
    obtain⟨k,hk,rfl⟩:=Jg.1 hy;have:=NG (hz (k+(i+1)) (by omega));rw[yC (by omega)]at this;have e2:os[i+1+k]'(by omega)=os[k+(i+1)]'(by omega):=by congr 1;omega
    rw[e2];exact Zj HO.b1 ((HO.le.get _ Mp).trans ht) gx (hl.mono HO.le) (by omega) x1 x2 this.1 this.2.1);have aht:(os.drop (i+1)).any (λy=>KG (iJ l y) (iJ l (os.getD i 0)))=true<->Sn l os i:=by
    rw[vW];constructor
    ·rintro⟨y,hy,hb⟩;obtain⟨k,hk,rfl⟩:=Jg.1 hy;refine⟨i+1+k,by omega,by omega,?_⟩;rw[yC (by omega)];exact hb
    ·rintro⟨k,k1,k2,hb⟩;refine⟨os.getD k 0,Jg.2 ⟨k-(i+1),by omega,?_⟩,hb⟩;rw[yC k2];congr 1;omega
   cases hc:(os.drop (i+1)).any (λy=>KG (iJ l y) (iJ l (os.getD i 0)))with
   |true=>rw[hc]at Yt;obtain⟨U2,U3,k1,k2,k3,-⟩:=HO.ans (i:Int) 9;simp only[SX,r2,r3,r4,r5,r52,r53,r54,t1,p1,p2,alI,st,S0 HO,t2,f1,Yt,k1,k2,ai];exact .inr ⟨by simp,r4,r5,.inr ⟨ao,i,hi,hz3,aht.1 hc,k3⟩⟩
   |false=>
    rw[hc]at Yt;simp only[SX,r2,r3,r4,r5,r52,r53,r54,t1,p1,p2,alI,st,S0 HO,t2,f1,Yt,ai];refine .inl ⟨ao,HO,r2,r3,r4,r5,r52,r53,by rw[e3];rfl,λj hj=>?_⟩;by_cases e:j=i
    ·subst e;intro h;rw[aht.2 h]at hc;cases hc
    ·exact hz3 j (by omega)
  ·rintro R U ⟨hO,r2,r3,r4,r5,r52,r53,r54,hz3⟩;unfold eR;have t1:decide ((os.length:Int)<(os.length:Int))=false:=cN;simp only[SX,r53,r54,t1,ai];exact⟨by simp,r4,r5,.inl ⟨ao,hO,hz3⟩⟩
  ·rintro⟨e,R,U⟩ ⟨r4,r5,⟨rfl,hO,hz3⟩|⟨rfl,i,hi,h1,h3,hO⟩⟩
   ·simp only at r4 r5;have hO:xr W U ov tb (lP os os.length) 0 0:=hO;obtain⟨U1,U2,k1,k2,k3,-⟩:=hO.ans 0 0;simp only[SX,r4,r5,k1,k2,k3.res,ai];exact⟨_,_,.pn hz An hz3,rfl,k3.le⟩
   ·simp only at r4 r5;have hO:xr W U ov tb (lP os os.length) (i:Int) 9:=hO;simp only[SX,r4,r5,hO.res,ai];exact⟨_,_,.three hz An hi h1 h3,rfl,hO.le⟩
 obtain⟨⟨v,V⟩,k1,a,e,k2,rfl,k3⟩:=sX;exact⟨a,e,k2,aX rfl ⟨_,k1,rfl,k3⟩ nU⟩
end
def EF(X:Nat->Prop)(Z U:AW)(val:ad)(x:cK):Prop:=∀U',U.next<=U'.next->(∀b,¬X b->b<U.next->U'.get b=U.get b)->CE Z U' val x
section
variable {X:Nat->Prop} {Z W U U':AW} {val iU:ad} {x x':cK}
def EF.at(h:EF X Z U val x):CE Z U val x:=h U (aM _) λ_ _ _=>rfl
def EF.keep(h:EF X Z U val x)(hn:U.next<=U'.next)(hg:∀b,¬X b->b<U.next->U'.get b=U.get b):EF X Z U' val x:=λV hv Bo=>h V (by omega) λb h1 h2=>(Bo b h1 (by omega)).trans (hg b h1 h2)
def EF.mono(h:EF X Z U val x)(aS:Le U U'):EF X Z U' val x:=h.keep aS.next λb _ hb=>aS.get b hb
def EF.put{b:Nat}{c:db}(h:EF X Z U val x)(hb:X b):EF X Z (U.put b c) val x:=h.keep (aM _) λd hd _=>AW.ay _ _ (λe=>hd (e▸hb))
def EF.ofK(h:MdK Z W U val x)(hX:∀b,X b->(Z.next<=b/\b<W.next)\/U.next<=b):EF X Z U val x:=λV hv hg=>h V hv λb hb nD=>hg b (λhx=>by have:=hX b hx;omega) nD
def EF.ofR{v0:ad}{x0:cK}(h:MdR Z W U v0 x0 val x)(h0:EF X Z W v0 x0)(aS:Le W U)(hX:∀b,X b->(Z.next<=b/\b<W.next)\/U.next<=b):EF X Z U val x:=by
 rcases h with⟨rfl,rfl⟩|h
 ·exact h0.mono aS
 ·exact .ofK h hX
def EF.parts(h:EF X Z U val x):∃sv sq qq,val=oA x sv sq qq/\Eng.one sv=true/\Eng.one sq=true/\Eng.one qq=true:=by obtain⟨sv,sq,qq,e,h1,h2,h3⟩:=h.at;exact⟨sv,sq,qq,e,row_one h1.1,Ee h2,row_one h3⟩
end
def AN(U:AW)(b:Nat)(val:ad):Prop:=∃x sv sq qq,val=oA x sv sq qq/\Eng.one sv=true/\Eng.one sq=true/\Eng.one qq=true/\U.get b=some (.cells (pI x sv sq qq))
section
variable {Z W U U':AW} {val iU:ad} {x x':cK} {b:Nat}
def AN.ld(h:AN U b val):fd 7 (bi b) U=some (val,U):=by obtain⟨x,sv,sq,qq,rfl,-,-,-,g⟩:=h;exact bV (az g) rfl
def AN.keep(h:AN U b val)(hg:U'.get b=U.get b):AN U' b val:=by obtain⟨x,sv,sq,qq,e,h1,h2,h3,g⟩:=h;exact⟨x,sv,sq,qq,e,h1,h2,h3,hg.trans g⟩
def AN.put(h:AN U b val)(hv:∃(x:cK) (sv sq qq:ad),iU=oA x sv sq qq/\Eng.one sv=true/\Eng.one sq=true/\Eng.one qq=true):∃c,gv 7 (bi b) iU U=some (ak,U.put b c)/\AN (U.put b c) b iU:=by obtain⟨x0,v0,q0,p0,-,-,-,-,g⟩:=h;obtain⟨x,sv,sq,qq,rfl,h1,h2,h3⟩:=hv;exact⟨_,kJ (vs:=(pI x sv sq qq).toArray) g rfl rfl (by simp[eK,h1,h2,h3,gH]),x,sv,sq,qq,rfl,h1,h2,h3,AW.aW _ _ _⟩
def AN.zero(W:AW):AN (W.add (.cells qe)) W.next (oA CJ ew ew ew):=⟨CJ,ew,ew,ew,rfl,rfl,rfl,rfl,AW.aH _ _⟩
def AN.new(U:AW)(hv:∃(x:cK) (sv sq qq:ad),val=oA x sv sq qq/\Eng.one sv=true/\Eng.one sq=true/\Eng.one qq=true):∃c,gv 7 (bi U.next) val (U.add (.cells qe))=some (ak,U.add (.cells c))/\AN (U.add (.cells c)) U.next val:=by obtain⟨x,sv,sq,qq,rfl,h1,h2,h3⟩:=hv;have s:=kJ (W:=U.add (.cells qe)) (b:=U.next) (n:=7) (vs:=(pI x sv sq qq).toArray) (AW.aH _ _) rfl rfl (by simp[eK,h1,h2,h3,gH]);rw[jl]at s;exact⟨_,s,x,sv,sq,qq,rfl,h1,h2,h3,AW.aH _ _⟩
def acv{a e:Int}(h:AN U b val):iS Tryz.prog [(bi b,some 34),(.af a,none),(.af e,none)] U=some (.tuple #[val,.af a,.af e],U):=by rw[S7,O9,h.ld];rfl
end
def WtA(Z W:AW)(v:fc)(l:List fF)(os:List Int)(q:ad)(W':AW):Prop:=∃(val:ad) (x:cK) (a e:Int),BM v l os x a e/\q=.tuple #[val,.af a,.af e]/\Le W W'/\CE Z W' val x
def Vs(Z W:AW):CE Z W (oA CJ ew ew ew) CJ:=⟨_,_,_,rfl,⟨⟨none,0,rfl,.inl rfl⟩,none,0,rfl,.inl ⟨aM _,by unfold dY;omega⟩,λh=>absurd rfl h⟩,⟨none,0,rfl,.inl rfl⟩,⟨none,0,rfl,.inl rfl⟩⟩
def Vn{l:List fF}{n:Nat}{s:TL}(h:qH l n s)(xx:∀e∈l,e.op.nw<9223372036854775808)(y:Int):(iJ s.ops y).op.nw<9223372036854775808:=by
 unfold iJ;rw[lh];cases e:s.ops[(y-1).toNat]? with
 |none=>decide
 |some o=>obtain⟨-,i,x,-,h1,-,-,-,-,h2⟩:=h.inv.ids _ _ e;rw[nA,<-h2];exact xx x (qt h1)
def H8{v:fc}{l:List gn}{os:List Int}(he:(fp v).2=0)(hv:v.aA.length<1000)(xx:∀y,(iJ l y).op.nw<9223372036854775808):∀k,Bnd (A9 v l os k)/\(A9 v l os k).v=v
 |0=>by obtain⟨hg,-,-,-,ht,-⟩:=df he;exact⟨⟨hv,by unfold A9 Dw;simp;omega,by unfold A9 Dw;simp;omega,λl hl=>by unfold A9 Dw at hl;rw[List.eq_of_mem_replicate hl];simp,by unfold A9 Dw;simp⟩,rfl⟩
 |k+1=>by obtain⟨h1,h2⟩:=H8 he hv xx (os:=os) k;obtain⟨h3,h4⟩:=h1.do (iJ l (os.getD k 0)).op (xx _);exact⟨h3,h4.trans h2⟩
def abt(U:AW){val:ad}(hv:∃(x:cK) (sv sq qq:ad),val=oA x sv sq qq/\Eng.one sv=true/\Eng.one sq=true/\Eng.one qq=true)(r:oE):
 ∃U4 U5,gv 7 (bi U.next) val ((U.add (.cells qe)).add (.cells (oH kI)))=some (ak,U4)/\gv 9 (bi (U.next+1)) (lC r) U4=some (ak,U5)/\Le U U5/\AN U5 U.next val/\U5.get (U.next+1)=some (.cells (oH r))/\U5.next=U.next+2:=by
 have h0:AN ((U.add (.cells qe)).add (.cells (oH kI))) U.next (oA CJ ew ew ew):=(AN.zero U).keep (AW.aD _ _ (by rw[AW.ar];omega));obtain⟨c,k1,k2⟩:=h0.put hv;have g1:((U.add (.cells qe)).add (.cells (oH kI))).get (U.next+1)=some (.cells (oH kI)):=AW.aH (U.add (.cells qe)) _;have g2:(((U.add (.cells qe)).add (.cells (oH kI))).put U.next c).get (U.next+1)=some (.cells (oH kI)):=(AW.ay _ _ (by omega)).trans g1;refine⟨_,_,k1,kJ (vs:=(oH r).toArray) g2 rfl rfl rfl,((((Le.refl U).add _).add _).put (aM _) _).put (by omega) _,k2.keep (AW.ay _ _ (by omega)),AW.aW _ _ _,rfl⟩
def aa5:∃(x:cK) (sv sq qq:ad),oA CJ ew ew ew=oA x sv sq qq/\Eng.one sv=true/\Eng.one sq=true/\Eng.one qq=true:=⟨_,_,_,_,rfl,rfl,rfl,rfl⟩
section
variable {Z W V:AW} {lv ov sv ev pv:ad} {l:List gn} {os:List Int} {tb b1:Nat} {v:fc} {ρ:Type}
structure WtI (Z V U:AW) (v:fc) (l:List gn) (os:List Int) (b1 k:Nat) (val:ad):Prop where
 le:Le V U
 n:V.next<U.next
 b6:AN U V.next val
 z1:AN U b1 (oA CJ ew ew ew)
 md:EF (λb=>b=b1\/b=V.next) Z U val (A9 v l os k)
 ok:∀j,j<k->¬vQ v l os j
def WtI.next{U U2 U5:AW}{val iU:ad}{k:Nat}(h:WtI Z V U v l os b1 k val)(aS:Le U U2)(h5:Le U2 U5)(hm:EF (λb=>b=b1\/b=V.next) Z U2 iU (A9 v l os (k+1)))(hk:¬vQ v l os k)(Nx:b1<V.next):
 ∃c,gv 7 (bi V.next) iU U5=some (ak,U5.put V.next c)/\WtI Z V (U5.put V.next c) v l os b1 (k+1) iU:=by
 have l5:=aS.trans h5;have hn:=h.n;have n5:=l5.next;obtain⟨sv',sq',qq',e0,e1,e2,e3⟩:=hm.parts;obtain⟨c,k1,k2⟩:=(h.b6.keep (l5.get _ h.n)).put ⟨_,_,_,_,e0,e1,e2,e3⟩;refine⟨c,k1,(h.le.trans l5).put (aM _) _,by rw[AW.bh];omega,k2,h.z1.keep ((AW.ay _ _ (by omega)).trans (l5.get _ (by omega))),(hm.mono h5).put (.inr rfl),λj hj=>?_⟩;by_cases e:j=k
 ·subst e;exact hk
 ·exact h.ok j (by omega)
def Tv{U:AW}{b:Nat}{o:gn}(h:U.get b=some (.cells (iz o))):fd 12 (.pointer (some ⟨b,4,none⟩)) U=some (Jm o.op,U)/\fd 9 (.pointer (some ⟨b,16,none⟩)) U=some (lC o.rp,U)/\fd 25 (bi b) U=some (Eg o,U)/\bG (.pointer (some ⟨b,3,none⟩)) U=some (.af o.to,U):=
 ⟨bV (az h) rfl,bV (az h) rfl,Pa h,I1 h⟩
def agq{U:AW}{b:Nat}{r:oE}(h:U.get b=some (.cells (oH r))):fd 9 (bi b) U=some (lC r,U):=bV (az h) rfl
def Nd{R:ah.Fr}{U:AW}{val:ad}{K:LT->Option ρ}{G:ρ->Prop}(hG:GW V)(hz:Le Z V)(hl:Mc V lv l)(ho:gg V ov os)(ht:V.get tb=some (.cells (PV v sv ev lv pv)))(Mp:tb<V.next)(Nx:b1<V.next/\Z.next<=b1)(he:(fp v).2=0)(hv:v.aA.length<1000)(Z6:l.length<=1000)(Nb:os.length<=1000)
 (hp:∀j,j<os.length->yh l os j=0)(xx:∀y,(iJ l y).op.nw<9223372036854775808)(h:WtI Z V U v l os b1 0 val)(r4:R 4=bi b1)(r6:R 6=.af 0)(r7:R 7=bi tb)(qR:R 11=bi V.next)(r49:R 49=ov)(r50:R 50=.af (os.length:Int))(r51:R 51=.af 0)
 (hK0:∀R' U' iU,WtI Z V U' v l os b1 os.length iU->R' 4=bi b1->R' 6=.af 0->R' 11=bi V.next->Ok (K (.exit 0,R',U')) G)
 (hK1:∀R' U' k,k<os.length->(∀j,j<k->¬vQ v l os j)->vQ v l os k->Le Z U'->AN U' b1 (oA CJ ew ew ew)->R' 4=bi b1->R' 5=.af (k:Int)->R' 6=.af 6->Ok (K (.ret,R',U')) G):
 Ok (dN (ge (gP bf) R U) K) G:=by
 refine bz os.length (by omega) (λk R U=>R 4=bi b1/\R 6=.af 0/\R 7=bi tb/\R 11=bi V.next/\R 49=ov/\R 50=.af (os.length:Int)/\R 51=.af (k:Int)/\∃val,WtI Z V U v l os b1 k val)
  (λr=>(r.1=.exit 0/\r.2.1 4=bi b1/\r.2.1 6=.af 0/\r.2.1 11=bi V.next/\∃val,WtI Z V r.2.2 v l os b1 os.length val)\/(r.1=.ret/\∃k,k<os.length/\(∀j,j<k->¬vQ v l os j)/\vQ v l os k/\Le Z r.2.2/\AN r.2.2 b1 (oA CJ ew ew ew)/\r.2.1 4=bi b1/\r.2.1 5=.af (k:Int)/\r.2.1 6=.af 6))
  ⟨r4,r6,r7,qR,r49,r50,r51,val,h⟩ ?_ ?_ ?_
 ·rintro k R U hk ⟨r4,r6,r7,qR,r49,r50,r51,val,h⟩;unfold gP;have t1:decide ((k:Int)<(os.length:Int))=true:=dj;have t2:=λW'=>bJ W' k 1
  have e3:((k+1:Nat):Int)=(k:Int)+1:=by omega
  obtain⟨p,p1,p2⟩:=gg.gd (ho.mono h.le) hk;obtain⟨x1,x2,-⟩:=NG (hp k hk);obtain⟨b,o,g1,g2,g3⟩:=Mc.at (hl.mono h.le) x1 x2;have s1:=λW'=>uH W' (os.getD k 0) 1
  have lt5:bG (.pointer (some ⟨tb,5,none⟩)) U=some (lv,U):=aZ (az ((h.le.get _ Mp).trans ht)) rfl;obtain⟨bn,bv⟩:=H8 he hv xx (os:=os) k;have anS:A9 v l os (k+1)=(Cg (A9 v l os k) (iJ l (os.getD k 0)).op).1:=rfl;have Gb:vQ v l os k<->0<=(iJ l (os.getD k 0)).to/\(Cg (A9 v l os k) (iJ l (os.getD k 0)).op).2.1≠(iJ l (os.getD k 0)).rp:=Iff.rfl;have anH:=xx (os.getD k 0);generalize iJ l (os.getD k 0)=x at *;have l1:Le U (U.add (.cells (iz x))):=(Le.refl U).add _;have gx:(U.add (.cells (iz x))).get U.next=some (.cells (iz x)):=AW.aH _ _;have nD:=Ej x U;have hUn:=h.n;have hVn:=h.le.next;generalize hU1:U.add (.cells (iz x))=U1 at *;have n1:U1.next=U.next+1:=by rw[<-hU1];rfl
  have md1:=h.md.mono l1;obtain⟨iU,U2,d1,d2,d3⟩:=agJ (hG.mono (h.le.trans l1)) md1.at (hz.trans (h.le.trans l1)) bn anH;have md2:=EF.ofR d3 md1 d2 (λb hb=>.inl (by have:=hz.next;rcases hb with rfl|rfl<;>omega));rw[<-anS]at md2;obtain⟨sv',sq',qq',e0,e1,e2,e4⟩:=md2.parts;obtain⟨U4,U5,k1,k2,k3,k4,k5,k6⟩:=abt U2 (val:=iU) ⟨_,_,_,_,e0,e1,e2,e4⟩ (Cg (A9 v l os k) x.op).2.1;have gx5:=(k3.get _ (by have:=d2.next;omega)).trans ((d2.get _ (by omega)).trans gx);obtain⟨o1,o2,o3,o4⟩:=Tv gx;obtain⟨q1,q2,q3,q4⟩:=Tv gx5;have lv6:=(h.b6.keep (l1.get _ h.n)).ld;have l5:=l1.trans (d2.trans k3);simp only[SX,r7,qR,r49,r50,r51,t1,p1,p2,aJ,aN,lt5,s1,g1,g3 _ rfl,LC,nD,lv6,o1,d1,EA,O7,AW.ar,k1,k2,q3,PL];cases hd:BF x with
  |false=>
   have nb:¬vQ v l os k:=λhb=>by have:=(Gb.1 hb).1;unfold BF at hd;exact absurd this (by simpa using hd)
   obtain⟨c,m1,m2⟩:=h.next (l1.trans d2) k3 md2 nb Nx.1;simp only[SX,k4.ld,m1,t2,ai];exact .inl ⟨ao,r4,r6,r7,qR,r49,r50,by rw[e3];rfl,iU,m2⟩
  |true=>
   have h0:0<=x.to:=by unfold BF at hd;simpa using hd
   by_cases hr:(Cg (A9 v l os k) x.op).2.1=x.rp
   ·have nb:¬vQ v l os k:=λhb=>(Gb.1 hb).2 hr
    obtain⟨c,m1,m2⟩:=h.next (l1.trans d2) k3 md2 nb Nx.1;have e5:∀U,bs Tryz.prog .neq 50 false false (lC (Cg (A9 v l os k) x.op).2.1) (lC x.rp) U=some (.bool false,U):=λU=>by rw[Vt];simp[hr]
    simp only[SX,agq k5,q2,e5,k4.ld,m1,t2,ai];exact .inl ⟨ao,r4,r6,r7,qR,r49,r50,by rw[e3];rfl,iU,m2⟩
   ·have bb:vQ v l os k:=Gb.2 ⟨h0,hr⟩;have agF:=h.z1.keep (l5.get _ (by omega));obtain⟨c,m1,m2⟩:=agF.put aa5;have e5:∀U,bs Tryz.prog .neq 50 false false (lC (Cg (A9 v l os k) x.op).2.1) (lC x.rp) U=some (.bool true,U):=λU=>by rw[Vt];simp[hr]
    simp only[SX,agq k5,q2,e5,r4,agF.ld,m1,ai];refine .inr ⟨by simp,.inr ⟨ao,k,hk,h.ok,bb,(hz.trans (h.le.trans l5)).put Nx.2 _,m2,r4,rfl,rfl⟩⟩
 ·rintro R U ⟨r4,r6,r7,qR,r49,r50,r51,val,h⟩;unfold gP;have t1:decide ((os.length:Int)<(os.length:Int))=false:=cN;simp only[SX,r50,r51,t1,ai];exact⟨by simp,.inl ⟨ao,r4,r6,qR,val,h⟩⟩
 ·rintro⟨e,R,U⟩ (⟨rfl,q4,q6,q11,val,h⟩|⟨rfl,k,hk,h1,h2,h3,h4,q4,q5,q6⟩)
  ·exact hK0 R U val h q4 q6 q11
  ·exact hK1 R U k hk h1 h2 h3 h4 q4 q5 q6
end
section
variable {Z W V:AW} {lv ov sv ev pv:ad} {l:List gn} {os:List Int} {tb b1:Nat} {v:fc} {ρ:Type}
end
section
variable {W:AW} {v:fc} {sv ev ov:ad} {l:List fF} {os:List Int}
def CY{e0:Int}{l:List fF}{a e:Int}(h:HV e0 l a e)(he:e=0):e0=0:=by
 cases h with
 |Hh h1=>exact absurd he h1
 |len=>omega
 |bad h1 h2 h3 h4 h5=>exact absurd he h5
 |ok h1 h2 h3=>exact h1
def ML{U:AW}{b1:Nat}{a e:Int}(hw:BM v l os CJ a e)(aS:Le W U)(hb:W.next<=b1)(h:AN U b1 (oA CJ ew ew ew)):
 ∃U2,gv 7 (bi b1) (oA CJ ew ew ew) U=some (ak,U2)/\iS Tryz.prog [(bi b1,some 34),(.af a,none),(.af e,none)] U2=some (.tuple #[oA CJ ew ew ew,.af a,.af e],U2)/\WtA W W v l os (.tuple #[oA CJ ew ew ew,.af a,.af e]) U2:=by
 obtain⟨c,k1,k2⟩:=h.put aa5;exact⟨_,k1,acv k2,_,_,_,_,hw,rfl,aS.put hb _,Vs _ _⟩
def afg{t o:Option (ad×AW)}(h:Ok t λr=>WtA W W v l os r.1 r.2)(Mi:∀{r},t=some r->o=some (gc W r)):∃q W',o=some (q,W')/\WtA W W v l os q W':=by
 obtain⟨⟨q,U⟩,h1,val,x,a,e,h2,rfl,h3,h4⟩:=h;have hg:=Mi h1;unfold gc at hg;by_cases hp:(bC (.tuple #[val,.af a,.af e])&& !XE (.tuple #[val,.af a,.af e]))=true/\Le W U
 ·rw[aq hp]at hg;refine⟨_,_,hg,val,x,a,e,h2,rfl,.refl _,?_⟩;obtain⟨sv',sq',qq',rfl,m1,m2,m3⟩:=h4;have hp1:=hp.1;obtain⟨⟨a1,c1,rfl,k1⟩,k2⟩:=m1;obtain⟨a2,c2,rfl,k3⟩:=m2;obtain⟨a3,c3,rfl,k4⟩:=m3;cases a1 with
  |some a1=>simp[bC,eQ,bZ]at hp1
  |none=>
  cases a2 with
  |some a2=>simp[bC,eQ,bZ]at hp1
  |none=>
  cases a3 with
  |some a3=>simp[bC,eQ,bZ]at hp1
  |none=>
  exact⟨_,_,_,rfl,⟨⟨none,c1,rfl,k1.imp id λ⟨b,o,cs,e,_⟩=>by cases e⟩,k2⟩,⟨none,c2,rfl,k3.imp id λ⟨b,o,cs,e,_⟩=>by cases e⟩,⟨none,c3,rfl,k4.imp id λ⟨b,o,cs,e,_⟩=>by cases e⟩⟩
 ·rw[ap hp]at hg;exact⟨_,_,hg,val,x,a,e,h2,rfl,h3,h4⟩
def Zb(W:AW)(v:fc)(sv ev:ad):∃V1,V1=(W.add (.cells [.af v.sh,.af v.dS,.af v.g9,sv,ev])).add (.cells qe)/\Le W V1/\V1.next=W.next+2/\V1.get W.next=some (.cells [.af v.sh,.af v.dS,.af v.g9,sv,ev])/\AN V1 (W.next+1) (oA CJ ew ew ew):=
 ⟨_,rfl,((Le.refl W).add _).add _,rfl,(AW.aD _ _ (by rw[AW.ar];omega)).trans (AW.aH _ _),by have:=AN.zero (W.add (.cells [.af v.sh,.af v.dS,.af v.g9,sv,ev]));rwa [AW.ar]at this⟩
def VT(hG:GW W)(h:HiA W v sv ev l)(xx:∀e∈l,e.op.nw<9223372036854775808)(ho:Lg W ov os)(Nb:os.length<=1000):
 ∃q W',bf (.func (.func 8) #[] #[]) [CG v sv ev,ov] W=some (q,W')/\WtA W W v l os q W':=by
 refine afg ?_ yg;unfold tO;obtain⟨V1,yj,le1,n1,g0,z1⟩:=Zb W v sv ev;simp only[SX,EA,AW.ar];rw[<-yj];clear yj;have l5:fd 5 (bi W.next) V1=some (CG v sv ev,V1):=bV (az g0) rfl;obtain⟨q,V2,k1,a,e,p,hA,rfl,le2,hq⟩:=Ze (hG.mono le1) (h.mono le1);have z2:=z1.keep (le2.get _ (by omega));have Rx:=le1.trans le2;rcases hq with⟨he,rfl⟩|⟨rfl,s,tb,lv,pv,hs,rfl,t1,t2,t3,t4,t5⟩
 ·obtain⟨U2,m1,m2,m3⟩:=ML (BM.Da (os:=os) hA he) Rx (by omega) z2;have d:=bm he;simp only[SX,l5,k1,d,z2.ld,m1,m2,ai];exact m3
 obtain⟨rfl,hl4,-⟩:=hA.pn rfl;have d0:decide ((0:Int)=0)=true:=rfl;have PF:=ho.ints;by_cases aim:400<os.length
 ·obtain⟨U2,m1,m2,m3⟩:=ML (BM.H0 hA hs aim) Rx (by omega) z2;have d:decide ((400:Int)<(os.length:Int))=true:=dj;simp only[SX,l5,k1,gg.ln PF,d,z2.ld,m1,m2,ai];exact m3
 have dl:decide ((400:Int)<(os.length:Int))=false:=cN;have Z1:s.ops.length<=400:=eW hs.inv.opk hl4;obtain⟨pa,pe,hp,k2⟩:=MT (W:=V2) (os:=os) (ov:=ov) t3 t2 t4 (ho.mono Rx) (by omega) (by omega) (λj o hj=>(hs.inv.ids j o hj).1);by_cases hpe:pe=0;case neg=>obtain⟨U2,m1,m2,m3⟩:=ML (BM.pick hA hs (by omega) hp hpe) Rx (by omega) z2;have d:=bm hpe;simp only[SX,l5,k1,gg.ln PF,dl,k2,d,z2.ld,m1,m2,ai];exact m3
 subst hpe;obtain⟨rfl,yk,An,hz3⟩:=hp.zero;have hve:(fp v).2=0:=CY hA rfl;have g0':V2.get W.next=_:=(le2.get _ (by omega)).trans g0;have l4:fd 4 (bi W.next) V2=some (kP v sv,V2):=bV (az g0') rfl;obtain⟨u,V3,k3,JI,md⟩:=YL h.aA Rx hve h.small;have md3:EF (λb=>b=W.next+1\/b=V3.next) W V3 u (Dw v):=EF.ofK md (λb hb=>by rcases hb with rfl|rfl;exact .inl ⟨by omega,by have:=le2.next;omega⟩;exact .inr (aM _));obtain⟨sv',sq',qq',e0,e1,e2,e3⟩:=md3.parts;obtain⟨c,m1,m2⟩:=AN.new V3 (val:=u) ⟨_,_,_,_,e0,e1,e2,e3⟩;have ZI:=Rx.trans JI;have n2:=le2.next;have n3:=JI.next;simp only[SX,l5,k1,gg.ln PF,dl,k2,aN,l4,k3,m1];refine Nd (Z:=W) (V:=V3) (tb:=tb) (b1:=W.next+1) (l:=s.ops) (lv:=lv) (ov:=ov) (val:=u) (hG.mono ZI) ZI (t4.mono JI) (PF.mono ZI) ((JI.get _ t2).trans t3) (by omega) (by omega) hve h.small (by omega) (by omega) yk (Vn hs xx)
  ⟨(Le.refl _).add _,by rw[AW.ar];omega,m2,(z2.keep (JI.get _ (by omega))).keep (AW.aD _ _ (by omega)),md3.mono ((Le.refl _).add _),λj hj=>by omega⟩ rfl rfl rfl rfl rfl rfl rfl ?_ ?_
 ·intro R' U' iU hI q4 q6 q11;obtain⟨sv2,sq2,qq2,f0,f1,f2,f3⟩:=hI.md.parts;obtain⟨c2,y1,y2⟩:=hI.z1.put (iU:=iU) ⟨_,_,_,_,f0,f1,f2,f3⟩;simp only[SX,q4,q6,q11,hI.b6.ld,y1,acv y2,ai];exact⟨_,_,_,_,.pn hA hs (by omega) hp hI.ok,rfl,(ZI.trans hI.le).put (by omega) _,(hI.md.put (.inl rfl)).at⟩
 ·intro R' U' k hk h1 h2 h3 h4 q4 q5 q6;simp only[SX,q4,q5,q6,acv h4,ai];exact⟨_,_,_,_,.I3 hA hs (by omega) hp hk h1 h2,rfl,h3,Vs _ _⟩
end
structure WdO (o p:gn):Prop where
 op:p.op=o.op
 rp:p.rp=o.rp
 ret:0<=o.to<->0<=p.to
 to:o.to<=p.to
 fr:p.fr<=o.fr
def WdO.refl(o:gn):WdO o o:=⟨rfl,rfl,Iff.rfl,oe _,oe _⟩
structure Wd (a b:List gn):Prop where
 len:a.length=b.length
 at_:∀(j:Nat) (o p:gn),a[j]? =some o->b[j]? =some p->WdO o p
def rj(ops:List gn)(j:Nat)(k:Int)(r:oE):(rG ops j k r).length=ops.length:=by
 unfold rG;split
 ·exact sI
 ·rfl
def AI(ops:List gn)(j:Nat)(k:Int)(r:oE)(i:Nat):(rG ops j k r)[i]? =(ops[i]?).map λo=>if i=j then{o with to:=k,rp:=r}else o:=by
 unfold rG;by_cases e:j=i
 ·subst e;cases h:ops[j]? with
  |none=>simp only[h,Option.map_none]
  |some o=>have:=(cn.1 h).1;simp only[n8,ba,this,cF]
 ·cases h:ops[j]? with
  |none=>simp only[ap (aV e),Option.map_id']
  |some o=>simp only[n8,ap e,ap (aV e),Option.map_id']
def Wd.rG{a b:List gn}(h:Wd a b)(j:Nat)(k:Int)(r:oE):Wd (rG a j k r) (rG b j k r):=by
 refine⟨by rw[rj,rj,h.len],λi o p h1 h2=>?_⟩;rw[AI]at h1 h2;obtain⟨o0,a1,rfl⟩:=Option.map_eq_some_iff.1 h1;obtain⟨p0,b1,rfl⟩:=Option.map_eq_some_iff.1 h2;have w:=h.at_ i o0 p0 a1 b1;by_cases e:i=j
 ·rw[aq e,aq e];exact⟨w.op,rfl,Iff.rfl,oe _,w.fr⟩
 ·rw[ap e,ap e];exact w
def Wd.snoc{a b:List gn}(h:Wd a b)(x:gn):Wd (a++[x]) (b++[x]):=by
 refine⟨by simp[h.len],λi o p h1 h2=>?_⟩;have hn:=h.len;rcases fB.1 h1 with h3|⟨e1,e3⟩
 ·have:=(cn.1 h3).1;rcases fB.1 h2 with h4|⟨e2,-⟩
  ·exact h.at_ i o p h3 h4
  ·omega
 ·rcases fB.1 h2 with h4|⟨e2,e4⟩
  ·have:=(cn.1 h4).1;omega
  ·rw[e3,e4];exact .refl _
def Ud{s t:TL}(w:Wd s.ops t.ops)(hb:t.busy=s.busy)(k:Nat)(x:fF):dR t x=dR s x/\Wd (gz s k x).ops (gz t k x).ops/\(gz t k x).busy=(gz s k x).busy:=by
 refine⟨by unfold dR;rw[hb,w.len],?_⟩;unfold gz;by_cases hr:x.ret=true
 ·rw[aq hr,aq hr];exact⟨w.rG _ _ _,by simp only[hb]⟩
 ·rw[ap hr,ap hr];exact⟨w.snoc _,by simp only[hb]⟩
def Ph{l l':List fF}{m:Nat}(hl:∀i,m<=i->l'[i]? =l[i]?){s0 t0:TL}(h0:qH l m s0)(h1:qH l' m t0)(w:Wd s0.ops t0.ops)(hb:t0.busy=s0.busy):
 ∀(d:Nat) {s:TL},qH l (m+d) s->∃t,qH l' (m+d) t/\Wd s.ops t.ops/\t.busy=s.busy
 |0,s,hs=>by rw[h0.Fh hs];exact⟨t0,h1,w,hb⟩
 |d+1,s,hs=>by obtain⟨s1,x,a1,a2,a3,rfl⟩:=hs.prev (k:=m+d) rfl;obtain⟨t1,b1,b2,b3⟩:=Ph hl h0 h1 w hb d a1;obtain⟨c1,c2,c3⟩:=Ud b2 b3 (m+d) x;exact⟨_,.succ b1 ((hl (m+d) (Nat.le_add_right _ _)).trans a2) (c1.trans a3),c2,c3⟩
def X3{l l':List fF}{k:Nat}{s:TL}(h:qH l k s):(∀i,i<k->l'[i]? =l[i]?)->qH l' k s:=by
 induction h with
 |zero=>intro _;exact .zero
 | @succ k s x h1 h2 h3 ih=>intro hl;exact .succ (ih λi hi=>hl i (by omega)) ((hl k (by omega)).trans h2) h3
def Gf{s:TL}{x:fF}(hr:x.ret=false)(h1:s.busy x.th=none)(h2:x.id=(s.ops.length:Int)+1)(h3:x.rp=kI)(h4:Gq x.op=0)(h5:1<=x.th)(h6:x.th<=64):dR s x=0:=by unfold dR;rw[bK,ap (by rw[hr];simp),ap];rw[h1];simp[h2,h3,h4]
def HZ{s:TL}{x:fF}(hr:x.ret=true)(h1:s.busy x.th=some x.id)(h2:x.op=op0)(h5:1<=x.th)(h6:x.th<=64):dR s x=0:=by unfold dR;rw[bK,aq hr,aq ⟨h1,h2⟩]
def Uz{l l':List fF}{k:Nat}{x y:fF}(hx:l[k]? =some x)(hy:l[k+1]? =some y)(XB:l'[k]? =some y)(hy':l'[k+1]? =some x)(hl:∀i,i≠k->i≠k+1->l'[i]? =l[i]?)(r1:x.ret=true)(r2:y.ret=false)(Fz:x.th≠y.th)
 {s2:TL}(h:qH l (k+2) s2):∃t,qH l' (k+2) t/\Wd s2.ops t.ops/\t.busy=s2.busy:=by
 obtain⟨s1,y',a1,a2,a3,rfl⟩:=h.prev (k:=k+1) rfl;rw[hy]at a2;injection a2 with a2;subst a2;obtain⟨s0,x',b1,b2,b3,rfl⟩:=a1.prev (k:=k) rfl;rw[hx]at b2;injection b2 with b2;subst b2;obtain⟨c1,c2,c3,c4⟩:=Hd r1 b3;have e1:gz s0 k x=⟨rG s0.ops (x.id-1).toNat k x.rp,s0.Fy++[((s0.sP-1:Nat):Int)],λt=>if t=x.th then none else s0.busy t,s0.sP-1⟩:=by unfold gz;rw[aq r1]
 rw[e1]at a3|-;obtain⟨d1,d2,d3,d4,d5,d6⟩:=Eh r2 a3;simp only[ap (aV Fz)]at d1;simp only[rj]at d2;obtain⟨j,o0,g0,gid,gth,gto⟩:=(b1.inv.bsy _ _).1 c1;have hj:(x.id-1).toNat=j:=by omega
 have hjl:=(cn.1 g0).1;have p0:qH l' k s0:=X3 b1 λi hi=>hl i (by omega) (by omega)
 have p1:qH l' (k+1) (gz s0 k y):=.succ p0 XB (Gf r2 d1 d2 d3 d4 d5 d6);have f1:gz s0 k y=⟨s0.ops++[⟨y.id,y.th,k,-1,y.op,kI⟩],s0.Fy++[((s0.sP+1:Nat):Int)],λt=>if t=y.th then some y.id else s0.busy t,s0.sP+1⟩:=by unfold gz;rw[ap (by rw[r2];simp)]
 rw[f1]at p1;have p2:qH l' (k+2) _:=.succ p1 hy' (HZ r1 (by simp only[ap Fz];exact c1) c2 c3 c4);have f2:∀s:TL,gz s (k+1) x=⟨rG s.ops (x.id-1).toNat ((k+1:Nat):Int) x.rp,s.Fy++[((s.sP-1:Nat):Int)],λt=>if t=x.th then none else s.busy t,s.sP-1⟩:=λs=>by unfold gz;rw[aq r1]
 have f3:∀s:TL,gz s (k+1) y=⟨s.ops++[⟨y.id,y.th,((k+1:Nat):Int),-1,y.op,kI⟩],s.Fy++[((s.sP+1:Nat):Int)],λt=>if t=y.th then some y.id else s.busy t,s.sP+1⟩:=λs=>by unfold gz;rw[ap (by rw[r2];simp)]
 rw[f2]at p2;rw[f3];refine⟨_,p2,?_,?_⟩
 ·rw[hj];refine⟨by simp[rj],λi o p q1 q2=>?_⟩;simp only at q1 q2;rw[AI]at q2;obtain⟨p',q3,rfl⟩:=Option.map_eq_some_iff.1 q2;rcases fB.1 q1 with q1|⟨q4,rfl⟩
  ·rw[AI]at q1;obtain⟨o',q5,rfl⟩:=Option.map_eq_some_iff.1 q1;have q6:p'=o':=by
    rcases fB.1 q3 with q3|⟨q7,-⟩
    ·rw[q5]at q3;injection q3 with q3;exact q3.symm
    ·have:=(cn.1 q5).1;omega
   subst q6;by_cases e:i=j
   ·rw[aq e,aq e];exact⟨rfl,rfl,by simp only;omega,by simp only;omega,oe _⟩
   ·rw[ap e,ap e];exact .refl _
  ·rw[rj]at q4;rcases fB.1 q3 with q3|⟨q7,rfl⟩
   ·have:=(cn.1 q3).1;omega
   ·rw[bK];exact⟨rfl,rfl,Iff.rfl,oe _,by simp only;omega⟩
 ·funext t;simp only;by_cases e1:t=x.th
  ·rw[aq e1,ap (λe=>Fz (e1.symm.trans e)),aq e1]
  ·rw[ap e1,ap e1]
def CM{l:List gn}{i:Nat}(hi:i<l.length):l.getD i ho0=l[i]:=by simp[List.getD,hi]
def Wd.iJ{a b:List gn}(h:Wd a b)(y:Int):WdO (iJ a y) (iJ b y):=by
 unfold Go.Proofs.YtmaoneengdafhaaGreatDoor.iJ;by_cases hy:(y-1).toNat<a.length
 ·have h2:(y-1).toNat<b.length:=by rw[<-h.len];exact hy
  rw[CM hy,CM h2];exact h.at_ _ _ _ (bS hy) (bS h2)
 ·rw[lh,lh,iE (by omega),iE (by have:=h.len;omega)];exact .refl _
def Wd.yh{a b:List gn}(h:Wd a b)(os:List Int)(i:Nat):yh b os i=yh a os i:=by unfold Go.Proofs.YtmaoneengdafhaaGreatDoor.yh;rw[h.len]
def Wd.pk2{a b:List gn}(h:Wd a b){os:List Int}(h2:Pk2 b os):Pk2 a os:=by
 obtain⟨j,j1,j2,j3⟩:=h2;have j4:j<a.length:=by rw[h.len];exact j1
 refine⟨j,j4,?_,j3⟩;rw[CM j1]at j2;rw[CM j4];exact(h.at_ j _ _ (bS j4) (bS j1)).ret.2 j2
def Wd.pk3{a b:List gn}(h:Wd a b){os:List Int}{i:Nat}(h2:Sn b os i):Sn a os i:=by obtain⟨k,k1,k2,k3⟩:=h2;refine⟨k,k1,k2,?_⟩;have w1:=h.iJ (os.getD k 0);have w2:=h.iJ (os.getD i 0);unfold KG at k3|-;simp only[a8,gG]at k3|-;have:=w1.to;have:=w2.fr;exact⟨w1.ret.2 k3.1,by omega⟩
def Wd.A9{a b:List gn}(h:Wd a b)(v:fc)(os:List Int):∀k,A9 v b os k=A9 v a os k
 |0=>rfl
 |k+1=>by show(Cg (Go.Proofs.YtmaoneengdafhaaGreatDoor.A9 v b os k) _).1=(Cg (Go.Proofs.YtmaoneengdafhaaGreatDoor.A9 v a os k) _).1;rw[h.A9 v os k,(h.iJ _).op]
def Wd.bad{a b:List gn}(h:Wd a b){v:fc}{os:List Int}{k:Nat}(hb:vQ v b os k):vQ v a os k:=by unfold vQ at hb|-;rw[h.A9 v os k,(h.iJ _).op,(h.iJ _).rp]at hb;exact⟨(h.iJ _).ret.2 hb.1,hb.2⟩
def BM.inv{v:fc}{l:List fF}{os:List Int}{x:cK}{a:Int}(h:BM v l os x a 0):∃s,HV (fp v).2 l 0 0/\qH l l.length s/\os.length<=400/\NO s.ops os 0 0/\(∀j,j<os.length->¬vQ v s.ops os j)/\x=A9 v s.ops os os.length/\a=0:=by
 generalize he:(0:Int)=e at h;cases h with
 |Da h1 h2=>exact absurd he.symm h2
 |H0 h1 h2 h3=>exact absurd he (by decide)
 |pick h1 h2 h3 h4 h5=>exact absurd he.symm h5
 |I3=>exact absurd he (by decide)
 |pn h1 h2 h3 h4 h5=>exact⟨_,h1,h2,h3,h4,h5,rfl,rfl⟩
def SI{v:fc}{l l':List fF}{os:List Int}{st:cK}{a:Int}{k:Nat}{x y:fF}(h:BM v l os st a 0)(hx:l[k]? =some x)(hy:l[k+1]? =some y)(XB:l'[k]? =some y)(hy':l'[k+1]? =some x)(hl:∀i,i≠k->i≠k+1->l'[i]? =l[i]?)
 (hn:l'.length=l.length)(r1:x.ret=true)(r2:y.ret=false)(Fz:x.th≠y.th):BM v l' os st 0 0:=by
 obtain⟨s,h1,h2,h3,h4,h5,rfl,rfl⟩:=h.inv;obtain⟨h6,h7,-⟩:=h1.pn rfl;have hk:=(cn.1 hy).1;obtain⟨s2,q2⟩:=h2.pre (m:=k+2) (by omega);obtain⟨t2,u1,u2,u3⟩:=Uz hx hy XB hy' hl r1 r2 Fz q2;obtain⟨d,hd⟩:∃d,l.length=k+2+d:=⟨l.length-(k+2),by omega⟩;rw[hd]at h2;obtain⟨t,t1,t3,-⟩:=Ph (λi hi=>hl i (by omega) (by omega)) q2 u1 u2 u3 d h2;rw[<-hd,<-hn]at t1;obtain⟨-,p1,p2,p3⟩:=h4.zero;have:=BM.pn (v:=v) (l:=l') (os:=os) (s:=t) (.ok (CY h1 rfl) (by omega) t1) t1 h3 (.pn (λj hj=>(t3.yh os j).trans (p1 j hj)) (λhp=>p2 (t3.pk2 hp)) (λj hj hp=>p3 j hj (t3.pk3 hp))) (λj hj hb=>h5 j hj (t3.bad hb));rwa [t3.A9]at this
def OK{cs:List ad}{o:Nat}{l:List fF}(h:∀i (hi:i<l.length),oP 24 jJ cs (o+i*24) l[i]):∀n,n<=l.length->(cs.drop o).take (n*24)=(l.take n).flatMap jJ
 |0,_=>by simp
 |n+1,hn=>by
  have ih:=OK h n (by omega);have hx:((cs.drop o).drop (n*24)).take 24=jJ l[n]:=by rw[pM];exact h n (by omega)
  rw[Nat.succ_mul,List.take_add,ih,hx,lW (show n<l.length by omega),jg];simp
def ain{W:AW}{v:ad}{l:List fF}(h:RV W v l):Rd W 24 jJ v l:=by
 obtain⟨a,c,rfl,h⟩:=h;refine⟨a,c,rfl,?_⟩;rcases h with h|⟨b,o,cs,h1,h2,h3,h4⟩
 ·exact .inl h
 ·exact .inr ⟨b,o,cs,h1,h2,h3,by have:=OK h4 l.length (aM _);rwa [cY]at this⟩
def alf:mq Tryz.prog #[25,25] 24 176=true:=by kernel_rfl
def ad4(W:AW):dA Tryz.prog 25 0 [] W=some (.slice (some ⟨W.next,0,none⟩) 0 0,W.add (.cells [])):=aL (by kernel_rfl) rfl
def ahi{W:AW}{v:ad}{l:List fF}(h:RV W v l)(hl:l.length<=1000):∃u W',dB Tryz.prog (W.add (.cells [])) #[25,25] (.slice (some ⟨W.next,0,none⟩) 0 0) v=some (u,W')/\Le W W'/\EL W.next W' 24 jJ u l:=by have hE:EL W.next (W.add (.cells [])) 24 jJ (.slice (some ⟨W.next,0,none⟩) 0 0) []:=EL.ajY _ _ _ _ _;obtain⟨u,W',k1,k2,k3,k4⟩:=hE.app alf kX XK ((ain h).keep ((Le.refl W).add (.cells []))) (by simp;omega) (by simp;omega) (by rw[AW.ar];omega);rw[lM]at k2;exact⟨u,W',k1,⟨by rw[AW.ar]at k3;omega,λb hb=>(k4 b hb).trans (AW.aD _ _ (by omega))⟩,k2⟩
abbrev Js(v:fc)(sv ev:ad):List ad:=[.af v.sh,.af v.dS,.af v.g9,sv,ev]
def UW:fc:=⟨0,0,0,[]⟩
abbrev FD:ad:=.slice none 0 0
def Qa{lo:Nat}{W W':AW}{u:ad}{l:List fF}(h:EL lo W' 24 jJ u l)(hs:bZ u=true):EL lo W 24 jJ u l:=by
 rcases h with⟨rfl,rfl|⟨B,rfl⟩⟩|⟨h0,B,c,i1,i2,rfl,hc,i4⟩
 ·exact EL.nil _ _ _ _
 ·simp[bZ]at hs
 ·simp[bZ]at hs
def S1{lo:Nat}{W:AW}{u:ad}{l:List fF}(h:EL lo W 24 jJ u l):Eng.one u=true:=by rcases h with⟨rfl,rfl|⟨B,rfl⟩⟩|⟨h0,B,c,i1,i2,rfl,hc,i4⟩<;>rfl
def aii(W:AW):cl Tryz.prog 27 W=some (.pointer (some ⟨W.next,0,none⟩),W.add (.cells (Js UW FD FD))):=aL (by kernel_rfl) rfl
def acs(v:fc)(sv:ad)(a:Option Addr)(n c:Nat)(W:AW):dX Tryz.prog 27 [(0,kP v sv),(1,.slice a n c)] W=some (CG v sv (.slice a n c),W):=aL (by kernel_rfl) rfl
def alD(x:ad)(W:AW):fR Tryz.prog 27 x W=fd 5 x W:=by kernel_rfl
def agL{W:AW}{b:Nat}{v0 v:fc}{s0 e0 sv u:ad}(h:W.get b=some (.cells (Js v0 s0 e0)))(h1:Eng.one sv=true)(h2:Eng.one u=true):gv 5 (.pointer (some ⟨b,0,none⟩)) (CG v sv u) W=some (ak,W.put b (.cells (Js v sv u))):=
 kJ h rfl rfl (by simp[h1,h2,gH])
def OF{W:AW}{b:Nat}{v:fc}{sv u:ad}(x:W.get b=some (.cells (Js v sv u))):fd 5 (.pointer (some ⟨b,0,none⟩)) W=some (CG v sv u,W):=bV (az x) rfl
def NK{W:AW}{b:Nat}{v:fc}{sv u:ad}(x:W.get b=some (.cells (Js v sv u))):bG (.pointer (some ⟨b,4,none⟩)) W=some (u,W):=xi x rfl
def ac7{v:fc}{sv:ad}(h:tT sv sv=true):ff (kP v sv) (kP v sv)=true:=ky (by simp[OV,h,II])
def an3(v:fc)(sv ev:ad)(W:AW):∃W1 W2,nG (CG v sv ev) W=some (.pointer (some ⟨W.next,0,none⟩),W1)/\cl Tryz.prog 27 W1=some (.pointer (some ⟨W.next+1,0,none⟩),W2)/\Le W W2/\W2.next=W.next+2/\W2.get W.next=some (.cells (Js v sv ev))/\W2.get (W.next+1)=some (.cells (Js UW FD FD)):=
 ⟨_,_,ahV _ _ _ _,by rw[aii,AW.ar],((Le.refl _).add _).add _,by rw[AW.ar,AW.ar],by rw[AW.aD _ _ (by rw[AW.ar];omega),AW.aH],by rw[show W.next+1=(W.add (.cells (Js v sv ev))).next by rw[AW.ar],AW.aH]⟩
def Kz{W:AW}{b:Nat}{v:fc}{sv u:ad}(x:W.get b=some (.cells (Js v sv u))):fd 4 (.pointer (some ⟨b,0,none⟩)) W=some (kP v sv,W):=bV (az x) rfl
def ON{W:AW}{sv:ad}{l:List kh}(h:iO W sv l)(h0:l≠[]):tT sv sv=true/\Eng.one sv=true:=by obtain⟨-,a,c,rfl,-,h⟩:=h;obtain⟨b,o,rfl⟩:=h h0;exact⟨wd _ _ _ _,rfl⟩
def Td{W:AW}{v:fc}{sv ev:ad}{l:List fF}(h:iO W sv v.aA)(h0:v.aA≠[])(he:RV W ev l)(hl:l.length<=1000):∃u W',bf (.func (.func 11) #[] #[]) [CG v sv ev] W=some (CG v sv u,W')/\Le W W'/\EL W.next W' 24 jJ u l:=by
 obtain⟨hvs,CA⟩:=ON h h0;have sX:Ok (ye bf (CG v sv ev) W) λr=>∃u,r.1=CG v sv u/\Le W r.2/\EL W.next r.2 24 jJ u l:=by unfold ye;obtain⟨W1,W2,k1,k2,aS,n2,g1,g2⟩:=an3 v sv ev W;obtain⟨u,W3,a1,a2,a3⟩:=ahi (he.mono aS) hl;have e4:bG (.pointer (some ⟨W.next,4,none⟩)) (W2.add (.cells []))=some (ev,W2.add (.cells [])):=NK (by rw[AW.aD _ _ (by omega)];exact g1);have x1:=(a2.get W.next (by omega)).trans g1;have x2:=(a2.get (W.next+1) (by omega)).trans g2;have hv:=ac7 (v:=v) hvs;have hn:=a2.next;obtain⟨ua,uc,rfl⟩:=a3.slice;simp only[SX,k1,k2,aN,Kz g1,ad4,e4,a1,Kz x1,dP,hv,lX,acs,agL x2 CA (S1 a3),zD,alD,OF (AW.aW _ _ _),bL,ai];exact⟨_,rfl,(aS.trans a2).put (by omega) _,(a3.keep (by rw[AW.bh];omega) λb hb _=>AW.ay _ _ (by omega)).low (by omega)⟩
 obtain⟨q,W',h1,u,rfl,h2,h3⟩:=KH (Q:=λq W'=>∃u,q=CG v sv u/\Le W W'/\EL W.next W' 24 jJ u l) sX F9 (λq W' ⟨u,e1,h2,h3⟩ aS hp=>by subst e1;exact⟨u,rfl,Le.refl _,Qa h3 (by simp[bC,eQ]at hp;exact hp.2.2.2.2)⟩);exact⟨u,W',h1,h2,h3⟩
def Km{m:List fF}{i:Nat}(hi:i<m.length)(y:fF):(m.set i y).flatMap jJ=(m.take i).flatMap jJ++(jJ y++(m.drop (i+1)).flatMap jJ):=by rw[CZ,aq hi,jg,gU]
def wz{m:List fF}{i:Nat}(hi:i<m.length):m.flatMap jJ=(m.take i).flatMap jJ++(jJ m[i]++(m.drop (i+1)).flatMap jJ):=by have h:=Km hi m[i];rwa [List.set_getElem_self]at h
def Ik{m:List fF}{i:Nat}(hi:i<=m.length):((m.take i).flatMap jJ).length=i*24:=by rw[cD kX,fu,nZ hi]
def VB{U:AW}{B:Nat}{m:List fF}{i:Nat}(hB:U.get B=some (.cells (m.flatMap jJ)))(hi:i<m.length):fd 24 (.pointer (some ⟨B,i*24,none⟩)) U=some (XA m[i],U):=by
 have e0:((m.flatMap jJ).drop (i*24)).take 24=jJ m[i]:=by rw[wz hi,<-Ik (m:=m) (i:=i) (by omega),sS,<-kX m[i],sV]
 have:=bV (n:=24) (o:=i*24) (az hB) (by rw[e0];rfl);rw[e0]at this;exact this
def aaw{U:AW}{B:Nat}{m:List fF}{i:Nat}(hB:U.get B=some (.cells (m.flatMap jJ)))(hi:i<m.length)(y:fF):gv 24 (.pointer (some ⟨B,i*24,none⟩)) (XA y) U=some (ak,U.put B (.cells ((m.set i y).flatMap jJ))):=by have hl:=Ik (m:=m) (i:=i) (by omega);rw[wz hi]at hB;rw[AV (n:=24) (v:=XA y) hB rfl (by rw[cT,cT,hl,kX];show i*24+24<=_;omega) rfl];have:=Do ((m.take i).flatMap jJ) (jJ m[i]) ((m.drop (i+1)).flatMap jJ) (jJ y) 0 (by rw[kX,kX];omega);rw[hl,La (by rw[kX,kX])]at this;rw[Km hi];exact iH (λc=>some (ak,U.put B (.cells c))) this
def aiO(U:AW)(x y:fF):∃U1 U2 U3 U4,cl Tryz.prog 52 U=some (bi U.next,U1)/\cl Tryz.prog 52 U1=some (bi (U.next+1),U2)/\gv 24 (bi U.next) (XA x) U2=some (ak,U3)/\gv 24 (bi (U.next+1)) (XA y) U3=some (ak,U4)/\Le U U3/\Le U U4/\U4.next=U.next+2/\U4.get U.next=some (.cells (jJ x))/\U4.get (U.next+1)=some (.cells (jJ y)):=by obtain⟨z,hz,hzl⟩:∃z:List ad,(∀W:AW,cl Tryz.prog 52 W=some (bi W.next,W.add (.cells z)))/\z.length=24:=⟨_,abl,rfl⟩;have g1:((U.add (.cells z)).add (.cells z)).get U.next=some (.cells z):=(AW.aD _ _ (by rw[AW.ar];omega)).trans (AW.aH _ _);have g2:(((U.add (.cells z)).add (.cells z)).put U.next (.cells (jJ x))).get (U.next+1)=some (.cells z):=(AW.ay _ _ (by omega)).trans (by have:=AW.aH (U.add (.cells z)) (.cells z);rwa [AW.ar]at this);refine⟨_,_,_,_,hz U,by rw[hz,AW.ar],kJ (vs:=(jJ x).toArray) g1 hzl rfl rfl,kJ (vs:=(jJ y).toArray) g2 hzl rfl rfl,(((Le.refl U).add _).add _).put (aM _) _,((((Le.refl U).add _).add _).put (aM _) _).put (by omega) _,by simp only[AW.bh,AW.ar],(AW.ay _ _ (by omega)).trans (AW.aW _ _ _),AW.aW _ _ _⟩
def afX{n:Int}(h0:0<=n)(h1:n<=65535)(W:AW):o8 Tryz.prog 42 3 (.int .u16 n) W=some (.af n,W):=by have:o8 Tryz.prog 42 3 (.int .u16 n) W=some (.af (IntKind.i64.wrap n),W):=aL (by kernel_rfl) rfl;rw[this,rC (by omega) (by omega)]
def PA:((#[40]:Array ae)[0]?).bind Tryz.prog.underlying=some (.slice 42):=by kernel_rfl
def U16.get{W:AW}{v:ad}{l:List Int}(h:Row W 1 (oQ .u16) v l){i:Nat}(hi:i<l.length):
 ∃p,(∀W' k,nR 1 v (.int k (i:Int)) W'=some (p,W'))/\∀W',Le W W'->bG p W'=some (.int .u16 l[i],W'):=by
 obtain⟨b,o,cs,h1,h2,h3,h4⟩:=h.elem hi;exact⟨_,h1,λW' aS=>aZ (by rw[aS.aC h2];exact h3) h4⟩
def ZZ{x:Int}{n:Nat}(hx:0<=x)(hn:1<n):∃k:Nat,k+1<n/\x.tmod ((n:Int)-1)=(k:Int):=by refine⟨x.toNat % (n-1),by have:=Nat.mod_lt x.toNat (show n-1>0 by omega);omega,?_⟩;rw[Int.ofNat_tmod,Int.toNat_of_nonneg hx,show((n-1:Nat):Int)=(n:Int)-1 by omega]
def JG(e:fF):ff (XA e) (XA e)=true:=ky (by simp[OV,tT])
structure Ua (X U:AW) (wb B:Nat) (v:fc) (sv u:ad) (m:List fF):Prop where
 le:Le X U
 w:U.get wb=some (.cells (Js v sv u))
 b:U.get B=some (.cells (m.flatMap jJ))
 n:X.next<=B/\B<wb/\wb<U.next
def Ua.mono{X U U':AW}{wb B:Nat}{v:fc}{sv u:ad}{m:List fF}(h:Ua X U wb B v sv u m)(aS:Le U U'):Ua X U' wb B v sv u m:=
 have:=h.n
 have:=aS.next
 ⟨h.le.trans aS,(aS.get _ (by omega)).trans h.w,(aS.get _ (by omega)).trans h.b,by omega⟩
def Ua.set{X U:AW}{wb B:Nat}{v:fc}{sv u:ad}{m m':List fF}(h:Ua X U wb B v sv u m):Ua X (U.put B (.cells (m'.flatMap jJ))) wb B v sv u m':=
 have:=h.n
 ⟨h.le.put (by omega) _,(AW.ay _ _ (by omega)).trans h.w,AW.aW _ _ _,by rw[AW.bh];omega⟩
section
variable {X:AW} {v:fc} {sv u Su ov:ad} {os ts:List Int} {l:List fF} {wb B sb c:Nat} {st:cK} {ρ:Type}
def R7{R:ah.Fr}{U:AW}{K:LT->Option ρ}{G:ρ->Prop}(oX:Row X 1 (oQ .u16) Su ts)(hts:ts.length<=60)(Mp:∀t∈ts,0<=t/\t<=65535)(Z6:l.length<=1000)(hu:u=.slice (some ⟨B,0,none⟩) l.length c)
 (h:Ua X U wb B v sv u l)(hw:BM v l os st 0 0)(xx:∀e∈l,e.op.nw<9223372036854775808)(r1:R 1=ov)(r2:R 2=Su)(r7:R 7=bi sb)(sr:R 10=bi wb)(qR:R 11=.af 0)
 (hK:∀R' U' m,Ua X U' wb B v sv u m->BM v m os st 0 0->m.length=l.length->(∀e∈m,e.op.nw<9223372036854775808)->R' 1=ov->R' 7=bi sb->R' 10=bi wb->Ok (K (.exit 0,R',U')) G):
 Ok (dN (ge (cU bf) R U) K) G:=by
 refine bz ts.length (by omega) (λi R U=>R 1=ov/\R 2=Su/\R 7=bi sb/\R 10=bi wb/\R 11=.af (i:Int)/\∃m,Ua X U wb B v sv u m/\BM v m os st 0 0/\m.length=l.length/\∀e∈m,e.op.nw<9223372036854775808)
  (λr=>r.1=.exit 0/\r.2.1 1=ov/\r.2.1 7=bi sb/\r.2.1 10=bi wb/\∃m,Ua X r.2.2 wb B v sv u m/\BM v m os st 0 0/\m.length=l.length/\∀e∈m,e.op.nw<9223372036854775808)
  ⟨r1,r2,r7,sr,qR,l,h,hw,rfl,xx⟩ ?_ ?_ ?_
 ·rintro i R U hi ⟨r1,r2,r7,sr,qR,m,h,hw,Jx,xx⟩;unfold cU;have t1:decide ((i:Int)<(ts.length:Int))=true:=dj;have t2:=λW'=>bJ W' i 1
  have e3:((i+1:Nat):Int)=(i:Int)+1:=by omega
  have ln:=λU'=>Row.len oX PA U' 3 #[false]
  have lv:∀{U':AW} {m':List fF},Ua X U' wb B v sv u m'->bG (.pointer (some ⟨wb,4,none⟩)) U'=some (u,U'):=λh=>NK h.w
  have lu:∀U':AW,aR Tryz.prog .len #[25] 3 #[false] [u] U'=some (.af (m.length:Int),U'):=λU'=>by have:=h.n;rw[hu,<-Jx];exact Row.len (W:=U) (z:=24) (at_:=oP 24 jJ) (l:=m) ⟨_,_,rfl,.inr ⟨B,0,_,rfl,by omega,az h.b,λj hj=>by have:=rM (f:=jJ) kX m[j] ((m.take j).flatMap jJ) ((m.drop (j+1)).flatMap jJ);rw[Ik (by omega),<-wz hj]at this;rw[aN];exact this⟩⟩ BQ U' 3 #[false]
  by_cases c1:1<m.length;case neg=>have d1:decide ((1:Int)<(m.length:Int))=false:=cN;simp only[SX,r2,sr,qR,ln,t1,aN,lv h,lu,d1,ai];exact .inr ⟨by simp,ao,r1,r7,sr,m,h,hw,Jx,xx⟩
  have d1:decide ((1:Int)<(m.length:Int))=true:=dj;obtain⟨p,p1,p2⟩:=U16.get oX hi;obtain⟨b0,b1⟩:=Mp _ (ez hi);obtain⟨k,hk,ek⟩:=ZZ b0 c1;have s1:=λW'=>uH W' (m.length:Int) 1
  have s2:∀W',bs Tryz.prog .rem 3 false false (.af ts[i]) (.af ((m.length:Int)-1)) W'=some (.af (k:Int),W'):=λW'=>by rw[TD (by omega),ek]
  have s3:=λW'=>bJ W' k 1
  have e4:(k:Int)+1=((k+1:Nat):Int):=by omega
  rw[e4]at s3;have x1:∀W',nR 24 u (.af (k:Int)) W'=some (.pointer (some ⟨B,k*24,none⟩),W'):=λW'=>by rw[hu,rT (by omega),aN]
  have x2:∀W',nR 24 u (.af ((k+1:Nat):Int)) W'=some (.pointer (some ⟨B,(k+1)*24,none⟩),W'):=λW'=>by rw[hu,rT (by omega),aN]
  have hx:m[k]? =some m[k]:=bS (by omega);have hy:m[k+1]? =some m[k+1]:=bS hk;have l1:=VB h.b (show k<m.length by omega);have l2:=VB h.b hk;obtain⟨U1,U2,U3,U4,a1,a2,a3,a4,JI,le4,n4,g1,g2⟩:=aiO U m[k] m[k+1];have h3:=h.mono JI;have h4:=h.mono le4;have l3:=VB h3.b hk;have vu:ff u u=true:=by rw[hu];exact kB _ _ _ _
  generalize hxe:m[k]=x at *;generalize hye:m[k+1]=y at *;have q1:=Dj g1;have q2:=Ji g1;have q3:=Dj g2;have q4:=Ji g2;have q5:=Hq g1;have q6:=Hq g2;simp only[SX,r2,sr,qR,ln,t1,aN,lv h,lu,d1];simp only[SX,p1,p2 _ h.le,afX b0 b1,lv h,lu,s1,s2,x1,l1];simp only[SX,aN,s3,x2,l2,a1,a2,a3];simp only[SX,dP,l3,lv h3,JG,vu,lX,a4];simp only[SX,q1];cases Xq:x.ret with
  |false=>simp only[SX,t2,ai];exact .inl ⟨ao,r1,r2,r7,sr,by rw[e3];rfl,m,h4,hw,Jx,xx⟩
  |true=>
  cases M8:y.ret with
  |true=>simp only[SX,q3,M8,t2,ai];exact .inl ⟨ao,r1,r2,r7,sr,by rw[e3];rfl,m,h4,hw,Jx,xx⟩
  |false=>
  by_cases Fz:x.th=y.th
  ·simp only[SX,q3,M8,q2,q4,Fz,t2,ai];exact .inl ⟨ao,r1,r2,r7,sr,by rw[e3];rfl,m,h4,hw,Jx,xx⟩
  ·have Xs:k<m.length:=by omega
   have z1:=aaw h4.b Xs y;have h5:=h4.set (m':=m.set k y);have RN:k+1<(m.set k y).length:=by rw[sI];exact hk
   have z2:=aaw h5.b RN x;have h6:=h5.set (m':=(m.set k y).set (k+1) x);have n4':=h4.n;have g5:(U4.put B (.cells ((m.set k y).flatMap jJ))).get U.next=some (.cells (jJ x)):=(AW.ay _ _ (by have:=h.n;omega)).trans g1;have q7:=Hq g5;have dth:decide (x.th=y.th)=false:=bm Fz;have hw':BM v ((m.set k y).set (k+1) x) os st 0 0:=SI hw hx hy
    (by rw[xP (by omega),vd Xs])
    (by rw[vd RN])
    (λj j1 j2=>by rw[xP (aV j2),xP (aV j1)])
    (by simp) Xq M8 Fz
   have hm':∀e∈(m.set k y).set (k+1) x,e.op.nw<9223372036854775808:=λe he=>by
    rcases List.mem_or_eq_of_mem_set he with he|rfl
    ·rcases List.mem_or_eq_of_mem_set he with he|rfl
     ·exact xx e he
     ·exact xx _ (qt hy)
    ·exact xx _ (qt hx)
   simp only[SX,q3,M8,q2,q4,dth,lv h4,q6,q5,x1,z1,q7,dP,JG,lv h5,vu,lX,x2,z2,t2,ai];exact .inl ⟨ao,r1,r2,r7,sr,by rw[e3];rfl,_,h6,hw',by simp[Jx],hm'⟩
 ·rintro R U ⟨r1,r2,r7,sr,qR,m,h,hw,Jx,xx⟩;unfold cU;have t1:decide ((ts.length:Int)<(ts.length:Int))=false:=cN;have ln:=λU'=>Row.len oX PA U' 3 #[false]
  simp only[SX,r2,qR,ln,t1,ai];exact⟨by simp,ao,r1,r7,sr,m,h,hw,Jx,xx⟩
 ·rintro⟨e,R,U⟩ ⟨rfl,q1,q7,Wa,m,h,hw,Jx,xx⟩;exact hK R U m h hw Jx xx q1 q7 Wa
end
end Go.Proofs.YtmaoneengdafhaaGreatDoor
namespace Go.Proofs.YtmaoneengdafhaaGreatDoor
open Go Go.Eng Go.RowKit
def Zo(l c:Nat):tT (.slice none l c) (.slice none l c)=true:=by simp[tT]
def ZM{W:AW}{n:Nat}{t e:ae}{v:ad}(h:DR Tryz.prog W (n+1) t [v])(ht:Tryz.prog.underlying t=some (.slice e)):∃a l c,v=.slice a l c/\(a=none\/∃b,a=some ⟨b,0,none⟩):=by obtain⟨a,len,cap,e1,-,-,h3,-⟩:=h.ads ht;injection e1 with e1;exact⟨a,len,cap,e1,h3⟩
def ag2{v:ad}(h:∃a l c,v=.slice a l c/\(a=none\/∃b,a=some ⟨b,0,none⟩)):tT v v=true/\Eng.one v=true:=by
 obtain⟨a,l,c,rfl,rfl|⟨b,rfl⟩⟩:=h
 ·exact⟨Zo _ _,rfl⟩
 ·exact⟨wd _ _ _ _,rfl⟩
def aef{W:AW}{n:Nat}{c:List ad}(h:DR Tryz.prog W (n+3) 63 c):∃s:kh,∀pre post,S9 W (pre++(c++post)) pre.length s:=by
 obtain⟨c1,c2,rfl,h1,h2⟩:=(h.struct Tryz.underlying63).cons;obtain⟨c3,c4,rfl,h3,h4⟩:=h2.cons;obtain⟨c5,c6,rfl,h5,h6⟩:=h4.cons;obtain rfl:=h6.nil;obtain⟨s,rfl,_⟩:=h1.str Tryz.underlying9;obtain⟨rv,zs,rfl,hz,_⟩:=h3.ints Tryz.underlying28 Tryz.underlying3 (by kernel_rfl);obtain⟨q,rfl⟩:=h5.int Tryz.underlying3;refine⟨⟨s.data.toList,zs,q⟩,λpre post=>⟨?_,?_,rv,?_,hz,ag2 (ZM h3 Tryz.underlying28)⟩⟩
 ·rw[qG (by omega),Kq];simp
 ·rw[qG (by omega),C0];rfl
 ·rw[qG (by omega),C0];rfl
def aem{W:AW}{n:Nat}{c:List ad}(h:DR Tryz.prog W (n+5) 24 c):∃(v:fc) (sv:ad),c=[.af v.sh,.af v.dS,.af v.g9,sv]/\iO W sv v.aA:=by obtain⟨c1,c2,rfl,h1,h2⟩:=(h.struct Tryz.underlying24).cons;obtain⟨c3,c4,rfl,h3,h4⟩:=h2.cons;obtain⟨c5,c6,rfl,h5,h6⟩:=h4.cons;obtain⟨c7,c8,rfl,h7,h8⟩:=h6.cons;obtain rfl:=h8.nil;obtain⟨a,rfl⟩:=h1.int Tryz.underlying3;obtain⟨b,rfl⟩:=h3.int Tryz.underlying2;obtain⟨d,rfl⟩:=h5.int Tryz.underlying2;obtain⟨sv,l,rfl,r1,a',c',r2,r3,r4,r5⟩:=h7.row Tryz.underlying22 (at_:=S9 W) (λc _ hc=>aef hc);exact⟨⟨a,b,d,l⟩,sv,rfl,r1,a',c',r2,.inl ⟨r3,r4⟩,r5⟩
def YW{W:AW}{n:Nat}{t:ae}{cs:List ad}(h:DR Tryz.prog W (n+1) t cs)(ht:Tryz.prog.underlying t=some .bool):∃b,cs=[.bool b]:=by unfold DR at h;rw[ht]at h;exact h
def aa2{W:AW}{n:Nat}{c:List ad}(h:DR Tryz.prog W (n+2) 46 c):∃a b d e:Int,c=[.int .u32 a,.int .u32 b,.int .u64 d,.int .u64 e]:=by obtain⟨c1,c2,rfl,h1,h2⟩:=(h.struct Tryz.underlying46).cons;obtain⟨c3,c4,rfl,h3,h4⟩:=h2.cons;obtain⟨c5,c6,rfl,h5,h6⟩:=h4.cons;obtain⟨c7,c8,rfl,h7,h8⟩:=h6.cons;obtain rfl:=h8.nil;obtain⟨a,rfl⟩:=h1.int Tryz.underlying43;obtain⟨b,rfl⟩:=h3.int Tryz.underlying43;obtain⟨d,rfl⟩:=h5.int Tryz.underlying44;obtain⟨e,rfl⟩:=h7.int Tryz.underlying44;exact⟨a,b,d,e,rfl⟩
def aet{W:AW}{n:Nat}{t:ae}{cs:List ad}(h:DR Tryz.prog W (n+1) t cs)(ht:Tryz.prog.underlying t=some (.int .i64)):∃m,cs=[.af m]/\m<9223372036854775808:=by unfold DR at h;rw[ht]at h;obtain⟨m,h1,-,h3⟩:=h;have:IntKind.i64.max=9223372036854775807:=rfl;exact⟨m,h1,by omega⟩
def aia{W:AW}{n:Nat}{c:List ad}(h:DR Tryz.prog W (n+3) 48 c):∃o:jS,c=(Jm o).cells.toList/\o.nw<9223372036854775808:=by obtain⟨c1,r1,rfl,h1,h⟩:=(h.struct Tryz.underlying48).cons;obtain⟨c2,r2,rfl,h2,h⟩:=h.cons;obtain⟨c3,r3,rfl,h3,h⟩:=h.cons;obtain⟨c4,r4,rfl,h4,h⟩:=h.cons;obtain⟨c5,r5,rfl,h5,h⟩:=h.cons;obtain⟨c6,r6,rfl,h6,h⟩:=h.cons;obtain⟨c7,r7,rfl,h7,h⟩:=h.cons;obtain⟨c8,r8,rfl,h8,h⟩:=h.cons;obtain⟨c9,r9,rfl,h9,h⟩:=h.cons;obtain rfl:=h.nil;obtain⟨x1,rfl⟩:=h1.int Tryz.underlying3;obtain⟨x2,rfl⟩:=h2.int Tryz.underlying43;obtain⟨x3,rfl⟩:=h3.int Tryz.underlying2;obtain⟨x4,rfl⟩:=h4.int Tryz.underlying3;obtain⟨x5,rfl⟩:=h5.int Tryz.underlying3;obtain⟨x6,rfl⟩:=h6.int Tryz.underlying3;obtain⟨x7,rfl⟩:=h7.int Tryz.underlying43;obtain⟨a,b,d,e,rfl⟩:=aa2 h8;obtain⟨x9,rfl,hb9⟩:=aet h9 Tryz.underlying2;exact⟨⟨x1,x2,x3,x4,x5,x6,x7,a,b,d,e,x9⟩,rfl,hb9⟩
def agr{W:AW}{n:Nat}{c:List ad}(h:DR Tryz.prog W (n+3) 50 c):∃o:oE,c=(lC o).cells.toList:=by obtain⟨c1,r1,rfl,h1,h⟩:=(h.struct Tryz.underlying50).cons;obtain⟨c2,r2,rfl,h2,h⟩:=h.cons;obtain⟨c3,r3,rfl,h3,h⟩:=h.cons;obtain⟨c4,r4,rfl,h4,h⟩:=h.cons;obtain⟨c5,r5,rfl,h5,h⟩:=h.cons;obtain⟨c6,r6,rfl,h6,h⟩:=h.cons;obtain rfl:=h.nil;obtain⟨x1,rfl⟩:=h1.int Tryz.underlying35;obtain⟨x2,rfl⟩:=h2.int Tryz.underlying3;obtain⟨x3,rfl⟩:=h3.int Tryz.underlying3;obtain⟨x4,rfl⟩:=h4.int Tryz.underlying2;obtain⟨a,b,d,e,rfl⟩:=aa2 h5;obtain⟨x6,rfl⟩:=h6.int Tryz.underlying3;exact⟨⟨x1,x2,x3,x4,a,b,d,e,x6⟩,rfl⟩
def aiA{W:AW}{n:Nat}{c:List ad}(h:DR Tryz.prog W (n+4) 52 c):∃e:fF,c=jJ e/\e.op.nw<9223372036854775808:=by obtain⟨c1,r1,rfl,h1,h⟩:=(h.struct Tryz.underlying52).cons;obtain⟨c2,r2,rfl,h2,h⟩:=h.cons;obtain⟨c3,r3,rfl,h3,h⟩:=h.cons;obtain⟨c4,r4,rfl,h4,h⟩:=h.cons;obtain⟨c5,r5,rfl,h5,h⟩:=h.cons;obtain rfl:=h.nil;obtain⟨x1,rfl⟩:=h1.int Tryz.underlying3;obtain⟨x2,rfl⟩:=h2.int Tryz.underlying3;obtain⟨x3,rfl⟩:=YW h3 Tryz.underlying4;obtain⟨o,rfl,ho⟩:=aia h4;obtain⟨r,rfl⟩:=agr h5;exact⟨⟨x1,x2,x3,o,r⟩,rfl,ho⟩
def abS{W:AW}{n:Nat}{c:List ad}(h:DR Tryz.prog W (n+6) 27 c):∃(v:fc) (sv ev:ad) (l:List fF),c=[.af v.sh,.af v.dS,.af v.g9,sv,ev]/\HiR W v sv ev l:=by
 obtain⟨c1,c2,rfl,h1,h2⟩:=(h.struct Tryz.underlying27).cons;obtain⟨c3,c4,rfl,h3,h4⟩:=h2.cons;obtain rfl:=h4.nil;obtain⟨v,sv,rfl,hs⟩:=aem h1;obtain⟨ev,l,rfl,hr⟩:=h3.row Tryz.underlying25 (at_:=λcs p e=>oP 24 jJ cs p e/\e.op.nw<9223372036854775808) (λc _ hc=>by obtain⟨e,rfl,he⟩:=aiA hc;exact⟨e,λpre post=>⟨rM kX e pre post,he⟩⟩);refine⟨v,sv,ev,l,rfl,hs,Row.imp hr.1 (.refl _) λ_ _ _ h=>h.1,λe he=>?_⟩;obtain⟨a,c,-,h⟩:=hr.1;obtain⟨i,hi,rfl⟩:=zb he;rcases h with h|⟨b,o,cs,-,-,-,h⟩
 ·rw[h]at hi;cases hi
 ·exact(h i hi).2
section
variable {H:Type} {enc:ae×ad->H} {w:am} {σ:cI} {W:AW} {v0:ad} {d:DataW H} {p:List cx} {r:Reach} {b0:Nat}
def aew{t:ae}{fs:Array Field}(ht:Tryz.prog.underlying t=some (.struct fs))(hv:Value.okWide Tryz.prog w r b0 t v0):∃cs,v0=.agg cs:=by unfold Value.okWide at hv;rw[ht]at hv;obtain⟨cs,h,_⟩:=hv;exact⟨cs,h⟩
def agB:Nf Tryz.prog 7 27=true:=by kernel_rfl
def Z2(ho:iZ σ W w)(hv:Value.okWide Tryz.prog w r b0 27 v0)(h:DataW.Trod enc Tryz.prog w 0 (λ_=>true) true 27 v0 d p):
 ∃(σ2:cI) (W2:AW) (v:fc) (sv ev:ad) (l:List fF),iZ σ2 W2 w/\Sub σ σ2/\Le W W2/\VR σ2 (CG v sv ev) v0/\HiR W2 v sv ev l:=by
 obtain⟨cs,rfl⟩:=aew Tryz.underlying27 hv;obtain⟨m,hm⟩:=h;obtain⟨σ2,W2,DK,o2,s2,l2,r2,a2⟩:=xX agB hm σ W ho;obtain⟨v,sv,ev,l,rfl,hs⟩:=abS a2;exact⟨σ2,W2,v,sv,ev,l,o2,s2,l2,.Nz (a:=#[.af v.sh,.af v.dS,.af v.g9,sv,ev]) r2,hs⟩
end
def af8{w:am}(hl:BC jz w.heap):iZ (σG jz) (WG jz 5) w:=⟨aaU rfl hl,Y9,1,_,rfl⟩
def aj5:GW (WG jz 5):=YK rfl (λx hx=>by
 have h2:x=(0,tF)\/x=(1,HG)\/x=(3,IJ)\/x=(4,HT):=by simpa[jz]using hx
 rcases h2 with rfl|rfl|rfl|rfl<;>rfl)
def agR{W:AW}(h:Le (WG jz 5) W):GW W:=aj5.mono h
def af5:Kids Tryz.prog (· <Tryz.prog.types.size):=kids_rows (by kernel_rfl) (by kernel_rfl)
def agz:∀t e,t<Tryz.prog.types.size->Tryz.prog.underlying t=some (.slice e)->0<Tryz.prog.cellsOf e:=slices_full_of Tryz.prog (by kernel_rfl)
def N7(jR:bI Tryz.prog ah.ng bf){w:am}{σ:cI}{W:AW}(ho:iZ σ W w)(hs:Sub (σG jz) σ){i:Nat}{args cu:List ad}(hr:LR σ args cu)(h:bf (.func (.func i) #[] #[]) args W=some (.bool true,W)):
 Calls Tryz.prog i cu.toArray w λe w'=>e=.returned (.bool true)/\dx w w':=by
 have hG:wV σ [0,1,3,4]:=λg hg=>by obtain⟨e,he⟩:=(SM (gs:=jz) (ng:=[0,1,3,4]) rfl) g hg;exact⟨e,hs _ _ he⟩
 exact Vc jR ho.rel hG ho.ro hr rfl h
def BM.dN{v:fc}{l:List fF}{os:List Int}{x:cK}{a e:Int}(h:BM v l os x a e)(hv:v.aA.length<1000)(hr:∀s∈v.aA,s.rows.length<1000)(xx:∀e∈l,e.op.nw<9223372036854775808):x.v.aA.length<1000/\(∀s∈x.v.aA,s.rows.length<1000)/\x.st.length<=10000/\x.qs.length<=10000/\∀l∈x.qs,l.length<=10000:=by
 have h0:CJ.v.aA.length<1000/\(∀s∈CJ.v.aA,s.rows.length<1000)/\CJ.st.length<=10000/\CJ.qs.length<=10000/\∀l∈CJ.qs,l.length<=10000:=⟨by decide,(by intro s hs;cases hs),by decide,by decide,(by intro l hl;cases hl)⟩;cases h with
 |Da _ _=>exact h0
 |H0 _ _ _=>exact h0
 |pick _ _ _ _ _=>exact h0
 |I3 _ _ _ _ _ _ _=>exact h0
 |pn h1 hs _ _ _=>obtain⟨b,hb⟩:=H8 (os:=os) (CY h1 rfl) hv (Vn hs xx) os.length;exact⟨b.v,by rw[hb];exact hr,b.st,b.qs,b.q⟩
def CE.parts{Z U:AW}{val:ad}{x:cK}(h:CE Z U val x):∃sv sq qq,val=oA x sv sq qq/\Eng.one sv=true/\Eng.one sq=true/\Eng.one qq=true:=by obtain⟨sv,sq,qq,e,h1,h2,h3⟩:=h;exact⟨sv,sq,qq,e,row_one h1.1,Ee h2,row_one h3⟩
def agO:kQ Tryz.prog 3=some 1:=by kernel_rfl
def VU{a:Option Addr}{n c k:Nat}(hk:k<=n)(hn:n<=c)(hc:c<dY)(U:AW):ft Tryz.prog 28 (.slice a n c) (some (.af (k:Int))) none none U=some (.slice (a.map λx=>if c=k then x else x.add (k*1)) (n-k) (c-k),U):=by
 unfold ft mH;rw[Tryz.underlying28];cases a with
 |none=>simp only[agO,fm,kK,hk,hn,lF,ba,Option.map_none]
 |some a=>
  have hb:¬(c=dY+1/\0<1):=λx=>by omega
  simp only[agO,fm,kK,hk,hn,hc,hb,lF,ba,cV,cF]
def acj{W:AW}{n:Nat}{c:List ad}(h:DR Tryz.prog W (n+2) 28 c):∃(ov:ad) (os:List Int),c=[ov]/\Lg W ov os:=by
 obtain⟨ov,os,rfl,hr,a,c,rfl,h1,h2,-⟩:=DR.ints h Tryz.underlying28 Tryz.underlying3 (by kernel_rfl);refine⟨_,os,rfl,hr,λk hk=>⟨_,VU hk h1 h2,?_⟩⟩;obtain⟨a',c',e,hr⟩:=hr;injection e with e1 e2 e3;subst e1 e3;refine⟨_,_,by rw[qA],?_⟩;by_cases AO:k=os.length
 ·left;rw[AO];exact zH
 right;rcases hr with rfl|⟨b,o,cs,rfl,i1,i2,i3⟩
 ·simp at hk AO;omega
 ·refine⟨b,o+k*1,cs,?_,i1,i2,λi hi=>?_⟩
  ·rw[cF,bK,cP]
  ·rw[qA]at hi;have:=i3 (k+i) (by omega);rw[List.getElem_drop];have e:o+k*1+i*1=o+(k+i)*1:=by omega
   rwa [e]
section
variable {H:Type} {enc:ae×ad->H} {w:am} {σ:cI} {W:AW} {v0:ad} {d:DataW H} {p:List cx} {r:Reach} {b0:Nat}
def afq:Nf Tryz.prog 7 28=true:=by kernel_rfl
def JV{t e:ae}(ht:Tryz.prog.underlying t=some (.slice e))(hv:Value.okWide Tryz.prog w r b0 t v0):∃a l c,v0=.slice a l c:=by
 unfold Value.okWide at hv;rw[ht]at hv;simp only at hv;unfold Cell.okWide at hv;rw[ht]at hv;cases v0 with
 |slice a l c=>exact⟨a,l,c,rfl⟩
 |_=>simp only[Cell.ok,ht]at hv
def XJ(ho:iZ σ W w)(hv:Value.okWide Tryz.prog w r b0 28 v0)(h:DataW.Trod enc Tryz.prog w 0 (λ_=>true) true 28 v0 d p):
 ∃(σ2:cI) (W2:AW) (ov:ad) (os:List Int),iZ σ2 W2 w/\Sub σ σ2/\Le W W2/\VR σ2 ov v0/\Lg W2 ov os:=by
 obtain⟨a,n,c,rfl⟩:=JV Tryz.underlying28 hv;obtain⟨m,hm⟩:=h;obtain⟨σ2,W2,DK,o2,s2,l2,r2,a2⟩:=xX afq hm σ W ho;obtain⟨ov,os,rfl,hr⟩:=acj (n:=5) a2;have Sd:VR σ2 ov (.slice a n c):=r2.2 0 _ _ rfl rfl;exact⟨σ2,W2,ov,os,o2,s2,l2,Sd,hr⟩
end
def Y4(U:AW)(v:fc)(sv u:ad)(h1:Eng.one sv=true)(h2:Eng.one u=true):cl Tryz.prog 27 U=some (bi U.next,U.add (.cells (Js UW FD FD)))/\gv 5 (bi U.next) (CG v sv u) (U.add (.cells (Js UW FD FD)))=some (ak,U.add (.cells (Js v sv u))):=by refine⟨aii U,?_⟩;have:=agL (W:=U.add (.cells (Js UW FD FD))) (b:=U.next) (v:=v) (sv:=sv) (u:=u) (AW.aH _ _) h1 h2;rwa [jl]at this
section
variable {X:AW} {v:fc} {sv u Su ov:ad} {os ts:List Int} {l:List fF} {wb B sb c:Nat} {st:cK} {ρ:Type}
def NS{R:ah.Fr}{U:AW}{K:LT->Option ρ}{G:ρ->Prop}(oX:Row U 1 (oQ .u16) Su ts)(hts:ts.length<=60)(hu:RV U u [])(hw:U.get wb=some (.cells (Js v sv u)))(r2:R 2=Su)(sr:R 10=bi wb)(qR:R 11=.af 0)
 (hK:∀R',R' 1=R 1->R' 7=R 7->R' 10=bi wb->Ok (K (.exit 0,R',U)) G):
 Ok (dN (ge (cU bf) R U) K) G:=by
 refine bz 0 (by omega) (λi R' U'=>U'=U/\R' 1=R 1/\R' 2=Su/\R' 7=R 7/\R' 10=bi wb/\R' 11=.af 0)
  (λr=>r.1=.exit 0/\r.2.2=U/\r.2.1 1=R 1/\r.2.1 7=R 7/\r.2.1 10=bi wb)
  ⟨rfl,rfl,r2,rfl,sr,qR⟩ (λi _ _ hi=>by omega) ?_ ?_
 ·rintro R' U' ⟨rfl,k1,k2,k7,Ss,k11⟩;unfold cU;have ln:=λW'=>Row.len oX PA W' 3 #[false]
  have lu:=λW'=>Row.len hu BQ W' 3 #[false]
  have lv:bG (.pointer (some ⟨wb,4,none⟩)) U'=some (u,U'):=NK hw;have d1:decide ((1:Int)<(([]:List fF).length:Int))=false:=rfl;by_cases c1:0<ts.length
  ·have t1:decide ((0:Int)<(ts.length:Int))=true:=dj;simp only[SX,k2,Ss,k11,ln,t1,aN,lv,lu,d1,ai];exact⟨by simp,ao,ao,k1,k7,Ss⟩
  ·have t1:decide ((0:Int)<(ts.length:Int))=false:=cN;simp only[SX,k2,Ss,k11,ln,t1,ai];exact⟨by simp,ao,ao,k1,k7,Ss⟩
 ·rintro⟨e,R',U'⟩ ⟨rfl,rfl,k1,k7,Ss⟩;exact hK R' k1 k7 Ss
end
def DZ{W:AW}{v:fc}{sv ev ov Su:ad}{l:List fF}{os ts:List Int}(hG:GW W)(h:HiR W v sv ev l)(ho:Lg W ov os)(oX:Row W 1 (oQ .u16) Su ts)(Mp:∀t∈ts,0<=t/\t<=65535):bf (.func (.func 4) #[] #[]) [CG v sv ev,ov,Su] W=some (.bool true,W):=by
 refine aX rfl ?_ rU;unfold nO;obtain⟨V1,yj⟩:∃V1,V1=W.add (.cells [.af v.sh,.af v.dS,.af v.g9,sv,ev]):=⟨_,rfl⟩;have aS:Le W V1:=by rw[yj];exact(Le.refl W).add _
 have hn:V1.next=W.next+1:=by rw[yj];rfl
 have hg:V1.get W.next=some (.cells [.af v.sh,.af v.dS,.af v.g9,sv,ev]):=by rw[yj];exact AW.aH _ _
 simp only[SX];rw[<-yj];clear yj;have cB:∀{V:AW},Le V1 V->fd 5 (bi W.next) V=some (CG v sv ev,V):=λ{V} hv=>bV (az ((hv.get _ (by omega)).trans hg)) rfl
 have aw:=λ{V:AW} (hv:Le V1 V)=>OA ((hG.mono aS).mono hv)
 have PF:=ho.ints.mono aS;have acJ:=oX.mono aS;have lna:=λW'=>Row.len acJ PA W' 3 #[false]
 obtain⟨c,hf,hc⟩:=Zu (h.mono aS) 80;cases c with
 |true=>simp only[SX,cB (Le.refl _),hf,aw (Le.refl _),ai];exact⟨ao,aS⟩
 |false=>
 by_cases c1:60<os.length
 ·have d1:decide ((60:Int)<(os.length:Int))=true:=dj;simp only[SX,cB (Le.refl _),hf,gg.ln PF,d1,aw (Le.refl _),ai];exact⟨ao,aS⟩
 have d1:decide ((60:Int)<(os.length:Int))=false:=cN;by_cases c2:60<ts.length
 ·have d2:decide ((60:Int)<(ts.length:Int))=true:=dj;simp only[SX,cB (Le.refl _),hf,gg.ln PF,d1,lna,d2,aw (Le.refl _),ai];exact⟨ao,aS⟩
 have d2:decide ((60:Int)<(ts.length:Int))=false:=cN;obtain⟨k,-⟩:=hc rfl;have hG1:=hG.mono aS;obtain⟨_,U2,w1,x,y,a,e,hA,rfl,l2,m2⟩:=VT hG1 k h.nw (ho.mono aS) (by omega);obtain⟨sv2,sq2,qq2,p2,s2⟩:=CE.parts m2;obtain⟨c2',k2,z2⟩:=AN.new U2 (val:=x) ⟨_,_,_,_,p2,s2⟩;obtain⟨U2',hU2⟩:∃U,U=U2.add (.cells c2'):=⟨_,rfl⟩;have l2':Le V1 U2':=by rw[hU2];exact l2.add _
 have l22:Le U2 U2':=by rw[hU2];exact(Le.refl _).add _
 have n2':U2.next<U2'.next:=by rw[hU2,AW.ar];omega
 rw[<-hU2]at k2 z2;simp only[SX,cB (Le.refl _),hf,gg.ln PF,d1,lna,d2,w1,EA,k2];by_cases he:e=0;case neg=>have de:=bm he;simp only[SX,de,aw l2',ai];exact⟨ao,aS.trans l2'⟩
 subst he;obtain⟨s,i1,i2,i3,i4,i5,i6,rfl⟩:=hA.inv;obtain⟨-,hl4,-⟩:=i1.pn rfl;have Q2:=CY i1 rfl;have Hc:v.aA≠[]:=λe0=>by have:=(df Q2).2.2.1;rw[e0]at this;simp at this
 obtain⟨-,CA⟩:=ON k.aA Hc;obtain⟨u,U3,w3,l3,m3⟩:=Td (k.aA.mono l2') Hc (k.RA.mono l2') (by omega);have ou:=S1 m3;obtain⟨wa1,wa2⟩:=Y4 U3 v sv u CA ou;obtain⟨U4,hU4⟩:∃U,U=U3.add (.cells (Js v sv u)):=⟨_,rfl⟩;have l34:Le U3 U4:=by rw[hU4];exact(Le.refl _).add _
 have n4:U4.next=U3.next+1:=by rw[hU4];rfl
 have g4:U4.get U3.next=some (.cells (Js v sv u)):=by rw[hU4];exact AW.aH _ _
 rw[<-hU4]at wa2;have RY:Le U2' U4:=l3.trans l34;have d0:decide ((0:Int)=0)=true:=rfl;simp only[SX,cB l2',w3,wa1,wa2];have tail:∀{m:List fF} {U5:AW},BM v m os y 0 0->Le U2' U5->U5.get U3.next=some (.cells (Js v sv u))->RV U5 u m->(∀e∈m,e.op.nw<9223372036854775808)->∃(x':ad) (U6 Xz:AW) (a':Int),fd 5 (bi U3.next) U5=some (CG v sv u,U5)/\bf (.func (.func 8) #[] #[]) [CG v sv u,ov] U5=some (.tuple #[x',.af a',.af 0],U6)/\
  gv 7 (bi U6.next) x' (U6.add (.cells qe))=some (ak,Xz)/\fd 7 (bi U2.next) Xz=some (x,Xz)/\fd 7 (bi U6.next) Xz=some (x',Xz)/\bf (.func (.func 10) #[] #[]) [x,x'] Xz=some (.bool true,Xz)/\Le V1 Xz:=by
  intro m U5 hm l5 g5 e5 nw5;have l15:=l2'.trans l5;obtain⟨_,U6,w6,x',y',a',e',hA',rfl,l6,m6⟩:=VT (hG1.mono l15) ⟨k.aA.mono l15,k.small,k.rows,e5⟩ nw5 (ho.mono (aS.trans l15)) (by omega);obtain⟨rfl,rfl,rfl⟩:=hm.Fh hA';obtain⟨sv3,sq3,qq3,p3,s3⟩:=CE.parts m6;obtain⟨c3',k3,z3⟩:=AN.new U6 (val:=x') ⟨_,_,_,_,p3,s3⟩;have l66:Le U6 (U6.add (.cells c3')):=(Le.refl _).add _;have z2':AN (U6.add (.cells c3')) U2.next x:=z2.keep (((l5.trans l6).trans l66).get _ n2');have l16:Le V1 (U6.add (.cells c3')):=(l15.trans l6).trans l66;have b:=hA.dN k.small k.rows h.nw;exact⟨x',U6,_,0,OF g5,w6,k3,z2'.ld,z3.ld,Xi ((CE.mono m2 (l22.trans ((l5.trans l6).trans l66))).at l16) ((CE.mono m6 l66).at (l6.trans l66)) b.1 b.2.1 b.2.2.1 b.2.2.2.1 b.2.2.2.2,l16⟩
 have amE:=acJ.mono (l2'.trans RY);rcases m3 with⟨rfl,hu⟩|⟨h0,B,cc,b1,b2,rfl,pF,b4⟩
 ·have hu0:RV U4 u []:=by
   rcases hu with rfl|⟨B,rfl⟩
   ·exact⟨_,_,rfl,.inl rfl⟩
   ·exact⟨_,_,rfl,.inl rfl⟩
  obtain⟨x',U6,Xz,a',t1,t2,t3,t4,t5,t6,t7⟩:=tail hA RY g4 hu0 h.nw;refine NS (wb:=U3.next) amE (by omega) hu0 g4 rfl rfl rfl λR' q1 q7 Wa=>?_
  have q1':R' 1=ov:=q1;have q7':R' 7=bi U2.next:=q7;simp only[SX,Wa,q1',q7',t1,t2,t3,t4,t5,t6,aw t7,ai];exact⟨ao,aS.trans t7⟩
 ·refine R7 (X:=U2') (ov:=ov) (Su:=Su) (sb:=U2.next) (v:=v) (sv:=sv) (wb:=U3.next) (B:=B) (l:=l) (os:=os) (st:=y) (acJ.mono l2') (by omega) Mp (by omega) rfl ⟨RY,g4,by rw[l34.get _ b2];exact b4,b1,b2,by omega⟩ hA h.nw (R:=_) rfl rfl rfl rfl rfl λR' U5 m hd hm Jx nw5 q1 q7 Wa=>?_
  have e5:RV U5 (.slice (some ⟨B,0,none⟩) l.length cc) m:=by refine⟨_,_,by rw[Jx],.inr ⟨B,0,_,rfl,by have:=hd.n;omega,az hd.b,λj hj=>?_⟩⟩;have:=rM (f:=jJ) kX m[j] ((m.take j).flatMap jJ) ((m.drop (j+1)).flatMap jJ);rw[Ik (by omega),<-wz hj]at this;rw[aN];exact this
  obtain⟨x',U6,Xz,a',t1,t2,t3,t4,t5,t6,t7⟩:=tail hm hd.le hd.w e5 nw5;simp only[SX,Wa,q1,q7,t1,t2,t3,t4,t5,t6,aw t7,ai];exact⟨ao,aS.trans t7⟩
section
variable {H:Type} {enc:ae×ad->H} {w:am} {σ:cI} {W:AW} {v0:ad} {d:DataW H} {p:List cx} {r:Reach} {b0:Nat}
def agE:Nf Tryz.prog 7 40=true:=by kernel_rfl
def ZT(ho:iZ σ W w)(hv:Value.okWide Tryz.prog w r b0 40 v0)(h:DataW.Trod enc Tryz.prog w 0 (λ_=>true) true 40 v0 d p):
 ∃(σ2:cI) (W2:AW) (ov:ad) (ts:List Int),iZ σ2 W2 w/\Sub σ σ2/\Le W W2/\VR σ2 ov v0/\Row W2 1 (oQ .u16) ov ts/\∀t∈ts,0<=t/\t<=65535:=by
 obtain⟨a,n,c,rfl⟩:=JV Tryz.underlying40 hv;obtain⟨m,hm⟩:=h;obtain⟨σ2,W2,DK,o2,s2,l2,r2,a2⟩:=xX agE hm σ W ho;obtain⟨ov,os,rfl,hr,hb⟩:=DR.ait (n:=5) a2 Tryz.underlying40 Tryz.underlying42 (by kernel_rfl);have Sd:VR σ2 ov (.slice a n c):=r2.2 0 _ _ rfl rfl;exact⟨σ2,W2,ov,os,o2,s2,l2,Sd,hr.1,λt ht=>hb t ht⟩
end
end Go.Proofs.YtmaoneengdafhaaGreatDoor
