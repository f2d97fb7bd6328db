/- Contracts of functions, and their laws. -/
import Derived.Test.YtnigceddndemkaaGreatDoorPlainB
import Derived.Test.YtnigceddndemkaaGreatDoorOpnA
import Derived.Test.YtnigceddndemkaaGreatDoorSDec
import Derived.KernelRfl
set_option linter.unusedVariables false
set_option linter.unusedSimpArgs false
set_option linter.unusedSectionVars false
namespace Go.Proofs.YtnigceddndemkaaGreatDoor.Ho
open Go Go.Eng Go.Hp
set_option maxRecDepth 100000
section
variable {α:Type} {z:Nat} {f:α->List Value} {at_:List Value->Nat->α->Prop} {W:AW} {v u:Value} {l m:List α}
def LB(lo:Nat)(W:AW)(z:Nat)(f:α->List Value)(v:Value)(l:List α):Prop:=Lst lo W z f v l\/(l=[]/\∃B,B<W.next/\v=.slice (some ⟨B,0,none⟩) 0 0)
theorem LB.mono{lo:Nat}{W':AW}(h:LB lo W z f v l)(hl:Le W W'):LB lo W' z f v l:=by
 rcases h with h|⟨h0,B,h1,h2⟩
 ·exact .inl (h.mono hl)
 ·exact .inr ⟨h0,B,Nat.lt_of_lt_of_le h1 hl.next,h2⟩
theorem LB.cat{ts:Array TypeId}{bytes lo:Nat}(hk:nI Tryz.prog ts z bytes=true)(hf:∀a,(f a).length=z)(h1:∀a,(f a).all Eng.one=true)(h:LB lo W z f v l)(hr:Row W z at_ u m)(hat:∀cs p a,at_ cs p a->(cs.drop p).take z=f a)
 (hb:l.length+m.length<1099511627776)(hb2:(2*(l.length+m.length)+192)*bytes<=281474976710656)(hlo:lo<=W.next):
 ∃v' W',bG Tryz.prog W ts v u=some (v',W')/\LB lo W' z f v' (l++m)/\(l++m≠[]->Lst lo W' z f v' (l++m))/\W.next<=W'.next/\∀A,Le A W->A.next<=lo->Le A W':=by
 rcases h with h|⟨rfl,B,h2,rfl⟩
 ·obtain⟨v',W',k1,k2,k3,k4⟩:=Lst.cat hk hf h1 h hr hat hb hb2 hlo;exact⟨v',W',k1,.inl k2,λ_=>k2,k3,k4⟩
 ·obtain⟨a,c,rfl,hr⟩:=hr;by_cases hm:m=[]
  ·subst hm;exact⟨_,W,AO hk (Nat.le_refl 0) (by omega) (by simpa using hb2),.inr ⟨rfl,B,h2,rfl⟩,λx=>absurd rfl x,Nat.le_refl _,λA hA _=>hA⟩
  ·rcases hr with hr|⟨C,o,cs,rfl,h3,h4,h5⟩
   ·exact absurd hr hm
   ·have e:m.flatMap f=(cs.drop o).take (m.length*z):=(GD hf m cs o λi hi=>hat _ _ _ (h5 i hi)).symm;have hall:(m.flatMap f).all Eng.one=true:=by rw[List.all_flatMap,List.all_eq_true];exactλa _=>h1 a
    have hL:Lst lo (W.add (.cells (m.flatMap f))) z f (.slice (some ⟨W.next,0,none⟩) m.length (dH+z)) m:=.inr ⟨hm,W.next,hlo,by rw[AW.add_next];omega,rfl,AW.get_add _ _⟩;exact⟨_,_,GX hk h4 e (aZ hf m) (List.length_pos_iff.2 hm) hall (by simpa using hb) (by simpa using hb2),.inl hL,λ_=>hL,by rw[AW.add_next];omega,λA hA _=>hA.add _⟩
end
theorem Lst.to{lo:Nat}{W:AW}{v:Value}{l:List (Int×Int)}(h:Lst lo W 2 nT v l){n:Nat}(hn:n<=l.length)(k:IntKind):∃u,(∀W',bU Tryz.prog 32 v none (some (.int k (n:Int))) none W'=some (u,W'))/\HoL W u (l.take n):=by
 rcases h with⟨rfl,rfl⟩|⟨h0,B,h1,h2,rfl,h3⟩
 ·obtain rfl:n=0:=by simpa using hn
  obtain⟨e,he,hz⟩:=iD a6p;exact⟨.slice none 0 0,λW'=>by unfold bU iV;simp[he,hz,dS,jD],Row.nil⟩
 ·refine⟨_,λW'=>uI a6p (by omega) hn,?_⟩;have e:l.flatMap nT=(l.take n).flatMap nT++(l.drop n).flatMap nT:=by rw[<-List.flatMap_append,List.take_append_drop]
  have:n=(l.take n).length:=by rw[List.length_take];omega
  rw[e]at h3;have h4:=OO (c:=dH+2) h3 h2;rwa [<-this]at h4
theorem Lst.from{lo:Nat}{W:AW}{v:Value}{l:List (Int×Int)}(h:Lst lo W 2 nT v l){n:Nat}(hn:n<=l.length)(k:IntKind):∃u,(∀W',bU Tryz.prog 32 v (some (.int k (n:Int))) none none W'=some (u,W'))/\HoL W u (l.drop n):=by
 rcases h with⟨rfl,rfl⟩|⟨h0,B,h1,h2,rfl,h3⟩
 ·obtain rfl:n=0:=by simpa using hn
  obtain⟨e,he,hz⟩:=iD a6p;exact⟨.slice none 0 0,λW'=>by unfold bU iV;simp[he,hz,dS,jD],Row.nil⟩
 ·refine⟨_,λW'=>SA hn W',?_⟩;refine⟨_,_,by rw[List.length_drop],?_⟩;by_cases he:l.drop n=[]
  ·exact .inl he
  ·refine .inr ⟨B,n*2,_,rfl,h2,bK h3,λi hi=>?_⟩;rw[List.length_drop]at hi;obtain⟨e1,e2⟩:=gD jR (List.getElem?_eq_getElem (show n+i<l.length by omega));rw[e1,show n*2+i*2=(n+i)*2 by omega,<-e2,List.getElem_drop];exact RV _ _ _
theorem aAP(W:AW):aR Tryz.prog 32 0 [] W=some (.slice (some ⟨W.next,0,none⟩) 0 0,W.add (.cells [])):=Eq.trans (by kernel_rfl) rfl
theorem aEQ(x:Int×Int)(W:AW):aR Tryz.prog 32 1 [(0,jQ x)] W=some (.slice (some ⟨W.next,0,none⟩) 1 1,W.add (.cells (nT x))):=Eq.trans (by kernel_rfl) rfl
theorem aCB(a b:Int)(W:AW):dG Tryz.prog 42 [(0,.int .i64 a),(1,.int .i64 b)] W=some (jQ (a,b),W):=Eq.trans (by kernel_rfl) rfl
theorem a9B{l:List (Int×Int)}{x:Int×Int}{n:Nat}(hl:Asc l)(hs:∀y∈l,y.1<x.1)(hn:n<=l.length)(h1:∀j (hj:j<l.length),n<=j->x.2<l[j].2)(h2:∀m,m+1=n->∀hj:m<l.length,l[m].2<=x.2):Asc (l.take n++[x]++l.drop n):=by
 unfold Asc at *;have hp:=hl;rw[<-List.take_append_drop n l,List.pairwise_append]at hp;obtain⟨p1,p2,p3⟩:=hp;have ht:∀y∈l.take n,y.2<=x.2:=λy hy=>by
  obtain⟨i,hi,rfl⟩:=List.mem_iff_getElem.1 hy;rw[List.length_take]at hi;rw[List.getElem_take];obtain⟨m,rfl⟩:∃m,n=m+1:=⟨n-1,by omega⟩;have h3:=h2 m rfl (by omega);by_cases c:i=m
  ·subst c;exact h3
  ·have h4:=List.pairwise_iff_getElem.1 hl i m (by omega) (by omega) (by omega);unfold lM at h4;simp only[Bool.or_eq_false_iff,decide_eq_false_iff_not]at h4;omega
 have hd:∀y∈l.drop n,x.2<y.2:=λy hy=>by obtain⟨i,hi,rfl⟩:=List.mem_iff_getElem.1 hy;rw[List.length_drop]at hi;rw[List.getElem_drop];exact h1 _ (by omega) (by omega)
 rw[List.pairwise_append,List.pairwise_append];refine⟨⟨p1,List.pairwise_singleton _ _,λa ha b hb=>?_⟩,p2,λa ha b hb=>?_⟩
 ·obtain rfl:b=x:=by simpa using hb
  have h3:=ht a ha;have h4:=hs a (List.mem_of_mem_take ha);unfold lM;rw[decide_eq_false (by omega),decide_eq_false (show¬b.1<a.1 by omega),Bool.and_false];rfl
 ·rcases List.mem_append.1 ha with ha|ha
  ·exact p3 a ha b hb
  ·obtain rfl:a=x:=by simpa using ha
   have h3:=hd b hb;unfold lM;rw[decide_eq_false (by omega),decide_eq_false (by omega),Bool.false_and];rfl
theorem a4T{l:List SeT}{n:Nat}(hn:n<l.length)(p:Nat->Bool):bQ (l.take (n+1)) p=bQ (l.take n) p++(if p n=true/\(mY l n).st=1 then [((n:Int),(mY l n).dl)]else []):=by
 have e:l.take (n+1)=l.take n++[mY l n]:=by rw[List.take_add_one,iK hn];rfl
 have e2:(l.take n).length=n:=by rw[List.length_take];omega
 rw[e,UQ,e2]
section
variable {W:AW} {v:Ven} {sv rv:Value} {l:List SeT} {k:Nat}
theorem ZN(h:RefA W v sv rv l)(hk:v.sh=(k:Int))(i:Int):∃u W',aK (.func (.func 88) #[] #[]) [eF v sv rv,.int .i64 i] W=some (.tuple #[u,.int .i64 (dQ i k 0)],W')/\Le W W'/\SeL W' u (shL l k i):=by
 refine O5 ?_ PW;unfold LY;obtain⟨W1,k1,k2,k3,k4⟩:=tQ v sv rv W;have hkp:=h.sh;have hlb:=h.lb;have c0:aL (.pointer (some ⟨W.next,0,none⟩)) W1=some (.int .i64 (k:Int),W1):=by rw[<-hk];exact iJ (bT k4) rfl
 by_cases c:dQ i k 0=0;case neg=>
  have e4:dQ i k 0=4:=by
   unfold dQ at c|-;by_cases x:i<0\/(k:Int)<=i
   ·rw[if_pos x]
   ·rw[if_neg x,if_neg (by omega)]at c;exact absurd rfl c
  have eL:shL l k i=[]:=by unfold shL;rw[if_neg c]
  rw[e4,eL];by_cases c1:i<0
  ·have d1:=decide_eq_true c1;simp only[SX,nP,nQ,k1,d1,aB];exact⟨_,rfl,k2,Row.nil⟩
  ·have d1:=decide_eq_false c1;have d2:decide ((k:Int)<=i)=true:=decide_eq_true (by unfold dQ at c;split at c<;>first|omega|(split at c<;>omega));simp only[SX,nP,nQ,k1,d1,Nat.zero_add,c0,d2,aB];exact⟨_,rfl,k2,Row.nil⟩
 obtain⟨s,rfl,hs,-⟩:=OX c;have d1:decide ((s:Int)<0)=false:=decide_eq_false (by omega);have d2:decide ((k:Int)<=(s:Int))=false:=decide_eq_false (by omega);have eL:shL l k (s:Int)=fF l k s:=by unfold shL;rw[if_pos c];rfl
 rw[c,eL];simp only[SX,nP,nQ,k1,d1,Nat.zero_add,c0,d2];have hcl:=iG l k s;have hc1:cnt l.length k s<=10000:=by unfold cnt;have:=Nat.div_le_self (l.length+k-1-s) k;omega
 refine bD (cnt l.length k s) (by omega) (λj R U=>Le W1 U/\R 2=.pointer (some ⟨W.next,0,none⟩)/\R 7=.int .i64 ((s+j*k:Nat):Int)/\Lst W1.next U 5 dP (R 6) ((fF l k s).take j))
  (λr=>r.1=.exit 0/\Le W1 r.2.2/\Lst W1.next r.2.2 5 dP (r.2.1 6) (fF l k s)) ⟨Le.refl _,rfl,by rw[Nat.zero_mul,Nat.add_zero];rfl,by rw[List.take_zero];exact Lst.nil _ _ _ _⟩ ?_ ?_ ?_
 ·rintro j R U hj ⟨u1,r2,r7,u2⟩;unfold tO;have hi:=(oF hs).1 hj;have t1:(((s+j*k:Nat):Int)<(l.length:Int)):=by omega
  have t2:=λW'=>aU (P:=Tryz.prog) (W:=W') (t:=3) (c:=false) (d:=false) (a:=((s+j*k:Nat):Int)) (b:=(k:Int)) (by omega) (by omega)
  have e6:((s+(j+1)*k:Nat):Int)=((s+j*k:Nat):Int)+(k:Int):=by rw[Nat.add_mul,Nat.one_mul];omega
  have x4:∀U',Le U U'->aL (.pointer (some ⟨W.next,4,none⟩)) U'=some (rv,U'):=λU' hU=>iJ (bT (((u1.trans hU).get _ (by omega)).trans k4)) rfl
  have x0:∀U',Le W1 U'->aL (.pointer (some ⟨W.next,0,none⟩)) U'=some (.int .i64 (k:Int),U'):=λU' hU=>by rw[<-hk];exact iJ (bT ((hU.get _ (by omega)).trans k4)) rfl
  obtain⟨b,o,-,i1,i2,-⟩:=SeL.get h.row (iK hi);have hb:cellsAt (U.add (.cells (dP (mY l (s+j*k))))) U.next=some (dP (mY l (s+j*k))):=bR;have hlt:((fF l k s).take j).length<=10000:=by rw[List.length_take];omega
  obtain⟨v',U',p1,p2,p3,p4⟩:=(u2.mono ((Le.refl U).add (.cells (dP (mY l (s+j*k)))))).push (c:=1) a4F dX CB hb (by omega) (by omega) (by rw[AW.add_next];have:=u1.next;omega);have u5:=p4 W1 (u1.add _) (Nat.le_refl _);simp only[SX,r2,r7,x4 U (Le.refl _),Nat.zero_add,h.row.len jT,t1,decide_true,i1,i2 U (k2.trans u1),aCy,p1,x0 U' u5,t2,aB];refine .inl ⟨trivial,u5,r2,by rw[e6];rfl,?_⟩;rw[List.take_add_one,oK hs hi];exact p2
 ·rintro R U ⟨u1,r2,r7,u2⟩;unfold tO;have hi:¬s+cnt l.length k s*k<l.length:=λx=>by have:=(oF hs).2 x;omega
  have t1:¬(((s+cnt l.length k s*k:Nat):Int)<(l.length:Int)):=by omega
  have x4:aL (.pointer (some ⟨W.next,4,none⟩)) U=some (rv,U):=iJ (bT ((u1.get _ (by omega)).trans k4)) rfl;rw[<-hcl,List.take_length]at u2;simp only[SX,r2,r7,x4,Nat.zero_add,h.row.len jT,t1,decide_false,aB];exact⟨by simp,trivial,u1,u2⟩
 ·rintro⟨q,R,U⟩ ⟨rfl,u1,u2⟩;simp only at u1 u2;simp only[SX,aB];exact⟨_,rfl,k2.trans u1,Lst.seats u2⟩
end
def uW(k:Nat)(i:Int)(j:Nat):Bool:= !decide (0<=i)||decide (((j % k:Nat):Int)=i)
theorem a0N(k s:Nat):uW k (s:Int)=jX k s:=by funext j;unfold uW;rw[decide_eq_true (show(0:Int)<=(s:Int)by omega),Bool.not_true,Bool.false_or];rw[Bool.eq_iff_iff];simp;omega
theorem a7o(k:Nat):uW k (-1)=λ_=>true:=by funext j;unfold uW;rw[decide_eq_false (by omega)];rfl
theorem LB.row{lo:Nat}{W:AW}{v:Value}{l:List (Int×Int)}(h:LB lo W 2 nT v l):HoL W v l:=by
 rcases h with h|⟨rfl,B,h1,rfl⟩
 ·exact h.row jR RV
 ·exact⟨_,0,rfl,.inl rfl⟩
theorem Lst.low{α:Type}{lo lo' z:Nat}{W:AW}{f:α->List Value}{v:Value}{l:List α}(h:Lst lo W z f v l)(hl:lo'<=lo):Lst lo' W z f v l:=by
 rcases h with h|⟨h0,B,h1,h2⟩
 ·exact .inl h
 ·exact .inr ⟨h0,B,Nat.le_trans hl h1,h2⟩
theorem a7g{l m:List (Int×Int)}(x:Int×Int)(n:Nat)(h:l.Perm m):(l.take n++[x]++l.drop n).Perm (m++[x]):=by
 have h1:(l.take n++[x]++l.drop n).Perm (x::(l.take n++l.drop n)):=by rw[List.append_assoc];exact List.perm_middle
 rw[List.take_append_drop]at h1;exact h1.trans ((List.Perm.cons x h).trans (List.perm_append_singleton x m).symm)
theorem Lst.new{lo:Nat}{W:AW}{v:Value}{l:List (Int×Int)}(h:Lst lo W 2 nT v l):NewL lo W v l:=by
 rcases h with⟨rfl,rfl⟩|⟨h0,B,h1,h2,rfl,h3⟩
 ·exact NewL.nil _ _
 ·exact⟨_,_,rfl,.inr ⟨B,[],rfl,h1,h2,by rw[List.append_nil];exact h3⟩⟩
theorem NewL.low{lo lo':Nat}{W:AW}{u:Value}{l:List (Int×Int)}(h:NewL lo W u l)(hl:lo'<=lo):NewL lo' W u l:=by
 obtain⟨a,c,rfl,hr⟩:=h;rcases hr with hr|⟨B,rest,h0,h1,h2,h3⟩
 ·exact⟨a,c,rfl,.inl hr⟩
 ·exact⟨a,c,rfl,.inr ⟨B,rest,h0,Nat.le_trans hl h1,h2,h3⟩⟩
section
variable {W:AW} {v:Ven} {sv rv:Value} {l:List SeT} {k:Nat}
theorem BH(h:RefA W v sv rv l)(hk:v.sh=(k:Int))(i most:Int):∃u W',∃out,aK (.func (.func 153) #[] #[]) [eF v sv rv,.int .i64 i,.int .i64 most] W=some (u,W')/\Le W W'/\NewL W.next W' u out/\mE (bQ l (uW k i)) most out:=by
 obtain⟨W1,k1,k2,k3,k4⟩:=tQ v sv rv W;have hkp:=h.sh;have hlb:=h.lb;have hk0:0<k:=by omega
 have main:Ok (BA aK (eF v sv rv) (.int .i64 i) (.int .i64 most) W) λr=>∃out,(Le W r.2/\NewL W.next r.2 r.1 out)/\mE (bQ l (uW k i)) most out:=by
  unfold BA;simp only[SX,k1];refine bD l.length (by omega) (λj R U=>Le W1 U/\R 1=.int .i64 i/\R 2=.int .i64 most/\R 3=.pointer (some ⟨W.next,0,none⟩)/\R 8=.int .i64 (j:Int)/\∃out,Lst W1.next U 2 nT (R 7) out/\Asc out/\out.Perm ((bQ (l.take j) (uW k i)).filter (dM most)))
   (λr=>r.1=.exit 0/\Le W1 r.2.2/\∃out,Lst W1.next r.2.2 2 nT (r.2.1 7) out/\Asc out/\out.Perm ((bQ l (uW k i)).filter (dM most))) ⟨Le.refl _,rfl,rfl,rfl,rfl,[],Lst.nil _ _ _ _,List.Pairwise.nil,.refl _⟩ ?_ ?_ ?_
  ·rintro j R U hj ⟨u1,r1,r2,r3,r8,out,u2,u3,u4⟩;unfold uK;have t1:((j:Int)<(l.length:Int)):=by omega
   have t2:=λW'=>aU (P:=Tryz.prog) (W:=W') (t:=3) (c:=false) (d:=true) (a:=(j:Int)) (b:=1) (by omega) (by omega)
   have e3:((j+1:Nat):Int)=(j:Int)+1:=by omega
   have x4:aL (.pointer (some ⟨W.next,4,none⟩)) U=some (rv,U):=iJ (bT ((u1.get _ (by omega)).trans k4)) rfl;obtain⟨b,o,-,i1,i2,-⟩:=SeL.get h.row (iK hj);have hsn:=a4T hj (uW k i);generalize hx:mY l j=x at *;obtain⟨U0,U1,a1,a2,a3,a4,a5⟩:=a8t U x;have le1:=u1.trans a3;have x0:aL (.pointer (some ⟨W.next,0,none⟩)) U1=some (.int .i64 (k:Int),U1):=by rw[<-hk];exact iJ (bT ((le1.get _ (by omega)).trans k4)) rfl
   have out1:=u2.mono a3;have skip:(x.st≠1\/most<x.dl\/uW k i j=false)->((bQ (l.take (j+1)) (uW k i)).filter (dM most))=((bQ (l.take j) (uW k i)).filter (dM most)):=λhs=>by
    rw[hsn,List.filter_append];have:(if uW k i j=true/\x.st=1 then [((j:Int),x.dl)]else []).filter (dM most)=[]:=by
     by_cases c:uW k i j=true/\x.st=1
     ·rw[if_pos c];have:dM most ((j:Int),x.dl)=false:=by
       unfold dM;rcases hs with hs|hs|hs
       ·exact absurd c.2 hs
       ·exact decide_eq_false (by show¬x.dl<=most;omega)
       ·rw[hs]at c;exact absurd c.1 (by decide)
      simp[this]
     ·rw[if_neg c];rfl
    rw[this,List.append_nil]
   by_cases c1:x.st=1;case neg=>
    have d1:=decide_eq_false c1;cases d3:decide (0<=i)<;>
     (simp only[SX,nP,nQ,r1,r2,r3,r8,Nat.zero_add,x4,h.row.len jT,t1,decide_true,i1,i2 U (k2.trans u1),a1,a2,eB a5,d1,d3,t2,aB]
      exact .inl ⟨trivial,le1,r1,r2,r3,by rw[e3];rfl,out,out1,u3,by rw[skip (.inl c1)];exact u4⟩)
   have d1:=decide_eq_true c1;by_cases c2:most<x.dl
   ·have d2:=decide_eq_true c2;cases d3:decide (0<=i)<;>
     (simp only[SX,nP,nQ,r1,r2,r3,r8,Nat.zero_add,x4,h.row.len jT,t1,decide_true,i1,i2 U (k2.trans u1),a1,a2,eB a5,dZ a5,d1,d2,d3,t2,aB]
      exact .inl ⟨trivial,le1,r1,r2,r3,by rw[e3];rfl,out,out1,u3,by rw[skip (.inr (.inl c2))];exact u4⟩)
   have d2:=decide_eq_false c2;cases cp:uW k i j with
   |false=>have hp:=cp;unfold uW at hp;simp only[Bool.or_eq_false_iff,Bool.not_eq_false']at hp;have d3:=hp.1;have d4:=hp.2;simp only[SX,nP,nQ,r1,r2,r3,r8,Nat.zero_add,x4,h.row.len jT,t1,decide_true,i1,i2 U (k2.trans u1),a1,a2,eB a5,dZ a5,d1,d2,d3,x0,ZH j k hk0,d4,t2,aB];exact .inl ⟨trivial,le1,r1,r2,r3,by rw[e3];rfl,out,out1,u3,by rw[skip (.inr (.inr cp))];exact u4⟩
   |true=>
    have hin:(bQ (l.take (j+1)) (uW k i)).filter (dM most)=(bQ (l.take j) (uW k i)).filter (dM most)++[((j:Int),x.dl)]:=by rw[hsn,List.filter_append,if_pos ⟨cp,c1⟩];have:dM most ((j:Int),x.dl)=true:=decide_eq_true (by show x.dl<=most;omega);simp[this]
    have hseat:∀y∈out,y.1<(j:Int):=λy hy=>by have:=(List.mem_filter.1 (u4.mem_iff.1 hy)).1;obtain⟨s,s1,-,-,rfl⟩:=kS.1 this;rw[List.length_take]at s1;show((s:Nat):Int)<(j:Int);omega
    have holen:out.length<=4096:=by have h1:=u4.length_eq;have h2:=List.length_filter_le (dM most) (bQ (l.take j) (uW k i));have h3:=kV (l.take j) (uW k i);rw[List.length_take]at h3;omega
    have inner:∀R':PlanTab.Fr,R' 1=.int .i64 i->R' 2=.int .i64 most->R' 3=.pointer (some ⟨W.next,0,none⟩)->R' 7=R 7->R' 8=.int .i64 (j:Int)->R' 9=.pointer (some ⟨U.next,0,none⟩)->R' 10=.int .i64 (out.length:Int)->∀{K:LT->Option LT} {G:LT->Prop},
     (∀(R2:PlanTab.Fr) (n:Nat),R2 1=.int .i64 i->R2 2=.int .i64 most->R2 3=.pointer (some ⟨W.next,0,none⟩)->R2 7=R 7->R2 8=.int .i64 (j:Int)->R2 9=.pointer (some ⟨U.next,0,none⟩)->R2 10=.int .i64 (n:Int)->n<=out.length->(∀q (hq:q<out.length),n<=q->x.dl<out[q].2)->(∀m,m+1=n->∀hm:m<out.length,out[m].2<=x.dl)->Ok (K (X.exit 2,R2,U1)) G)->
     Ok (aA (cB (kI aK) R' U1) K) G:=by
     intro R' q1 q2 q3 q7 q8 q9 q10 K G hK;have ho:=out1.row jR RV;refine bD out.length (by omega) (λm Q Z=>Z=U1/\Q 1=.int .i64 i/\Q 2=.int .i64 most/\Q 3=.pointer (some ⟨W.next,0,none⟩)/\Q 7=R 7/\Q 8=.int .i64 (j:Int)/\Q 9=.pointer (some ⟨U.next,0,none⟩)/\Q 10=.int .i64 ((out.length-m:Nat):Int)/\∀q (hq:q<out.length),out.length-m<=q->x.dl<out[q].2)
      (λr=>r.1=.exit 2/\r.2.2=U1/\r.2.1 1=.int .i64 i/\r.2.1 2=.int .i64 most/\r.2.1 3=.pointer (some ⟨W.next,0,none⟩)/\r.2.1 7=R 7/\r.2.1 8=.int .i64 (j:Int)/\r.2.1 9=.pointer (some ⟨U.next,0,none⟩)/\∃n:Nat,r.2.1 10=.int .i64 (n:Int)/\n<=out.length/\(∀q (hq:q<out.length),n<=q->x.dl<out[q].2)/\(∀m,m+1=n->∀hm:m<out.length,out[m].2<=x.dl))
      ⟨rfl,q1,q2,q3,q7,q8,q9,q10,λq hq hq2=>by omega⟩ ?_ ?_ ?_
     ·rintro m Q Z hm ⟨rfl,q1,q2,q3,q7,q8,q9,q10,hgt⟩;unfold kI;have t3:decide ((0:Int)<((out.length-m:Nat):Int))=true:=decide_eq_true (by omega);have t4:=λW'=>BM (P:=Tryz.prog) (W:=W') (t:=3) (c:=false) (d:=true) (a:=((out.length-m:Nat):Int)) (b:=1) (by omega) (by omega)
      have e7:((out.length-m:Nat):Int)-1=((out.length-(m+1):Nat):Int):=by omega
      obtain⟨b',o',y1,y2,y3⟩:=HoL.get ho (show out.length-(m+1)<out.length by omega);by_cases c5:x.dl<out[out.length-(m+1)].2
      ·have d5:=decide_eq_true c5;simp only[SX,nP,nQ,q7,q9,q10,t3,t4,e7,y1,(y3 _ rfl).2.2,dZ a5,Nat.zero_add,d5,aB];refine .inl ⟨trivial,trivial,q1,q2,q3,q7,q8,q9,rfl,λq hq hq2=>?_⟩;by_cases c6:q=out.length-(m+1)
       ·subst c6;exact c5
       ·exact hgt q hq (by omega)
      ·have d5:=decide_eq_false c5;simp only[SX,nP,nQ,q7,q9,q10,t3,t4,e7,y1,(y3 _ rfl).2.2,dZ a5,Nat.zero_add,d5,aB];refine .inr ⟨by simp,trivial,trivial,q1,q2,q3,q7,q8,q9,out.length-m,q10,by omega,hgt,λm' hm' hm2=>?_⟩;have:m'=out.length-(m+1):=by omega
       subst this;omega
     ·rintro Q Z ⟨rfl,q1,q2,q3,q7,q8,q9,q10,hgt⟩;unfold kI;rw[Nat.sub_self]at q10;have t3:decide ((0:Int)<((0:Nat):Int))=false:=decide_eq_false (by omega);simp only[SX,nP,nQ,q10,t3,aB];exact⟨by simp,trivial,trivial,q1,q2,q3,q7,q8,q9,0,q10,Nat.zero_le _,λq hq _=>hgt q hq (by omega),λm hm=>by omega⟩
     ·rintro⟨x',Q,Z⟩ ⟨rfl,rfl,q1,q2,q3,q7,q8,q9,n,q10,n1,n2,n3⟩;exact hK Q n q1 q2 q3 q7 q8 q9 q10 n1 n2 n3
    have after:∀(R2:PlanTab.Fr) (n:Nat),R2 7=R 7->R2 8=.int .i64 (j:Int)->R2 9=.pointer (some ⟨U.next,0,none⟩)->R2 10=.int .i64 (n:Int)->n<=out.length->∃u65 u71 v66 v78 v79 v80 U2 U3 U4 U5 U6 U7 U8,
     aR Tryz.prog 32 0 [] U1=some (.slice (some ⟨U1.next,0,none⟩) 0 0,U2)/\(∀W',bU Tryz.prog 32 (R 7) (some (.int .i64 (n:Int))) none none W'=some (u65,W'))/\bG Tryz.prog U2 #[32,32] (.slice (some ⟨U1.next,0,none⟩) 0 0) u65=some (v66,U3)/\
     aR Tryz.prog 32 0 [] U3=some (.slice (some ⟨U3.next,0,none⟩) 0 0,U4)/\(∀W',bU Tryz.prog 32 (R 7) none (some (.int .i64 (n:Int))) none W'=some (u71,W'))/\aL (.pointer (some ⟨U.next,2,none⟩)) U4=some (.int .i64 x.dl,U4)/\
     aR Tryz.prog 32 1 [(0,jQ ((j:Int),x.dl))] U4=some (.slice (some ⟨U4.next,0,none⟩) 1 1,U5)/\bG Tryz.prog U5 #[32,32] (.slice (some ⟨U3.next,0,none⟩) 0 0) u71=some (v78,U6)/\aL (.pointer (some ⟨U.next,2,none⟩)) U6=some (.int .i64 x.dl,U6)/\
     bG Tryz.prog U6 #[32,32] v78 (.slice (some ⟨U4.next,0,none⟩) 1 1)=some (v79,U7)/\bG Tryz.prog U7 #[32,32] v79 v66=some (v80,U8)/\Le W1 U8/\Lst W1.next U8 2 nT v80 (out.take n++[((j:Int),x.dl)]++out.drop n):=by
     intro R2 n q7 q8 q9 q10 hn;obtain⟨u65,g1,g2⟩:=Lst.from out1 hn .i64;obtain⟨u71,g3,g4⟩:=Lst.to out1 hn .i64;have l2:Le U1 (U1.add (.cells [])):=(Le.refl _).add _;have n2:(U1.add (.cells [])).next=U1.next+1:=AW.add_next _ _;have hdl:(out.drop n).length<=4096:=by rw[List.length_drop];omega
     have htl:(out.take n).length<=4096:=by rw[List.length_take];omega
     obtain⟨v66,U3,b1,b2,-,b4,b5⟩:=LB.cat (lo:=U1.next) (W:=U1.add (.cells [])) (l:=[]) a4L jR CL (.inr ⟨rfl,U1.next,by omega,rfl⟩) (g2.mono l2) (λ_ _ _=>hoT) (by simp;omega) (by simp;omega) (by omega);have l3:=b5 U1 l2 (Nat.le_refl _);rw[List.nil_append]at b2;have l4:Le U3 (U3.add (.cells [])):=(Le.refl _).add _;have n4:(U3.add (.cells [])).next=U3.next+1:=AW.add_next _ _;have hU4:(U3.add (.cells [])).get U.next=some (.cells (dP x)):=by rw[l4.get _ (by have:=l3.next;omega),l3.get _ (by omega)];exact a5
     generalize hU4e:U3.add (.cells [])=U4 at *;have l5:Le U4 (U4.add (.cells (nT ((j:Int),x.dl)))):=(Le.refl _).add _;have n5:(U4.add (.cells (nT ((j:Int),x.dl)))).next=U4.next+1:=AW.add_next _ _;have g5:(U4.add (.cells (nT ((j:Int),x.dl)))).get U4.next=some (.cells (nT ((j:Int),x.dl))):=AW.get_add _ _;generalize hU5e:U4.add (.cells (nT ((j:Int),x.dl)))=U5 at *;obtain⟨v78,U6,b6,b7,-,b8,b9⟩:=LB.cat (lo:=U5.next) (W:=U5) (l:=[]) a4L jR CL (.inr ⟨rfl,U3.next,by omega,rfl⟩) (((g4.mono l3).mono l4).mono l5) (λ_ _ _=>hoT) (by simp;omega) (by simp;omega) (Nat.le_refl _);rw[List.nil_append]at b7;have l6:=b9 U5 (Le.refl _) (Nat.le_refl _);have r76:HoL U6 (.slice (some ⟨U4.next,0,none⟩) 1 1) [((j:Int),x.dl)]:=(OO (c:=1) (l:=[((j:Int),x.dl)]) (rest:=[]) (by simpa[nT]using g5) (by omega):HoL U5 _ _).mono l6;obtain⟨v79,U7,c1',c2',c3',c4',c5'⟩:=LB.cat (lo:=U5.next) a4L jR CL b7 r76 (λ_ _ _=>hoT) (by simp;omega) (by simp;omega) (by omega);have l7:=c5' U5 l6 (Nat.le_refl _);have r66:HoL U7 v66 (out.drop n):=(((LB.row b2).mono l4).mono l5).mono l7;obtain⟨v80,U8,f1,f2,f3,f4,f5⟩:=LB.cat (lo:=U5.next) a4L jR CL c2' r66 (λ_ _ _=>hoT) (by simp;omega) (by simp;omega) (by omega);have l8:=f5 U5 l7 (Nat.le_refl _);have k5:=le1.trans (l3.trans (l4.trans l5));refine⟨u65,u71,v66,v78,v79,v80,_,U3,U4,U5,U6,U7,U8,aAP _,g1,b1,by rw[aAP,hU4e],g3,dZ hU4,by rw[aEQ,hU5e],b6,dZ ((l6.get _ (by have:=l3.next;omega)).trans ((l5.get _ (by have:=l3.next;omega)).trans hU4)),c1',f1,k5.trans l8,Lst.low (f3 (by simp)) k5.next⟩
    have hlen7:∀W',aG Tryz.prog .len #[32] 3 #[false] [R 7] W'=some (.int .i64 (out.length:Int),W'):=λW'=>(out1.row jR RV).len wL W' 3 #[false]
    have fin:∀(n:Nat),n<=out.length->(∀q (hq:q<out.length),n<=q->x.dl<out[q].2)->(∀m,m+1=n->∀hm:m<out.length,out[m].2<=x.dl)->Asc (out.take n++[((j:Int),x.dl)]++out.drop n)/\(out.take n++[((j:Int),x.dl)]++out.drop n).Perm ((bQ (l.take (j+1)) (uW k i)).filter (dM most)):=λn n1 n2 n3=>⟨a9B u3 hseat n1 n2 n3,by rw[hin];exact a7g _ _ u4⟩
    have hp:=cp;unfold uW at hp;by_cases c3:0<=i
    ·have d3:=decide_eq_true c3;rw[d3]at hp;have d4:decide (((j % k:Nat):Int)=i)=true:=by simpa using hp
     simp only[SX,nP,nQ,r1,r2,r3,r8,Nat.zero_add,x4,h.row.len jT,t1,decide_true,i1,i2 U (k2.trans u1),a1,a2,eB a5,dZ a5,d1,d2,d3,x0,ZH j k hk0,d4,hlen7];refine inner _ (by exact r1) (by exact r2) (by exact r3) (by rfl) (by exact r8) (by rfl) (by rfl) λR2 n q1 q2 q3 q7 q8 q9 q10 n1 n2 n3=>?_
     obtain⟨u65,u71,v66,v78,v79,v80,U2,U3,U4,U5,U6,U7,U8,s1,s2,s3,s4,s5,s6,s7,s8,s9,s10,s11,s12,s13⟩:=after R2 n q7 q8 q9 q10 n1;simp only[SX,q7,q8,q9,q10,s1,s2,s3,s4,s5,s6,aCB,s7,s8,s9,Nat.zero_add,dF,qK,Bool.and_true,s10,s11,t2,aB];exact .inl ⟨trivial,s12,q1,q2,q3,by rw[e3];rfl,_,s13,(fin n n1 n2 n3).1,(fin n n1 n2 n3).2⟩
    ·have d3:=decide_eq_false c3;simp only[SX,nP,nQ,r1,r2,r3,r8,Nat.zero_add,x4,h.row.len jT,t1,decide_true,i1,i2 U (k2.trans u1),a1,a2,eB a5,dZ a5,d1,d2,d3,hlen7];refine inner _ (by exact r1) (by exact r2) (by exact r3) (by rfl) (by exact r8) (by rfl) (by rfl) λR2 n q1 q2 q3 q7 q8 q9 q10 n1 n2 n3=>?_
     obtain⟨u65,u71,v66,v78,v79,v80,U2,U3,U4,U5,U6,U7,U8,s1,s2,s3,s4,s5,s6,s7,s8,s9,s10,s11,s12,s13⟩:=after R2 n q7 q8 q9 q10 n1;simp only[SX,q7,q8,q9,q10,s1,s2,s3,s4,s5,s6,aCB,s7,s8,s9,Nat.zero_add,dF,qK,Bool.and_true,s10,s11,t2,aB];exact .inl ⟨trivial,s12,q1,q2,q3,by rw[e3];rfl,_,s13,(fin n n1 n2 n3).1,(fin n n1 n2 n3).2⟩
  ·rintro R U ⟨u1,r1,r2,r3,r8,out,u2,u3,u4⟩;unfold uK;have t1:¬((l.length:Int)<(l.length:Int)):=by omega
   have x4:aL (.pointer (some ⟨W.next,4,none⟩)) U=some (rv,U):=iJ (bT ((u1.get _ (by omega)).trans k4)) rfl;rw[List.take_length]at u4;simp only[SX,r3,r8,Nat.zero_add,x4,h.row.len jT,t1,decide_false,aB];exact⟨by simp,trivial,u1,out,u2,u3,u4⟩
  ·rintro⟨q,R,U⟩ ⟨rfl,u1,out,u2,u3,u4⟩;simp only at u1 u2;simp only[SX,aB];exact⟨out,⟨k2.trans u1,NewL.low (Lst.new u2) k2.next⟩,u3,u4⟩
 obtain⟨r,h1,out,h2,h3⟩:=main;obtain⟨u,W',m1,m2,m3⟩:=a7B ⟨r,h1,h2⟩ QF;exact⟨u,W',out,m1,m2,m3,h3⟩
end
theorem a5r{l:List (Int×Int)}{x y:Int×Int}(hx:EW l x)(hy:EW l y):x=y:=a3s (hy.2 x hx.1) (hx.2 y hy.1)
theorem PG{h a b:List (Int×Int)}{now:Int}(ha:mE h now a)(hb:mE h now b):a=b:=a7M (ha.2.trans hb.2.symm) ha.1 hb.1
def TR(l:List SeT):Prop:=∀x,x∈l->x.dl<=9223372036854775807
theorem a6U{l:List SeT}(hl:TR l)(p:Nat->Bool):(bQ l p).filter (dM 9223372036854775807)=bQ l p:=List.filter_eq_self.2 λx hx=>by obtain⟨j,h1,-,-,rfl⟩:=kS.1 hx;have:=hl _ (List.mem_of_getElem? (iK h1));exact decide_eq_true this
section
variable {W:AW} {v:Ven} {sv rv:Value} {l:List SeT} {k:Nat}
theorem a2q(h:RefA W v sv rv l)(hk:v.sh=(k:Int))(hi6:TR l)(i:Int):∃x:Int×Int,aK (.func (.func 89) #[] #[]) [eF v sv rv,.int .i64 i] W=some (.tuple #[jQ x,.int .i64 (RS l k i)],W)/\(RS l k i≠0->x=(0,0))/\(RS l k i=0->EW (bQ l (jX k i.toNat)) x):=by
 have key:∃x:Int×Int,Ok (FC aK (eF v sv rv) (.int .i64 i) W) λr=>(r.1=.tuple #[jQ x,.int .i64 (RS l k i)]/\Le W r.2)/\(RS l k i≠0->x=(0,0))/\(RS l k i=0->EW (bQ l (jX k i.toNat)) x):=by
  unfold FC;obtain⟨W1,k1,k2,k3,k4⟩:=tQ v sv rv W;have hkp:=h.sh;have l1:Le W1 (W1.add (.cells [.int .i64 0,.int .i64 0])):=(Le.refl _).add _;have n1:(W1.add (.cells [.int .i64 0,.int .i64 0])).next=W1.next+1:=AW.add_next _ _;have g1:(W1.add (.cells [.int .i64 0,.int .i64 0])).get W1.next=some (.cells [.int .i64 0,.int .i64 0]):=AW.get_add _ _;simp only[SX,k1,a2o];generalize W1.add (.cells [.int .i64 0,.int .i64 0])=W2 at *;have l2:=k2.trans l1;have x0:W2.get W.next=some (.cells (dJ v sv rv)):=(l1.get _ (by omega)).trans k4;have c0:aL (.pointer (some ⟨W.next,0,none⟩)) W2=some (.int .i64 (k:Int),W2):=by rw[<-hk];exact iJ (bT x0) rfl
  have st0:=NE (0,0) g1;have ld0:bH 2 (.pointer (some ⟨W1.next,0,none⟩)) (W2.put W1.next (.cells [.int .i64 0,.int .i64 0]))=some (jQ (0,0),W2.put W1.next (.cells [.int .i64 0,.int .i64 0])):=F7 (v:=(0,0)) (AW.get_put _ _ _);have fin0:∀o,Le W (W2.put W1.next o):=λo=>l2.put (by omega) o
  by_cases c:dQ i k 0=0;case neg=>
   have en:RS l k i=dQ i k 0:=by unfold RS;rw[if_pos c]
   have e4:dQ i k 0=4:=by
    unfold dQ at c|-;by_cases x:i<0\/(k:Int)<=i
    ·rw[if_pos x]
    ·rw[if_neg x,if_neg (by omega)]at c;exact absurd rfl c
   refine⟨(0,0),?_⟩;by_cases c1:i<0
   ·have d1:=decide_eq_true c1;simp only[SX,nP,nQ,d1,a3S,st0,bF,TG,ld0,Option.bind_some,aB];exact⟨⟨by rw[en,e4],fin0 _⟩,λ_=>trivial,λx=>by omega⟩
   ·have d1:=decide_eq_false c1;have d2:decide ((k:Int)<=i)=true:=decide_eq_true (by unfold dQ at c;split at c<;>first|omega|(split at c<;>omega));simp only[SX,nP,nQ,d1,Nat.zero_add,c0,d2,a3S,st0,bF,TG,ld0,Option.bind_some,aB];exact⟨⟨by rw[en,e4],fin0 _⟩,λ_=>trivial,λx=>by omega⟩
  obtain⟨s,rfl,hs,-⟩:=OX c;have d1:decide ((s:Int)<0)=false:=decide_eq_false (by omega);have d2:decide ((k:Int)<=(s:Int))=false:=decide_eq_false (by omega);have en:RS l k (s:Int)=if bQ l (jX k s)=[]then 4 else 0:=by unfold RS;rw[if_neg (λx=>x c)];rfl
  obtain⟨u,W3,out,a1,a2,a3,a4⟩:=BH (h.mono l2) hk (s:Int) 9223372036854775807;rw[a0N]at a4;unfold mE at a4;rw[a6U hi6]at a4;have g3:W3.get W1.next=some (.cells [.int .i64 0,.int .i64 0]):=(a2.get _ (by omega)).trans g1;have l3:=l2.trans a2;by_cases c5:out=[]
  ·subst c5;have e5:bQ l (jX k s)=[]:=List.Perm.eq_nil (a4.2.symm);have d5:decide ((([]:List (Int×Int)).length:Int)=0)=true:=rfl;have st3:=NE (0,0) g3;have ld3:bH 2 (.pointer (some ⟨W1.next,0,none⟩)) (W3.put W1.next (.cells [.int .i64 0,.int .i64 0]))=some (jQ (0,0),W3.put W1.next (.cells [.int .i64 0,.int .i64 0])):=F7 (v:=(0,0)) (AW.get_put _ _ _);refine⟨(0,0),?_⟩;simp only[SX,nP,nQ,d1,Nat.zero_add,c0,d2,dN x0,a1,a3.row.len wL,d5,a3S,st3,bF,TG,ld3,Option.bind_some,aB];exact⟨⟨by rw[en,if_pos e5],l3.put (by omega) _⟩,λ_=>trivial,λx=>by rw[en,if_pos e5]at x;omega⟩
  ·obtain⟨x,out',rfl⟩:=List.exists_cons_of_ne_nil c5;have e5:¬bQ l (jX k s)=[]:=λy=>by rw[y]at a4;have:=a4.2.length_eq;simp at this
   have d5:decide ((((x::out').length:Nat):Int)=0)=false:=decide_eq_false (by simp;omega);obtain⟨b,o,i1,i2,i3⟩:=HoL.get a3.row (i:=0) (by simp);have i4:=(i3 W3 rfl).1;have i1':∀W' q,gL 2 u (.int q 0) W'=some (.pointer (some ⟨b,o,none⟩),W'):=i1;have st3:=NE x g3;have ld3:=F7 (v:=x) (W:=W3.put W1.next (.cells [.int .i64 x.1,.int .i64 x.2])) (b:=W1.next) (AW.get_put _ _ _);have i5:bH 2 (.pointer (some ⟨b,o,none⟩)) W3=some (jQ x,W3):=i4;refine⟨x,?_⟩;simp only[SX,nP,nQ,d1,Nat.zero_add,c0,d2,dN x0,a1,a3.row.len wL,d5,i1',i5,st3,bF,TG,ld3,Option.bind_some,aB];refine⟨⟨by rw[en,if_neg e5],l3.put (by omega) _⟩,λy=>by rw[en,if_neg e5]at y;exact absurd rfl y,λ_=>⟨a4.2.mem_iff.1 (List.mem_cons_self ..),λy hy=>?_⟩⟩;have hy':=a4.2.mem_iff.2 hy;rcases List.mem_cons.1 hy' with rfl|hy'
   ·exact a0Q _
   ·exact(List.pairwise_cons.1 a4.1).1 y hy'
 obtain⟨x,r,h1,⟨h2,h3⟩,h4⟩:=key;exact⟨x,aN rfl ⟨r,h1,h2,h3⟩ TF,h4⟩
theorem WA(h:RefA W v sv rv l)(hk:v.sh=(k:Int))(i now:Int):∃u W',∃l',aK (.func (.func 90) #[] #[]) [eF v sv rv,.int .i64 i,.int .i64 now] W=some (.tuple #[u,.int .i64 (dQ i k now)],W')/\Le W W'/\NewL W.next W' u l'/\(dQ i k now≠0->l'=[])/\(dQ i k now=0->mE (bQ l (jX k i.toNat)) now l'):=by
 obtain⟨W1,k1,k2,k3,k4⟩:=tQ v sv rv W;have hkp:=h.sh;have c0:aL (.pointer (some ⟨W.next,0,none⟩)) W1=some (.int .i64 (k:Int),W1):=by rw[<-hk];exact iJ (bT k4) rfl
 have main:∃l',Ok (KG aK (eF v sv rv) (.int .i64 i) (.int .i64 now) W) (λr=>∃u,r.1=.tuple #[u,.int .i64 (dQ i k now)]/\Le W r.2/\NewL W.next r.2 u l')/\(dQ i k now≠0->l'=[])/\(dQ i k now=0->mE (bQ l (jX k i.toNat)) now l'):=by
  unfold KG;by_cases c1:i<0
  ·have d1:=decide_eq_true c1;have e:dQ i k now=4:=by unfold dQ;rw[if_pos (.inl c1)]
   refine⟨[],?_,λ_=>rfl,λx=>by omega⟩;simp only[SX,nP,nQ,k1,d1,aB];exact⟨_,by rw[e],k2,NewL.nil _ _⟩
  have d1:=decide_eq_false c1;by_cases c2:(k:Int)<=i
  ·have d2:=decide_eq_true c2;have e:dQ i k now=4:=by unfold dQ;rw[if_pos (.inr c2)]
   refine⟨[],?_,λ_=>rfl,λx=>by omega⟩;simp only[SX,nP,nQ,k1,d1,Nat.zero_add,c0,d2,aB];exact⟨_,by rw[e],k2,NewL.nil _ _⟩
  have d2:=decide_eq_false c2;by_cases c3:now<0
  ·have d3:=decide_eq_true c3;have e:dQ i k now=7:=by unfold dQ;rw[if_neg (by omega),if_pos c3]
   refine⟨[],?_,λ_=>rfl,λx=>by omega⟩;simp only[SX,nP,nQ,k1,d1,Nat.zero_add,c0,d2,d3,aB];exact⟨_,by rw[e],k2,NewL.nil _ _⟩
  have d3:=decide_eq_false c3;have e:dQ i k now=0:=by unfold dQ;rw[if_neg (by omega),if_neg c3]
  obtain⟨u,W3,out,a1,a2,a3,a4⟩:=BH (h.mono k2) hk i now;obtain⟨s,rfl⟩:∃s:Nat,i=(s:Int):=⟨i.toNat,by omega⟩;rw[a0N]at a4;refine⟨out,?_,λx=>absurd e x,λ_=>a4⟩;simp only[SX,nP,nQ,k1,d1,Nat.zero_add,c0,d2,d3,dN k4,a1,aB];exact⟨u,by rw[e],k2.trans a2,NewL.low a3 k2.next⟩
 obtain⟨l',m1,m2,m3⟩:=main;obtain⟨u,W',r1,r2,r3⟩:=C8 m1 X3;exact⟨u,W',l',r1,r2,r3,m2,m3⟩
theorem Z5(h:RefA W v sv rv l)(hk:v.sh=(k:Int))(now:Int):∃u W',∃l',aK (.func (.func 91) #[] #[]) [eF v sv rv,.int .i64 now] W=some (.tuple #[u,.int .i64 (if now<0 then 7 else 0)],W')/\Le W W'/\NewL W.next W' u l'/\(now<0->l'=[])/\(0<=now->mE (bQ l λ_=>true) now l'):=by
 obtain⟨W1,k1,k2,k3,k4⟩:=tQ v sv rv W;have main:∃l',Ok (AA aK (eF v sv rv) (.int .i64 now) W) (λr=>∃u,r.1=.tuple #[u,.int .i64 (if now<0 then 7 else 0)]/\Le W r.2/\NewL W.next r.2 u l')/\(now<0->l'=[])/\(0<=now->mE (bQ l λ_=>true) now l'):=by
  unfold AA;by_cases c3:now<0
  ·have d3:=decide_eq_true c3;refine⟨[],?_,λ_=>rfl,λx=>by omega⟩;simp only[SX,nP,nQ,k1,d3,if_pos c3,aB];exact⟨_,rfl,k2,NewL.nil _ _⟩
  have d3:=decide_eq_false c3;obtain⟨u,W3,out,a1,a2,a3,a4⟩:=BH (h.mono k2) hk (-1) now;rw[a7o]at a4;refine⟨out,?_,λx=>absurd x c3,λ_=>a4⟩;simp only[SX,nP,nQ,k1,Nat.zero_add,d3,dN k4,a1,if_neg c3,aB];exact⟨u,rfl,k2.trans a2,NewL.low a3 k2.next⟩
 obtain⟨l',m1,m2,m3⟩:=main;obtain⟨u,W',r1,r2,r3⟩:=C8 m1 SQ;exact⟨u,W',l',r1,r2,r3,m2,m3⟩
end
def BlS(lo:Nat)(W:AW)(u:Value)(l:List SeT):Prop:=∃B c,lo<=B/\B<W.next/\u=.slice (some ⟨B,0,none⟩) l.length c/\(l≠[]->W.get B=some (.cells (l.flatMap dP)))
theorem BlS.row{lo:Nat}{W:AW}{u:Value}{l:List SeT}(h:BlS lo W u l):SeL W u l:=OwnL.row (lo:=lo) dX h KE
theorem BlS.sl{lo:Nat}{W:AW}{u:Value}{l:List SeT}(h:BlS lo W u l):Sl u:=by obtain⟨B,c,h0,h1,rfl,h2⟩:=h;exact⟨rfl,pY _ _ _ _⟩
theorem BlS.keep{lo:Nat}{W W':AW}{u:Value}{l:List SeT}(h:BlS lo W u l)(hn:W.next<=W'.next)(hg:∀b,lo<=b->b<W.next->W'.get b=W.get b):BlS lo W' u l:=by obtain⟨B,c,h0,h1,rfl,h2⟩:=h;exact⟨B,c,h0,by omega,rfl,λhl=>(hg B h0 h1).trans (h2 hl)⟩
theorem BlS.put{lo:Nat}{W:AW}{u:Value}{l:List SeT}(h:BlS lo W u l){s:Nat}{x:SeT}(hs:l[s]? =some x):∃b o,lo<=b/\b<W.next/\(∀U q,gL 5 u (.int q (s:Int)) U=some (.pointer (some ⟨b,o,none⟩),U))/\(∀U,U.get b=W.get b->bH 5 (.pointer (some ⟨b,o,none⟩)) U=some (lY x,U))/\
 ∀y U,U.get b=W.get b->W.next<=U.next->cO 5 (.pointer (some ⟨b,o,none⟩)) (lY y) U=some (undef,U.put b (.cells ((l.set s y).flatMap dP)))/\BlS lo (U.put b (.cells ((l.set s y).flatMap dP))) u (l.set s y):=by
 obtain⟨B,c,h0,h1,rfl,h2⟩:=h;obtain⟨hi,-⟩:=List.getElem?_eq_some_iff.1 hs;have hne:l≠[]:=λe=>by rw[e]at hi;simp at hi
 have hg:=h2 hne;refine⟨B,s*5,h0,h1,λU q=>?_,λU hU=>?_,λy U hU hn=>⟨?_,B,c,h0,by rw[AW.put_next];omega,by rw[List.length_set],λ_=>AW.get_put _ _ _⟩⟩
 ·have:=mZ (W:=U) (z:=5) (b:=B) (o:=0) (l:=l.length) (c:=c) (i:=s) (k:=q) hi;rwa [Nat.zero_add]at this
 ·rw[EQ,bK (hU.trans hg)];simp only[Option.bind_some,V6 dX hs,dX,if_true]
 ·have hst:=zL (n:=5) (b:=B) (o:=s*5) (v:=lY y) (hU.trans hg) rfl (by show s*5+5<=_;rw[aZ dX];omega) rfl;have e5:jO (l.flatMap dP) (s*5) (lY y).cells.toList=(l.set s y).flatMap dP:=zK dX hs y;rw[hst,e5]
section
variable {W:AW} {v:Ven} {sv rv:Value} {l:List SeT} {k:Nat}
theorem TY(h:RefA W v sv rv l)(hk:v.sh=(k:Int))(i now:Int):∃rv' u W',∃l',aK (.func (.func 92) #[] #[]) [eF v sv rv,.int .i64 i,.int .i64 now] W=some (.tuple #[eF v sv rv',u,.int .i64 (dQ i k now)],W')/\Le W W'/\NewL W.next W' u l'/\(dQ i k now≠0->l'=[])/\(dQ i k now=0->mE (bQ l (jX k i.toNat)) now l')/\RefA W' v sv rv' (sM l now l')/\((rv'=rv/\l'=[])\/BlS W.next W' rv' (sM l now l')):=by
 obtain⟨W1,k1,k2,k3,k4⟩:=tQ v sv rv W;obtain⟨W2,a1,a2,a3,a4⟩:=WJ W1;have l2:=k2.trans a2;have x1:W2.get W.next=some (.cells (dJ v sv rv)):=(a2.get _ (by omega)).trans k4;obtain⟨u,W3,l',e1,e2,e3,e4,e5⟩:=WA (h.mono l2) hk i now;have l3:=l2.trans e2;have n3:=e2.next;have x3:W3.get W.next=some (.cells (dJ v sv rv)):=(e2.get _ (by omega)).trans x1;have y3:W3.get W1.next=some (.cells (dJ ⟨0,0,0,[]⟩ (.slice none 0 0) (.slice none 0 0))):=(e2.get _ (by omega)).trans a4;have hs1:=h.s1.1;have hr1:=h.r1.1;have hlb:=h.lb;have main:Ok (xS aK (eF v sv rv) (.int .i64 i) (.int .i64 now) W) (λr=>∃rv' u,r.1=.tuple #[eF v sv rv',u,.int .i64 (dQ i k now)]/\Le W r.2/\NewL W.next r.2 u l'/\RefA r.2 v sv rv' (sM l now l')/\((rv'=rv/\l'=[])\/BlS W.next r.2 rv' (sM l now l'))):=by
  unfold xS;by_cases c:dQ i k now=0;case neg=>
   have d1:=decide_eq_false c;have hl0:=e4 c;have st3:=qZ (v:=v) y3 hs1 hr1;have ld3:=dN (v:=v) (sv:=sv) (rv:=rv) (W:=W3.put W1.next (.cells (dJ v sv rv))) (b:=W1.next) (AW.get_put _ _ _);simp only[SX,k1,a1,dN x1,e1,d1,dN x3,st3,ZA,DF,ld3,Option.bind_some,aB];have lf:=l3.put (show W.next<=W1.next by omega) (.cells (dJ v sv rv));refine⟨rv,_,rfl,lf,?_,?_,.inl ⟨rfl,hl0⟩⟩
   ·rw[hl0];exact NewL.nil _ _
   ·rw[hl0];exact h.mono lf
  have d0:decide ((0:Int)=0)=true:=rfl;have hd:=e5 c;have hl':l'.length<=4096:=by have h1:=hd.2.length_eq;have h2:=List.length_filter_le (dM now) (bQ l (jX k i.toNat));have h3:=kV l (jX k i.toNat);omega
  have l4:Le W3 (W3.add (.cells [])):=(Le.refl _).add _;have n4:(W3.add (.cells [])).next=W3.next+1:=AW.add_next _ _;have x4:(W3.add (.cells [])).get W.next=some (.cells (dJ v sv rv)):=(l4.get _ (by omega)).trans x3;have c4:aL (.pointer (some ⟨W.next,4,none⟩)) (W3.add (.cells []))=some (rv,W3.add (.cells [])):=iJ (bT x4) rfl;rw[c]at e1|-;simp only[SX,k1,a1,dN x1,e1,d0,a7u,Nat.zero_add,c4];generalize W3.add (.cells [])=W4 at *;obtain⟨w,W5,b1,b2,b3⟩:=IP a4F dX CB ((h.row.mono l3).mono l4) (λ_ _ _=>a3Q) (by omega) (by omega) (b:=W3.next) (by omega);have b3':BlS W3.next W5 w l:=b3;have hw:=b3'.sl;have n5:=b2.next;have x5:W5.get W.next=some (.cells (dJ v sv rv)):=(b2.get _ (by omega)).trans x4;have hwv:vsame w w=true:=by obtain⟨B,cc,-,-,rfl,-⟩:=b3;exact A9 _ _ _ _
  have wc:w.cells=#[w]:=by obtain⟨B,cc,-,-,rfl,-⟩:=b3;rfl
  have st5:cO 1 (.pointer (some ⟨W.next,4,none⟩)) w W5=some (undef,W5.put W.next (.cells (dJ v sv w))):=YM (b:=W.next) (o:=4) (v:=w) x5 (by simp) wc hw.1;simp only[SX,b1,st5];have z1:(W5.put W.next (.cells (dJ v sv w))).get W.next=some (.cells (dJ v sv w)):=AW.get_put _ _ _;have z2:∀b,b≠W.next->(W5.put W.next (.cells (dJ v sv w))).get b=W5.get b:=λb hb=>AW.get_put_ne _ _ λx=>hb x.symm
  have z3:(W5.put W.next (.cells (dJ v sv w))).next=W5.next:=rfl;generalize W5.put W.next (.cells (dJ v sv w))=W6 at *;have l35:Le W3 W5:=l4.trans b2;have l35:Le W3 W5:=l4.trans b2;have hw6:BlS W3.next W6 w l:=b3'.keep (by omega) λb hb _=>z2 b (by omega)
  have hlu:=λW'=>e3.row.len wL W' 3 #[false]
  have uU:∀U:AW,W6.next<=U.next->(∀b,b<W3.next->U.get b=W6.get b)->NewL W2.next U u l':=λU h1 h2=>e3.gr (K:=λb=>b<W2.next\/W3.next<=b) ⟨by omega,λb hb hn=>by
   rw[h2 b hb,z2 b (by omega),l35.get b hb]⟩ (λb g1 g2 g3=>by omega);refine bD l'.length (by omega) (λj R U=>R 2=.int .i64 now/\R 3=.pointer (some ⟨W.next,0,none⟩)/\R 6=.pointer (some ⟨W1.next,0,none⟩)/\R 9=u/\R 11=.int .i64 (j:Int)/\W6.next<=U.next/\(∀b,b<W3.next->U.get b=W6.get b)/\BlS W3.next U w (sM l now (l'.take j)))
   (λr=>r.1=.exit 0/\r.2.1 3=.pointer (some ⟨W.next,0,none⟩)/\r.2.1 6=.pointer (some ⟨W1.next,0,none⟩)/\r.2.1 9=u/\W6.next<=r.2.2.next/\(∀b,b<W3.next->r.2.2.get b=W6.get b)/\BlS W3.next r.2.2 w (sM l now l')) ⟨rfl,rfl,rfl,rfl,rfl,Nat.le_refl _,λ_ _=>rfl,by rw[List.take_zero];exact hw6⟩ ?_ ?_ ?_
  ·rintro j R U hj ⟨r2,r3,r6,r9,r11,u1,u2,u3⟩;unfold rZ;have t1:((j:Int)<(l'.length:Int)):=by omega
   have t2:=λW'=>aU (P:=Tryz.prog) (W:=W') (t:=3) (c:=false) (d:=true) (a:=(j:Int)) (b:=1) (by omega) (by omega)
   have e6:((j+1:Nat):Int)=(j:Int)+1:=by omega
   obtain⟨b,o,i1,i2,i3⟩:=HoL.get (uU U u1 u2).row hj;obtain⟨s,s1,s2⟩:=a7H hd (List.getElem_mem hj);have i4:=(i3 U rfl).2.1;rw[s1]at i4;have hs:(sM l now (l'.take j))[s]? =some (mY (sM l now (l'.take j)) s):=iK (by rw[wK];exact s2);have x4:aL (.pointer (some ⟨W.next,4,none⟩)) U=some (w,U):=iJ (bT ((u2 _ (by omega)).trans z1)) rfl;obtain⟨b',o',p0,p1,p2,p3,p4⟩:=u3.put hs;obtain⟨q1,q2⟩:=p4 (rJ (mY (sM l now (l'.take j)) s) now) U rfl (Nat.le_refl _);simp only[SX,r2,r3,r9,r11,hlu,t1,decide_true,i1,x4,Nat.zero_add,Nat.add_zero,i4,p2,p3 U rfl,Y3,dF,qK,hwv,Bool.and_self,q1,t2,aB];refine .inl ⟨trivial,r2,r3,r6,r9,by rw[e6];rfl,u1,λb hb=>by rw[AW.get_put_ne _ _ (by omega)];exact u2 b hb,?_⟩;rw[List.take_succ_eq_append_getElem hj,VE];unfold Z7;rw[s1,Int.toNat_natCast];exact q2
  ·rintro R U ⟨r2,r3,r6,r9,r11,u1,u2,u3⟩;unfold rZ;have t1:¬((l'.length:Int)<(l'.length:Int)):=by omega
   rw[List.take_length]at u3;simp only[SX,r9,r11,hlu,t1,decide_false,aB];exact⟨by simp,trivial,r3,r6,r9,u1,u2,u3⟩
  ·rintro⟨q,R,U⟩ ⟨rfl,r3,r6,r9,u1,u2,u3⟩;simp only at r3 r6 r9 u1 u2 u3;have st7:=qZ (v:=v) (rv:=w) ((u2 W1.next (by omega)).trans ((z2 _ (by omega)).trans ((l35.get _ (by omega)).trans y3))) hs1 hw.1;have ld7:=dN (v:=v) (sv:=sv) (rv:=w) (W:=U.put W1.next (.cells (dJ v sv w))) (b:=W1.next) (AW.get_put _ _ _);simp only[SX,r3,r6,r9,dN ((u2 W.next (by omega)).trans z1),st7,ZA,DF,ld7,Option.bind_some,aB];have lf:Le W (U.put W1.next (.cells (dJ v sv w))):=by refine Le.put ⟨by omega,λb hb=>?_⟩ (by omega) _;rw[u2 b (by have:=l3.next;omega),z2 b (by omega),l35.get b (by have:=l3.next;omega)];exact l3.get b hb
   have hbl:BlS W3.next (U.put W1.next (.cells (dJ v sv w))) w (sM l now l'):=u3.keep (Nat.le_refl _) λb hb _=>AW.get_put_ne _ _ (by omega)
   refine⟨w,u,rfl,lf,?_,h.with lf hw (BlS.row hbl) (by rw[wK];exact hlb),.inr ?_⟩;rotate_left
   ·obtain⟨B,c,q0,q1,q2,q3⟩:=hbl;exact⟨B,c,by have:=l3.next;omega,q1,q2,q3⟩
   refine NewL.low (lo:=W2.next) ?_ (by omega);exact(uU U u1 u2).gr (K:=λb=>b=W1.next) ⟨Nat.le_refl _,λb hb hn=>AW.get_put_ne _ _ λx=>hn x.symm⟩ (λb g1 g2 g3=>by omega)
 obtain⟨⟨r,W'⟩,h1,rv',u',h2,h3,h4,h5,h6⟩:=main;simp only at h2 h3 h4 h5 h6;subst h2;rcases XH (W:=W) (W':=W') (.tuple #[eF v sv rv',u',.int .i64 (dQ i k now)])with hg|⟨hg,hle,hp⟩
 ·exact⟨rv',u',W',l',by rw[yT h1,hg],h3,h4,e4,e5,h5,h6⟩
 ·have hp2:∃c,u'=.slice none l'.length c/\l'=[]:=by
   simp[bB,fV,bZ]at hp;obtain⟨a',c',rfl,hr⟩:=h4;refine⟨c',?_⟩;rcases hr with hr|⟨B,rest,rfl,-⟩
   ·cases a'
    ·exact⟨rfl,hr⟩
    ·simp[bB,fV,bZ]at hp
   ·simp[bB,fV,bZ]at hp
  obtain⟨c',rfl,hl0⟩:=hp2;rcases h6 with h6|⟨B,c,-,-,rfl,-⟩
  ·refine⟨rv',_,W,l',by rw[yT h1,hg],Le.refl _,⟨none,c',rfl,.inl hl0⟩,e4,e5,?_,.inl h6⟩;rw[h6.1,hl0];exact h
  ·simp[bB,fV,bZ]at hp
end
theorem aDj(W:AW):aW Tryz.prog 242 W=some (.pointer (some ⟨W.next,0,none⟩),W.add (.cells [.int .i64 0,.int .i64 0,.int .i64 0])):=Eq.trans (by kernel_rfl) rfl
section
variable {W:AW} {v:Ven} {sv rv:Value} {l:List SeT} {k:Nat}
theorem aAO(h:RefA W v sv rv l)(hv:(lW v).2=0){W':AW}(hl:Le W W')(sec:Int):aK (.func (.func 155) #[] #[]) [kR v sv,.int .i64 sec] W'=some (.tuple #[.int .i64 (CP v sec).1,.int .i64 (CP v sec).2.1,.int .i64 (CP v sec).2.2],W'):=by have g:=(fT hv).1;rw[<-a8T];exact a7Q (h.secs.mono hl) (by have:=g.len;omega) (λs hs=>by have:=(g.rows s hs).2.1;omega)
theorem a0c(h:RefA W v sv rv l)(hv:(lW v).2=0)(ht:(l.length:Int)=dA v.secs)(sec:Int):∃u W',aK (.func (.func 93) #[] #[]) [eF v sv rv,.int .i64 sec] W=some (.tuple #[u,.int .i64 (CP v sec).2.2],W')/\Le W W'/\Ints W' u (SK v l sec):=by
 obtain⟨W1,k1,k2,k3,k4⟩:=tQ v sv rv W;have hse:=aAO h hv k2 sec;have hlb:=h.lb;refine O5 ?_ TL;unfold SI;by_cases c:(CP v sec).2.2=0;case neg=>have d1:=decide_eq_false c;simp only[SX,k1,YO k4,hse,d1,aB];refine⟨_,rfl,k2,?_⟩;unfold SK;rw[if_neg c];exact Row.nil
 obtain⟨F,C,e1,e2,e3⟩:=BU c;have d0:decide ((0:Int)=0)=true:=rfl;have hfr:SK v l sec=MR l F C:=by unfold SK;rw[if_pos c,e1,e2,Int.toNat_natCast,Int.toNat_natCast]
 rw[e1,e2,c]at hse;rw[c,hfr];simp only[SX,k1,YO k4,hse,d0];refine bD C (by omega) (λi R U=>Le W1 U/\R 2=.pointer (some ⟨W.next,0,none⟩)/\R 6=.int .i64 (F:Int)/\R 7=.int .i64 (C:Int)/\R 10=.int .i64 ((F+i:Nat):Int)/\Lst W1.next U 1 vO (R 9) (MR l F i))
  (λr=>r.1=.exit 0/\Le W1 r.2.2/\Lst W1.next r.2.2 1 vO (r.2.1 9) (MR l F C)) ⟨Le.refl _,rfl,rfl,rfl,rfl,Lst.nil _ _ _ _⟩ ?_ ?_ ?_
 ·rintro i R U hi ⟨u1,r2,r6,r7,r10,u2⟩;unfold wE;have t0:=λW'=>aU (P:=Tryz.prog) (W:=W') (t:=3) (c:=false) (d:=false) (a:=(F:Int)) (b:=(C:Int)) (by omega) (by omega)
  have t1:(((F+i:Nat):Int)<(F:Int)+(C:Int)):=by omega
  have t2:=λW'=>aU (P:=Tryz.prog) (W:=W') (t:=3) (c:=false) (d:=true) (a:=((F+i:Nat):Int)) (b:=1) (by omega) (by omega)
  have e6:((F+(i+1):Nat):Int)=((F+i:Nat):Int)+1:=by omega
  have x4:aL (.pointer (some ⟨W.next,4,none⟩)) U=some (rv,U):=iJ (bT ((u1.get _ (by omega)).trans k4)) rfl;obtain⟨b,o,-,i1,-,i3⟩:=SeL.get h.row (iK (l:=l) (j:=F+i) (by omega));have i4:=i3 U (k2.trans u1);have hfl:=GN l F i;by_cases c2:(mY l (F+i)).st=0
  ·have d2:=decide_eq_true c2;have hb:cellsAt (U.add (.cells (vO ((F+i:Nat):Int)))) U.next=some (vO ((F+i:Nat):Int)):=bR;obtain⟨v',U',p1,p2,p3,p4⟩:=(u2.mono ((Le.refl U).add (.cells (vO ((F+i:Nat):Int))))).push (c:=1) aAZ A7 RU hb (by omega) (by omega) (by rw[AW.add_next];have:=u1.next;omega);simp only[SX,r2,r6,r7,r10,t0,t1,decide_true,x4,i1,Nat.zero_add,Nat.add_zero,i4,d2,aCL,p1,t2,aB];refine .inl ⟨trivial,p4 W1 (u1.add _) (Nat.le_refl _),r2,r6,r7,by rw[e6];rfl,?_⟩;rw[D5,if_pos c2];exact p2
  ·have d2:=decide_eq_false c2;simp only[SX,r2,r6,r7,r10,t0,t1,decide_true,x4,i1,Nat.zero_add,Nat.add_zero,i4,d2,t2,aB];refine .inl ⟨trivial,u1,r2,r6,r7,by rw[e6];rfl,?_⟩;rw[D5,if_neg c2,List.append_nil];exact u2
 ·rintro R U ⟨u1,r2,r6,r7,r10,u2⟩;unfold wE;have t0:=λW'=>aU (P:=Tryz.prog) (W:=W') (t:=3) (c:=false) (d:=false) (a:=(F:Int)) (b:=(C:Int)) (by omega) (by omega)
  have t1:¬(((F+C:Nat):Int)<(F:Int)+(C:Int)):=by omega
  simp only[SX,r6,r7,r10,t0,t1,decide_false,aB];exact⟨by simp,trivial,u1,u2⟩
 ·rintro⟨q,R,U⟩ ⟨rfl,u1,u2⟩;simp only at u1 u2;simp only[SX,aB];exact⟨_,rfl,k2.trans u1,u2.ints⟩
theorem a1l(h:RefA W v sv rv l)(hv:(lW v).2=0)(ht:(l.length:Int)=dA v.secs)(hok:∀x,x∈l->vY x=0)(sec:Int):aK (.func (.func 94) #[] #[]) [eF v sv rv,.int .i64 sec] W=some (.tuple #[.int .i64 (D9 v l sec 0),.int .i64 (D9 v l sec 1),.int .i64 (D9 v l sec 2),.int .i64 (CP v sec).2.2],W):=by
 obtain⟨W1,k1,k2,k3,k4⟩:=tQ v sv rv W;have hse:=aAO h hv k2 sec;have hlb:=h.lb;refine aN rfl ?_ SL;unfold LZ;by_cases c:(CP v sec).2.2=0;case neg=>
  have d1:=decide_eq_false c;have e:∀t,D9 v l sec t=0:=λt=>by unfold D9;rw[if_neg c]
  simp only[SX,k1,YO k4,hse,d1,xQ,aB];exact⟨by rw[e,e,e],k2⟩
 obtain⟨F,C,e1,e2,e3⟩:=BU c;have d0:decide ((0:Int)=0)=true:=rfl;have hco:∀t,D9 v l sec t=(eZ l F C t:Int):=λt=>by unfold D9;rw[if_pos c,e1,e2,Int.toNat_natCast,Int.toNat_natCast]
 rw[e1,e2,c]at hse;rw[c,hco,hco,hco];have l2:Le W1 (W1.add (.cells [.int .i64 0,.int .i64 0,.int .i64 0])):=(Le.refl _).add _;have n2:(W1.add (.cells [.int .i64 0,.int .i64 0,.int .i64 0])).next=W1.next+1:=AW.add_next _ _;have g2:(W1.add (.cells [.int .i64 0,.int .i64 0,.int .i64 0])).get W1.next=some (.cells [.int .i64 0,.int .i64 0,.int .i64 0]):=AW.get_add _ _;simp only[SX,k1,YO k4,hse,d0,aDj];generalize W1.add (.cells [.int .i64 0,.int .i64 0,.int .i64 0])=W2 at *;let cs:Nat->List Value:=λi=>[.int .i64 (eZ l F i 0:Int),.int .i64 (eZ l F i 1:Int),.int .i64 (eZ l F i 2:Int)]
 refine bD C (by omega) (λi R U=>U.next=W2.next/\(∀b,b<W1.next->U.get b=W2.get b)/\U.get W1.next=some (.cells (cs i))/\R 2=.pointer (some ⟨W.next,0,none⟩)/\R 8=.int .i64 (F:Int)/\R 9=.int .i64 (C:Int)/\R 12=.int .i64 ((F+i:Nat):Int)/\R 11=.pointer (some ⟨W1.next,0,none⟩))
  (λr=>r.1=.exit 0/\(∀b,b<W1.next->r.2.2.get b=W2.get b)/\r.2.2.next=W2.next/\r.2.2.get W1.next=some (.cells (cs C))/\r.2.1 11=.pointer (some ⟨W1.next,0,none⟩)) ⟨rfl,λ_ _=>rfl,g2,rfl,rfl,rfl,rfl,rfl⟩ ?_ ?_ ?_
 ·rintro i R U hi ⟨u0,u1,u2,r2,r8,r9,r12,r11⟩;unfold uJ;have t0:=λW'=>aU (P:=Tryz.prog) (W:=W') (t:=3) (c:=false) (d:=false) (a:=(F:Int)) (b:=(C:Int)) (by omega) (by omega)
  have t1:(((F+i:Nat):Int)<(F:Int)+(C:Int)):=by omega
  have t2:=λW'=>aU (P:=Tryz.prog) (W:=W') (t:=3) (c:=false) (d:=true) (a:=((F+i:Nat):Int)) (b:=1) (by omega) (by omega)
  have e6:((F+(i+1):Nat):Int)=((F+i:Nat):Int)+1:=by omega
  have t3:=λt W'=>aU (P:=Tryz.prog) (W:=W') (t:=3) (c:=false) (d:=true) (a:=(eZ l F i t:Int)) (b:=1) (by omega) (by have:=a3g l F i t;omega)
  have hU:Le W U:=⟨by have:=k2.next;omega,λb hb=>by have:=k2.next;rw[u1 b (by omega),l2.get b (by omega)];exact k2.get b hb⟩;have x4:aL (.pointer (some ⟨W.next,4,none⟩)) U=some (rv,U):=iJ (bT ((u1 _ (by omega)).trans ((l2.get _ (by omega)).trans k4))) rfl;have hx:=iK (l:=l) (j:=F+i) (by omega);obtain⟨b,o,-,i1,-,i3⟩:=SeL.get h.row hx;have i4:=i3 U hU;have hst:=a0e (hok _ (List.mem_of_getElem? hx));have q:∀t,eZ l F (i+1) t=eZ l F i t+if(mY l (F+i)).st=t then 1 else 0:=WP l F i
  have qy:∀t,(mY l (F+i)).st=t->(eZ l F (i+1) t:Int)=(eZ l F i t:Int)+1:=λt ht=>by rw[q,if_pos ht];rfl
  have qn:∀t,(mY l (F+i)).st≠t->(eZ l F (i+1) t:Int)=(eZ l F i t:Int):=λt ht=>by rw[q,if_neg ht];rfl
  have ldn:∀j (hj:j<3),aL (.pointer (some ⟨W1.next,j,none⟩)) U=some ((cs i)[j]'hj,U):=λj hj=>iJ (bT u2) (List.getElem?_eq_getElem hj)
  have keep:∀o b,b<W1.next->(U.put W1.next o).get b=W2.get b:=λo b hb=>by rw[AW.get_put_ne _ _ (by omega)];exact u1 b hb
  rcases hst with c2|c2|c2
  ·have ix0:ixA 3 1 (.pointer (some ⟨W1.next,0,none⟩)) (.int .i64 0) U=some (.pointer (some ⟨W1.next,0,none⟩),U):=L6 (i:=0) (by omega);have l0:aL (.pointer (some ⟨W1.next,0,none⟩)) U=some (.int .i64 (eZ l F i 0:Int),U):=ldn 0 (by omega);have s0:=YM (o:=0) (v:=.int .i64 ((eZ l F i 0:Int)+1)) u2 (by show 0<3;omega) rfl rfl;simp only[SX,r2,r8,r9,r12,r11,t0,t1,decide_true,x4,i1,Nat.zero_add,Nat.add_zero,i4,c2,ix0,l0,t3,s0,t2,aB];refine .inl ⟨trivial,u0,keep _,?_,r2,r8,r9,by rw[e6];rfl,r11⟩;rw[AW.get_put];show some (AObj.cells [.int .i64 ((eZ l F i 0:Int)+1),.int .i64 (eZ l F i 1:Int),.int .i64 (eZ l F i 2:Int)])=some (AObj.cells (cs (i+1)));show _=some (AObj.cells [.int .i64 (eZ l F (i+1) 0:Int),.int .i64 (eZ l F (i+1) 1:Int),.int .i64 (eZ l F (i+1) 2:Int)]);rw[qy 0 c2,qn 1 (by omega),qn 2 (by omega)]
  ·have ix0:ixA 3 1 (.pointer (some ⟨W1.next,0,none⟩)) (.int .i64 1) U=some (.pointer (some ⟨W1.next,1,none⟩),U):=L6 (i:=1) (by omega);have l0:aL (.pointer (some ⟨W1.next,1,none⟩)) U=some (.int .i64 (eZ l F i 1:Int),U):=ldn 1 (by omega);have s0:=YM (o:=1) (v:=.int .i64 ((eZ l F i 1:Int)+1)) u2 (by show 1<3;omega) rfl rfl;simp only[SX,r2,r8,r9,r12,r11,t0,t1,decide_true,x4,i1,Nat.zero_add,Nat.add_zero,i4,c2,ix0,l0,t3,s0,t2,aB];refine .inl ⟨trivial,u0,keep _,?_,r2,r8,r9,by rw[e6];rfl,r11⟩;rw[AW.get_put];show some (AObj.cells [.int .i64 (eZ l F i 0:Int),.int .i64 ((eZ l F i 1:Int)+1),.int .i64 (eZ l F i 2:Int)])=some (AObj.cells [.int .i64 (eZ l F (i+1) 0:Int),.int .i64 (eZ l F (i+1) 1:Int),.int .i64 (eZ l F (i+1) 2:Int)]);rw[qn 0 (by omega),qy 1 c2,qn 2 (by omega)]
  ·have ix0:ixA 3 1 (.pointer (some ⟨W1.next,0,none⟩)) (.int .i64 2) U=some (.pointer (some ⟨W1.next,2,none⟩),U):=L6 (i:=2) (by omega);have l0:aL (.pointer (some ⟨W1.next,2,none⟩)) U=some (.int .i64 (eZ l F i 2:Int),U):=ldn 2 (by omega);have s0:=YM (o:=2) (v:=.int .i64 ((eZ l F i 2:Int)+1)) u2 (by show 2<3;omega) rfl rfl;simp only[SX,r2,r8,r9,r12,r11,t0,t1,decide_true,x4,i1,Nat.zero_add,Nat.add_zero,i4,c2,ix0,l0,t3,s0,t2,aB];refine .inl ⟨trivial,u0,keep _,?_,r2,r8,r9,by rw[e6];rfl,r11⟩;rw[AW.get_put];show some (AObj.cells [.int .i64 (eZ l F i 0:Int),.int .i64 (eZ l F i 1:Int),.int .i64 ((eZ l F i 2:Int)+1)])=some (AObj.cells [.int .i64 (eZ l F (i+1) 0:Int),.int .i64 (eZ l F (i+1) 1:Int),.int .i64 (eZ l F (i+1) 2:Int)]);rw[qn 0 (by omega),qn 1 (by omega),qy 2 c2]
 ·rintro R U ⟨u0,u1,u2,r2,r8,r9,r12,r11⟩;unfold uJ;have t0:=λW'=>aU (P:=Tryz.prog) (W:=W') (t:=3) (c:=false) (d:=false) (a:=(F:Int)) (b:=(C:Int)) (by omega) (by omega)
  have t1:¬(((F+C:Nat):Int)<(F:Int)+(C:Int)):=by omega
  simp only[SX,r8,r9,r12,t0,t1,decide_false,aB];exact⟨by simp,trivial,u1,u0,u2,r11⟩
 ·rintro⟨q,R,U⟩ ⟨rfl,u1,u0,u2,r11⟩;simp only at u1 u0 u2 r11;have ix:=λ(j:Nat) (hj:j<3)=>L6 (W:=U) (len:=3) (z:=1) (b:=W1.next) (o:=0) (i:=j) (k:=.i64) hj
  have ix0:ixA 3 1 (.pointer (some ⟨W1.next,0,none⟩)) (.int .i64 0) U=some (.pointer (some ⟨W1.next,0,none⟩),U):=ix 0 (by omega);have ix1:ixA 3 1 (.pointer (some ⟨W1.next,0,none⟩)) (.int .i64 1) U=some (.pointer (some ⟨W1.next,1,none⟩),U):=ix 1 (by omega);have ix2:ixA 3 1 (.pointer (some ⟨W1.next,0,none⟩)) (.int .i64 2) U=some (.pointer (some ⟨W1.next,2,none⟩),U):=ix 2 (by omega);have l0:aL (.pointer (some ⟨W1.next,0,none⟩)) U=some (.int .i64 (eZ l F C 0:Int),U):=iJ (bT u2) rfl;have l1:aL (.pointer (some ⟨W1.next,1,none⟩)) U=some (.int .i64 (eZ l F C 1:Int),U):=iJ (bT u2) rfl;have l2':aL (.pointer (some ⟨W1.next,2,none⟩)) U=some (.int .i64 (eZ l F C 2:Int),U):=iJ (bT u2) rfl;simp only[SX,r11,ix0,ix1,ix2,l0,l1,l2',xQ,aB];refine⟨trivial,by have:=k2.next;omega,λb hb=>?_⟩;have:=k2.next;rw[u1 b (by omega),l2.get b (by omega)];exact k2.get b hb
end
def XQ(l:List SeT):Bool:=l.any λx=> !decide (vY x=0)
theorem a9Z{l:List SeT}(h:XQ l=false){x:SeT}(hx:x∈l):vY x=0:=by unfold XQ at h;rw[List.any_eq_false]at h;have:=h x hx;simpa using this
def uM(v:Ven)(l:List SeT):Int:=if(bX v).2≠0 then(bX v).2 else if(l.length:Int)≠(bX v).1 then 6 else if XQ l=true then 6 else 0
theorem QT{v:Ven}{l:List SeT}(h:uM v l=0):(lW v).2=0/\(l.length:Int)=dA v.secs/\(∀x,x∈l->vY x=0)/\l.length<=4096/\1<=v.sh/\v.sh<=16:=by
 unfold uM at h;split at h
 ·exact absurd h (by assumption)
 ·rename_i h1;split at h
  ·omega
  ·rename_i h2;split at h
   ·omega
   ·rename_i h3;have hv:(lW v).2=0:=by apply Classical.byContradiction;intro c;apply h1;unfold bX;rw[if_neg c];exact c
    have e1:(bX v).1=dA v.secs:=by unfold bX;rw[if_pos hv]
    obtain⟨-,g2,-,-,g5,-⟩:=fT hv;rw[e1]at h2;have h4:=Classical.not_not.1 h2;refine⟨hv,h4,λx hx=>a9Z (by simpa using h3) hx,by omega,?_⟩;unfold H7 at g2;simp only[Bool.or_eq_false_iff]at g2;have:=g2.1.1;unfold lN at this;simp at this;omega
theorem a7I{W:AW}{v fv:Value}{l:List SeT}{p:SeT->Bool}(h:SeL W v l)(hp:∀x,x∈l->aK fv [lY x] W=some (.bool (p x),W))(hl:l.length<=10000):aK (.func (.func 131) #[] #[]) [v,fv] W=some (.int .i64 (pW p l),W):=by
 refine aN rfl ?_ kK;unfold gH;simp only[SX,h.len jT];refine bD l.length (by omega) (λi R V=>V=W/\R 0=v/\R 1=fv/\R 7=.int .i64 (l.length:Int)/\R 8=.int .i64 (i:Int)/\∀j (hj:j<i) (hj2:j<l.length),p l[j]=false)
  (λr=>r.2.2=W/\((r.1=.exit 0/\pW p l= -1)\/(r.1=.ret/\r.2.1 4=.int .i64 (pW p l)))) ⟨rfl,rfl,rfl,rfl,rfl,λj hj=>by omega⟩ ?_ ?_ ?_
 ·rintro i R V hi ⟨rfl,r0,r1,r7,r8,ha⟩;unfold dI;have t1:((i:Int)<(l.length:Int)):=by omega
  have t2:=λW'=>aU (P:=Tryz.prog) (W:=W') (t:=3) (c:=false) (d:=true) (a:=(i:Int)) (b:=1) (by omega) (by omega)
  have e3:((i+1:Nat):Int)=(i:Int)+1:=by omega
  obtain⟨b,o,-,i1,i3,-⟩:=SeL.get h (List.getElem?_eq_getElem hi);cases hc:p l[i]with
  |true=>simp only[SX,r0,r1,r7,r8,t1,decide_true,i1,i3 _ (Le.refl _),hp _ (List.getElem_mem hi),hc,aB];exact .inr ⟨by simp,trivial,.inr ⟨trivial,by rw[ZR hi hc λj hj=>ha j hj (by omega)];rfl⟩⟩
  |false=>
   simp only[SX,r0,r1,r7,r8,t1,decide_true,i1,i3 _ (Le.refl _),hp _ (List.getElem_mem hi),hc,t2,aB];refine .inl ⟨trivial,trivial,r0,r1,r7,by rw[e3];rfl,λj hj hj2=>?_⟩;by_cases c:j=i
   ·subst c;exact hc
   ·exact ha j (by omega) hj2
 ·rintro R V ⟨rfl,r0,r1,r7,r8,ha⟩;unfold dI;have t1:¬((l.length:Int)<(l.length:Int)):=by omega
  simp only[SX,r7,r8,t1,decide_false,aB];refine⟨by simp,trivial,.inl ⟨trivial,O7 λx hx=>?_⟩⟩;obtain⟨j,hj,rfl⟩:=List.mem_iff_getElem.1 hx;exact ha j hj hj
 ·rintro⟨q,R,V⟩ ⟨rfl,hq⟩;simp only at hq;rcases hq with⟨rfl,e⟩|⟨rfl,r4⟩
  ·simp only[SX,aB];exact⟨by rw[e],Le.refl _⟩
  ·simp only[SX,r4,aB];exact⟨trivial,Le.refl _⟩
theorem a7p(x:SeT)(W:AW):aK (.func (.func 69) #[] #[]) [lY x] W=some (.bool (!decide (vY x=0)),W):=by refine aN rfl ?_ LA;unfold EA;have hg:(W.add (.cells (dP x))).get W.next=some (.cells (dP x)):=AW.get_add _ _;have hle:Le W (W.add (.cells (dP x))):=(Le.refl _).add _;simp only[SX,BK,Nat.zero_add];generalize W.add (.cells (dP x))=W1 at *;simp only[SX,bM hg,jM,aB];exact⟨trivial,hle⟩
theorem a02{W:AW}{v:Value}{l:List SeT}(h:SeL W v l)(hl:l.length<=10000):aK (.func (.func 68) #[] #[]) [v,.func (.func 69) #[] #[]] W=some (.bool (XQ l),W):=by
 refine aN rfl ?_ jN;unfold fH;have hi:=a7I (p:=λx=> !decide (vY x=0)) h (λx _=>a7p x W) hl;simp only[SX,hi,aB];refine⟨?_,Le.refl _⟩;congr 1;unfold XQ;rcases UJ (λx:SeT=> !decide (vY x=0)) l with⟨h1,h2⟩|⟨i,hi,h2,h3,-⟩
 ·rw[h2,List.any_eq_false.2 λx hx=>by rw[h1 x hx];decide];decide
 ·rw[h2,List.any_eq_true.2 ⟨_,List.getElem_mem hi,h3⟩];exact decide_eq_true (by omega)
section
variable {W:AW} {v:Ven} {sv rv:Value} {l:List SeT}
theorem aEL(W:AW):dG Tryz.prog 56 [] W=some (eF ⟨0,0,0,[]⟩ (.slice none 0 0) (.slice none 0 0),W):=Eq.trans (by kernel_rfl) rfl
theorem aDe(v:Ven)(sv:Value)(a:Option Addr)(n c:Nat)(W:AW):dG Tryz.prog 56 [(0,kR v sv),(1,.slice a n c)] W=some (eF v sv (.slice a n c),W):=Eq.trans (by kernel_rfl) rfl
theorem IB(v:Ven)(sv:Value)(W:AW):∃W1,bW (kR v sv) W=some (.pointer (some ⟨W.next,0,none⟩),W1)/\Le W W1/\W1.next=W.next+1/\W1.get W.next=some (.cells [.int .i64 v.sh,.int .i64 v.ttl,.int .i64 v.ses,sv]):=⟨_,gF _,(Le.refl _).add _,AW.add_next _ _,AW.get_add _ _⟩
theorem vJ{v:Ven}{sv:Value}{W:AW}{b:Nat}(h:W.get b=some (.cells [.int .i64 v.sh,.int .i64 v.ttl,.int .i64 v.ses,sv])):bH 4 (.pointer (some ⟨b,0,none⟩)) W=some (kR v sv,W):=sS (bK h) rfl
abbrev aDT:Value:=eF ⟨0,0,0,[]⟩ (.slice none 0 0) (.slice none 0 0)
end
theorem u69:Tryz.prog.underlying 69=some (.slice 3):=by kernel_rfl
theorem aET(c d:Bool)(l k:Nat)(W:AW):aD Tryz.prog .eql 69 c d (.slice none l k) (.slice none 0 0) W=some (.bool true,W):=by unfold aD kJ jC;simp only[u69];rfl
theorem aEm(c d:Bool)(a:Addr)(l k:Nat)(W:AW):aD Tryz.prog .eql 69 c d (.slice (some a) l k) (.slice none 0 0) W=some (.bool false,W):=by unfold aD kJ jC;simp only[u69]
theorem aC7(W:AW):aR Tryz.prog 69 0 [] W=some (.slice (some ⟨W.next,0,none⟩) 0 0,W.add (.cells [])):=Eq.trans (by kernel_rfl) rfl
theorem aEk{cs:List Value}{p:Nat}{x:Int}(h:LV .i64 cs p x):(cs.drop p).take 1=vO x:=by obtain⟨i0,e0⟩:=List.getElem?_eq_some_iff.1 h;rw[List.drop_eq_getElem_cons i0,e0];rfl
def FI(lo:Nat)(W:AW)(u:Value)(l:List Int):Prop:=∃a c,u=.slice a l.length c/\(l=[]\/∃B,a=some ⟨B,0,none⟩/\lo<=B/\B<W.next/\W.get B=some (.cells (l.flatMap vO)))
theorem FI.ints{lo:Nat}{W:AW}{u:Value}{l:List Int}(h:FI lo W u l):Ints W u l:=by
 obtain⟨a,c,rfl,hr⟩:=h;rcases hr with hr|⟨B,rfl,h1,h2,h3⟩
 ·exact⟨a,c,rfl,.inl hr⟩
 ·exact OwnL.row (lo:=0) A7 ⟨B,c,Nat.zero_le _,h2,rfl,λ_=>h3⟩ a3q
theorem FI.keep{lo:Nat}{W W':AW}{u:Value}{l:List Int}(h:FI lo W u l)(hn:W.next<=W'.next)(hg:∀b,lo<=b->b<W.next->W'.get b=W.get b):FI lo W' u l:=by
 obtain⟨a,c,rfl,hr⟩:=h;rcases hr with hr|⟨B,e,h1,h2,h3⟩
 ·exact⟨a,c,rfl,.inl hr⟩
 ·exact⟨a,c,rfl,.inr ⟨B,e,h1,by omega,(hg B h1 h2).trans h3⟩⟩
theorem FI.one{lo:Nat}{W:AW}{u:Value}{l:List Int}(h:FI lo W u l):u.cells=#[u]/\Eng.one u=true:=by obtain⟨a,c,rfl,-⟩:=h;exact⟨rfl,rfl⟩
theorem aAR{o t:Option (Value×AW)}{W:AW}{lo:Nat}{l:List Int}(h:Ok t λr=>Le W r.2/\FI lo r.2 r.1 l)(hom:∀{r},t=some r->o=some (gc W r)):∃v W2,o=some (v,W2)/\Le W W2/\FI lo W2 v l:=by
 obtain⟨⟨v,W'⟩,h1,h2,h3⟩:=h;cases hp:(bB v&& !isU v)
 ·exact⟨v,W',by rw[hom h1,eG hp],h2,h3⟩
 ·refine⟨v,W,by rw[hom h1,uR hp h2],.refl _,?_⟩;obtain⟨a,c,rfl,hr⟩:=h3;rcases hr with hr|⟨B,rfl,-⟩
  ·exact⟨a,c,rfl,.inl hr⟩
  ·exact absurd hp (by simp[bB,fV,bZ])
theorem a0b{W:AW}{v:Value}{l:List Int}(h:Ints W v l)(hn:l.length<=10000):∃u W',aK (.func (.func 72) #[] #[]) [v] W=some (u,W')/\Le W W'/\FI W.next W' u l:=by
 have hh:=h;obtain⟨a,c,rfl,h⟩:=h;cases a with
 |none=>
  have main:Ok (iA aK (.slice none l.length c) W) λr=>Le W r.2/\FI W.next r.2 r.1 l:=by
   unfold iA;simp only[SX,aET,aB];rcases h with h|⟨b,o,cs,h1,-⟩
   ·exact⟨Le.refl _,none,0,by rw[h];rfl,.inl h⟩
   ·cases h1
  exact aAR main pM
 |some a=>
  have main:Ok (iA aK (.slice (some a) l.length c) W) λr=>Le W r.2/\FI W.next r.2 r.1 l:=by
   unfold iA;have l1:Le W (W.add (.cells [])):=(Le.refl _).add _;have n1:(W.add (.cells [])).next=W.next+1:=AW.add_next _ _;simp only[SX,aEm,aC7];generalize W.add (.cells [])=W1 at *;obtain⟨u,W',k1,k2,B,c',k3,k4,rfl,k5⟩:=IP aAZ A7 RU (hh.mono l1) (λ_ _ _=>aEk) (by omega) (by omega) (b:=W.next) (by omega);simp only[SX,k1,aB];refine⟨l1.trans k2,_,_,rfl,?_⟩;by_cases he:l=[]
   ·exact .inl he
   ·exact .inr ⟨B,rfl,k3,k4,k5 he⟩
  exact aAR main pM
def DJ(l:List Sec)(i:Nat):Sec:=l.getD i ⟨[],[],0⟩
theorem FQ{l:List Sec}{i:Nat}(h:i<l.length):DJ l i=l[i]:=by unfold DJ;rw[List.getD_eq_getElem?_getD,List.getElem?_eq_getElem h];rfl
def vU(l:List Sec)(g:Nat->Value)(i:Nat):List Value:=[.string (aO (DJ l i).name),g i,.int .i64 (DJ l i).q]
theorem o7(l:List Sec)(g:Nat->Value)(i:Nat):(vU l g i).length=3:=rfl
def aBh(l:List Sec)(g:Nat->Value)(cs:List Value)(p i:Nat):Prop:=(cs.drop p).take 3=vU l g i
theorem a4w{W:AW}{sv:Value}{l:List Sec}(h:Secs W sv l):∃g:Nat->Value,(∀i,Eng.one (g i)=true)/\(∀i,i<l.length->Ints W (g i) (DJ l i).rows)/\Row W 3 (aBh l g) sv (List.range l.length):=by
 obtain⟨a,c,rfl,h⟩:=h;have ex:∀i,∃rv:Value,Eng.one rv=true/\(i<l.length->Ints W rv (DJ l i).rows/\∀b o cs,a=some ⟨b,o,none⟩->cellsAt W b=some cs->(l=[]\/∀i (h:i<l.length),a3k W cs (o+i*3) l[i])->(cs.drop (o+i*3)).take 3=[.string (aO (DJ l i).name),rv,.int .i64 (DJ l i).q]):=λi=>by
  by_cases hi:i<l.length
  ·rcases h with h|⟨b,o,cs,rfl,h2,h3,h4⟩
   ·rw[h]at hi;simp at hi
   ·obtain⟨s1,s2,rv,s3,s4⟩:=h4 i hi;rw[<-FQ hi]at s1 s2 s4;refine⟨rv,?_,λ_=>⟨s4,λb' o' cs' e1 e2 _=>?_⟩⟩
    ·obtain⟨a',c',rfl,-⟩:=s4;exact a5D _ _ _
    ·injection e1 with e1;injection e1 with e1 e3;subst e1 e3;rw[h3]at e2;injection e2 with e2;subst e2;exact a6E s1 s3 s2
  ·exact⟨.slice none 0 0,rfl,λx=>absurd x hi⟩
 refine⟨λi=>Classical.choose (ex i),λi=>(Classical.choose_spec (ex i)).1,λi hi=>((Classical.choose_spec (ex i)).2 hi).1,?_⟩;rcases h with h|⟨b,o,cs,rfl,h2,h3,h4⟩
 ·exact⟨a,c,by rw[List.length_range],.inl (by rw[h];rfl)⟩
 ·refine⟨_,c,by rw[List.length_range],.inr ⟨b,o,cs,rfl,h2,h3,λi hi=>?_⟩⟩;rw[List.length_range]at hi;rw[List.getElem_range];exact((Classical.choose_spec (ex i)).2 hi).2 b o cs rfl h3 (.inr h4)
theorem aEh:nI Tryz.prog #[22,22] 3 48=true:=by kernel_rfl
theorem u22:Tryz.prog.underlying 22=some (.slice 130):=by kernel_rfl
theorem aEC(c d:Bool)(a:Addr)(l k:Nat)(W:AW):aD Tryz.prog .eql 22 c d (.slice (some a) l k) (.slice none 0 0) W=some (.bool false,W):=by unfold aD kJ jC;simp only[u22]
theorem aCI(W:AW):aR Tryz.prog 22 0 [] W=some (.slice (some ⟨W.next,0,none⟩) 0 0,W.add (.cells [])):=Eq.trans (by kernel_rfl) rfl
theorem a0A{Wb W:AW}{sv:Value}{l:List Sec}(h:SecsC Wb sv l)(hle:Le Wb W)(h0:l≠[])(hn:l.length<=10000):∃B W',∃g:Nat->Value,aK (.func (.func 71) #[] #[]) [sv] W=some (.slice (some ⟨B,0,none⟩) l.length (dH+3),W')/\Le W W'/\W.next<=B/\B<W'.next/\W'.get B=some (.cells ((List.range l.length).flatMap (vU l g)))/\(∀i,Eng.one (g i)=true)/\∀i,i<l.length->Ints Wb (g i) (DJ l i).rows:=by
 obtain⟨g,g1,g2,g3'⟩:=a4w h.1;have g3:=g3'.mono hle;obtain⟨-,a,c,rfl,-,h4⟩:=h;obtain⟨b,o,rfl⟩:=h4 h0;have main:Ok (dL aK (.slice (some ⟨b,o,none⟩) l.length c) W) λr=>∃B,r.1=.slice (some ⟨B,0,none⟩) l.length (dH+3)/\Le W r.2/\W.next<=B/\B<r.2.next/\r.2.get B=some (.cells ((List.range l.length).flatMap (vU l g))):=by
  unfold dL;have l1:Le W (W.add (.cells [])):=(Le.refl _).add _;have n1:(W.add (.cells [])).next=W.next+1:=AW.add_next _ _;simp only[SX,aEC,aCI];generalize W.add (.cells [])=W1 at *;obtain⟨a',c',e1,hr⟩:=g3;rw[List.length_range]at e1;injection e1 with e1 e2 e3;subst e1 e3;rcases hr with hr|⟨b',o',cs,e4,q1,q2,q3⟩
  ·rw[List.range_eq_nil]at hr;exact absurd (List.length_eq_zero_iff.1 hr) h0
  injection e4 with e4;injection e4 with e4 e5;subst e4 e5;have e:(List.range l.length).flatMap (vU l g)=(cs.drop o).take (l.length*3):=by
   have:=GD (o7 l g) (List.range l.length) cs o λi hi=>q3 i hi
   rw[List.length_range]at this;exact this.symm
  have hall:((List.range l.length).flatMap (vU l g)).all Eng.one=true:=by rw[List.all_flatMap,List.all_eq_true];intro i _;unfold vU;simp only[List.all_cons,List.all_nil,xK,vF,g1,Bool.and_self]
  have hap:=GX (P:=Tryz.prog) (W:=W1) (ts:=#[22,22]) aEh (b:=b) (o:=o) (n:=l.length) (c:=c) (new:=(List.range l.length).flatMap (vU l g)) (by rw[l1.cellsAt q1];exact q2) e (by rw[aZ (o7 l g),List.length_range]) (List.length_pos_iff.2 h0) hall (a:=⟨W.next,0,none⟩) (by omega) (by omega);simp only[SX,hap,aB];exact⟨_,rfl,l1.add _,by omega,by rw[AW.add_next];omega,AW.get_add _ _⟩
 obtain⟨⟨r,W'⟩,h1,B,h2,h3,h5,h6,h7⟩:=main;simp only at h2 h3 h6 h7;subst h2;exact⟨B,W',g,by rw[jV h1,eG rfl],h3,h5,h6,h7,g1,g2⟩
theorem a8H{l:List Sec}{g:Nat->Value}{n i:Nat}(hi:i<n)(u:Value):((List.range n).flatMap (vU l g)).set (i*3+1) u=(List.range n).flatMap (vU l λj=>if j=i then u else g j):=by
 have hr:(List.range n)[i]? =some i:=List.getElem?_range hi;obtain⟨e1,e2⟩:=gD (o7 l g) hr;obtain⟨e3,-⟩:=gD (o7 l λj=>if j=i then u else g j) hr;have t1:∀xs:List Nat,(∀j∈xs,j≠i)->xs.flatMap (vU l λj=>if j=i then u else g j)=xs.flatMap (vU l g):=λxs hx=>by
  rw[List.flatMap_def,List.flatMap_def];congr 1;refine List.map_congr_left λj hj=>?_
  unfold vU;simp only[hx j hj,if_false]
 have h1:∀j∈(List.range n).take i,j≠i:=λj hj e=>by obtain⟨k,hk,rfl⟩:=List.mem_iff_getElem.1 hj;rw[List.length_take,List.length_range]at hk;rw[List.getElem_take,List.getElem_range]at e;omega
 have h2:∀j∈(List.range n).drop (i+1),j≠i:=λj hj e=>by obtain⟨k,hk,rfl⟩:=List.mem_iff_getElem.1 hj;rw[List.getElem_drop,List.getElem_range]at e;omega
 rw[e3,t1 _ h1,t1 _ h2,e1,List.set_append_right _ _ (by rw[e2];omega),e2,Nat.add_sub_cancel_left];unfold vU;simp
theorem a5U{l:List Sec}{g:Nat->Value}{n i:Nat}(hi:i<n):((List.range n).flatMap (vU l g))[i*3+1]? =some (g i):=pU (o:=1) (o7 l g) (List.getElem?_range hi) (by omega)
theorem a8x{W:AW}{B:Nat}{l:List Sec}{g:Nat->Value}(hB:W.get B=some (.cells ((List.range l.length).flatMap (vU l g))))(hl:B<W.next)(hg:∀i,i<l.length->Ints W (g i) (DJ l i).rows):SecsC W (.slice (some ⟨B,0,none⟩) l.length (dH+3)) l:=by
 refine⟨⟨_,_,rfl,.inr ⟨B,0,_,rfl,hl,bK hB,λi hi=>?_⟩⟩,_,_,rfl,.inr rfl,λ_=>⟨B,0,rfl⟩⟩;have hr:(List.range l.length)[i]? =some i:=List.getElem?_range hi;rw[Nat.zero_add];refine⟨?_,?_,g i,pU (o:=1) (o7 l g) hr (by omega),?_⟩
 ·rw[<-FQ hi];exact pU (o:=0) (o7 l g) hr (by omega)
 ·rw[<-FQ hi];exact pU (o:=2) (o7 l g) hr (by omega)
 ·rw[<-FQ hi];exact hg i hi
theorem aAn{k j:Nat}(H:Nat->Nat)(tv:Nat->Value)(hj:j<k)(u:Value):(shC k H tv).set (j*2+1) u=shC k H λi=>if i=j then u else tv i:=by
 have hr:(List.range k)[j]? =some j:=List.getElem?_range hj;obtain⟨e1,e2⟩:=gD (JF H tv) hr;obtain⟨e3,-⟩:=gD (JF H λi=>if i=j then u else tv i) hr;have t1:∀xs:List Nat,(∀i∈xs,i≠j)->xs.flatMap (shE H λi=>if i=j then u else tv i)=xs.flatMap (shE H tv):=λxs hx=>by
  rw[List.flatMap_def,List.flatMap_def];congr 1;refine List.map_congr_left λi hi=>?_
  unfold shE;simp only[hx i hi,if_false]
 have h1:∀i∈(List.range k).take j,i≠j:=λi hi e=>by obtain⟨m,hm,rfl⟩:=List.mem_iff_getElem.1 hi;rw[List.length_take,List.length_range]at hm;rw[List.getElem_take,List.getElem_range]at e;omega
 have h2:∀i∈(List.range k).drop (j+1),i≠j:=λi hi e=>by obtain⟨m,hm,rfl⟩:=List.mem_iff_getElem.1 hi;rw[List.getElem_drop,List.getElem_range]at e;omega
 unfold shC;rw[e3,t1 _ h1,t1 _ h2,e1,List.set_append_right _ _ (by rw[e2];omega),e2,Nat.add_sub_cancel_left];unfold shE;simp
theorem SlS.push{W:AW}{T:Nat}{v:Value}{xs:List SeT}(h:SlS W T v xs){x:SeT}{b c:Nat}(hc:cellsAt W b=some (dP x))(hb:xs.length<=10000):
 ∃v' W',bG Tryz.prog W #[25,25] v (.slice (some ⟨b,0,none⟩) 1 c)=some (v',W')/\SlS W' W.next v' (xs++[x])/\W'.next=W.next+1/\(∀b,b<W.next->(xs≠[]->b≠T)->W'.get b=W.get b)/\v'.cells=#[v']/\Eng.one v'=true:=by
 have hn:dP x=((dP x).drop 0).take (1*5):=rfl;rcases h with⟨rfl,rfl⟩|⟨h0,h1,rfl,h3⟩
 ·refine⟨_,_,H5 (b:=b) (o:=0) (c:=c) a4F hc hn rfl (by omega) (CB x) (by omega) (by omega),.inr ⟨by simp,by rw[AW.add_next];omega,by simp,by rw[AW.get_add];simp⟩,AW.add_next _ _,λb hb _=>AW.get_add_ne _ _ (by omega),rfl,rfl⟩
 ·have hpos:0<xs.length:=List.length_pos_iff.2 h0;refine⟨_,_,YG (b:=b) (o:=0) (c:=c) a4F hc hn rfl (by omega) (CB x) h3 (aZ dX xs) (by omega) (by omega) hpos,.inr ⟨by simp,by rw[AW.add_next,AW.kill_next];omega,by simp[AW.kill_next],?_⟩,by rw[AW.add_next,AW.kill_next],λb hb hT=>?_,rfl,rfl⟩
  ·have:=(W.kill T).get_add (.cells (xs.flatMap dP++dP x));rw[AW.kill_next]at this;rw[this,List.flatMap_append];simp
  ·rw[AW.get_add_ne _ _ (by rw[AW.kill_next];omega),AW.get_kill_ne _ (λe=>hT h0 e.symm)]
def Md.push(d:Md)(j T:Nat)(u:Value):Md:={d with T:=λi=>if i=j then T else d.T i,tv:=λi=>if i=j then u else d.tv i}
section
variable {K:Nat->Prop} {V:AW} {d:Md} {l:List SeT} {e:Nat->List (Int×Int)}
theorem MapP.push(h:MapP K V d l e)(hl:l.length<d.many){x:SeT}{b c:Nat}(hc:cellsAt V b=some (dP x)):
 ∃u V1,∃V2,bG Tryz.prog V #[25,25] (d.tv (l.length % d.k)) (.slice (some ⟨b,0,none⟩) 1 c)=some (u,V1)/\cO 1 (.pointer (some ⟨d.SB,l.length % d.k*2+1,none⟩)) u V1=some (undef,V2)/\MapP K V2 (d.push (l.length % d.k) V.next u) (l++[x]) e/\Gr V V2 K:=by
 have hk:0<d.k:=h.kp.1;have hi:=Nat.mod_lt l.length hk;have hmn:=h.mn;have hcl:(fF l d.k (l.length % d.k)).length<=10000:=by rw[iG];unfold cnt;have:=Nat.div_le_self (l.length+d.k-1-l.length % d.k) d.k;have:=h.kp.2;omega
 obtain⟨u,V1,p1,p2,p3,p4,p5,p6⟩:=(h.col _ hi).push (c:=c) hc hcl;have hT:∀(hn:fF l d.k (l.length % d.k)≠[]),K (d.T (l.length % d.k))/\d.T (l.length % d.k)≠d.M/\d.T (l.length % d.k)≠d.SB:=h.tk _ hi;have g1:∀b,b<V.next->(fF l d.k (l.length % d.k)≠[]->b≠d.T (l.length % d.k))->V1.get b=V.get b:=p4;have hsb:V1.get d.SB=some (.cells (shC d.k d.H d.tv)):=(g1 _ h.sl λhn c=>(hT hn).2.2 c.symm).trans h.sc;have hst:=YM (b:=d.SB) (o:=l.length % d.k*2+1) (v:=u) hsb (by unfold shC;rw[aZ (JF d.H d.tv),List.length_range];omega) p5 p6;rw[aAn d.H d.tv hi u]at hst;obtain⟨V2,hV2⟩:∃V2,V2=V1.put d.SB (.cells (shC d.k d.H λi=>if i=l.length % d.k then u else d.tv i)):=⟨_,rfl⟩;rw[<-hV2]at hst;have n2:V2.next=V.next+1:=by rw[hV2];exact p3
 have z1:V2.get d.SB=some (.cells (shC d.k d.H λi=>if i=l.length % d.k then u else d.tv i)):=by rw[hV2];exact AW.get_put _ _ _
 have z0:∀b,b≠d.SB->V2.get b=V1.get b:=λb hb=>by rw[hV2];exact AW.get_put_ne _ _ λx=>hb x.symm
 have g2:∀b,b<V.next->b≠d.SB->(fF l d.k (l.length % d.k)≠[]->b≠d.T (l.length % d.k))->V2.get b=V.get b:=λb hb h1 h2=>(z0 b h1).trans (g1 b hb h2)
 have hcol:∀i,i<d.k->fF (l++[x]) d.k i=if l.length % d.k=i then fF l d.k i++[x]else fF l d.k i:=λi hi'=>a4m hi' x
 have hne:∀i,i<d.k->i≠l.length % d.k->fF (l++[x]) d.k i=fF l d.k i:=λi hi' hn=>by rw[hcol i hi',if_neg λc=>hn c.symm]
 have hTi:∀i,(d.push (l.length % d.k) V.next u).T i=if i=l.length % d.k then V.next else d.T i:=λi=>rfl
 have htvi:∀i,(d.push (l.length % d.k) V.next u).tv i=if i=l.length % d.k then u else d.tv i:=λi=>rfl
 have hTc:∀i,i<d.k->fF (l++[x]) d.k i≠[]->(i=l.length % d.k/\(d.push (l.length % d.k) V.next u).T i=V.next)\/(i≠l.length % d.k/\(d.push (l.length % d.k) V.next u).T i=d.T i/\fF l d.k i≠[]/\d.T i<V.next):=λi hi' h0=>by
  by_cases c:i=l.length % d.k
  ·exact .inl ⟨c,by rw[hTi,if_pos c]⟩
  ·rw[hne i hi' c]at h0;exact .inr ⟨c,by rw[hTi,if_neg c],h0,(h.col i hi').lt h0⟩
 refine⟨u,V1,V2,p1,hst,?_,⟨by omega,λb hb hn=>g2 b hb (λc=>hn (by rw[c];exact h.sk)) λhc c=>hn (by rw[c];exact(hT hc).1)⟩⟩;refine{up:=λb hb=>h.up b (by omega),mc:=(g2 _ h.ml (λc=>h.ne c.symm) λhc c=>(hT hc).2.1 c.symm).trans h.mc,ml:=by have:=h.ml;show d.M<V2.next;omega,kM:=h.kM,sc:=z1,sl:=by have:=h.sl;show d.SB<V2.next;omega,sk:=h.sk,ne:=h.ne,vk:=h.vk,kp:=h.kp,mn:=h.mn,ll:=by rw[List.length_append,List.length_singleton];exact hl,col:=?_,tk:=?_,tt:=?_,ho:=?_,al:=λi hi' b hb=>by have:=h.al i hi' b hb;omega,ak:=h.ak,am:=h.am,at_:=?_,aa:=h.aa,es:=h.es,w0:=?_,wk:=h.wk,secs:=h.secs}
 ·intro i hi';by_cases c:i=l.length % d.k
  ·show SlS V2 ((d.push (l.length % d.k) V.next u).T i) ((d.push (l.length % d.k) V.next u).tv i) (fF (l++[x]) d.k i);rw[hTi,htvi,if_pos c,if_pos c,hcol i hi',if_pos c.symm,c];exact p2.keep (by omega) λ_=>z0 _ (by have:=h.sl;omega)
  ·show SlS V2 ((d.push (l.length % d.k) V.next u).T i) ((d.push (l.length % d.k) V.next u).tv i) (fF (l++[x]) d.k i);rw[hTi,htvi,if_neg c,if_neg c,hne i hi' c];exact(h.col i hi').keep (by omega) λh0=>g2 _ ((h.col i hi').lt h0) (h.tk i hi' h0).2.2 λh1 e=>c (h.tt i _ hi' hi h0 h1 e)
 ·intro i hi' h0;rcases hTc i hi' h0 with⟨c,e⟩|⟨c,e,h1,h2⟩
  ·rw[e];exact⟨h.up _ (Nat.le_refl _),by have:=h.ml;show V.next≠d.M;omega,by have:=h.sl;show V.next≠d.SB;omega⟩
  ·rw[e];exact h.tk i hi' h1
 ·intro i j hi' hj h0 h1 ee;rcases hTc i hi' h0 with⟨c,e⟩|⟨c,e,h2,h3⟩<;>rcases hTc j hj h1 with⟨c',e'⟩|⟨c',e',h2',h3'⟩
  ·rw[c,c']
  ·rw[e,e']at ee;omega
  ·rw[e,e']at ee;omega
  ·rw[e,e']at ee;exact h.tt i j hi' hj h2 h2' ee
 ·intro i hi';exact(h.ho i hi').keep (by omega) (λb hb hx=>g2 b hb (h.am i hi' b hx).2 λh1 c=>h.at_ i _ hi' hi h1 (by rw[<-c];exact hx)) (λb _ hx=>hx)
 ·intro i j hi' hj h0 hb;rcases hTc j hj h0 with⟨c,e⟩|⟨c,e,h2,h3⟩
  ·rw[e]at hb;have:=h.al i hi' _ hb;omega
  ·rw[e]at hb;exact h.at_ i j hi' hj h2 hb
 ·refine⟨by have:=h.w0.next;show d.W0.next<=V2.next;omega,λb hb=>(g2 b (Nat.lt_of_lt_of_le hb h.w0.next) (λc=>?_) λhc c=>?_).trans (h.w0.get b hb)⟩
  ·exact absurd (h.wk _ h.sk) (by rw[<-c];exact Nat.not_le.2 hb)
  ·exact absurd (h.wk _ (hT hc).1) (by rw[<-c];exact Nat.not_le.2 hb)
end
theorem QR:∀{l:List Int},(∀n∈l,1<=n)->0<=lF l/\(l≠[]->1<=lF l)
 |[],_=>⟨Int.le_refl _,λh=>absurd rfl h⟩
 |a::l,h=>by have h1:=(QR (l:=l) λn hn=>h n (List.mem_cons_of_mem _ hn)).1;have h2:=h a (List.mem_cons_self ..);have e:lF (a::l)=a+lF l:=rfl;rw[e];exact⟨by omega,λ_=>by omega⟩
theorem WF{v:Ven}(h:(lW v).2=0):1<=dA v.secs:=by
 obtain⟨g,-,h0,-⟩:=fT h;unfold dA;refine(QR (l:=v.secs.map λs=>lF s.rows) λn hn=>?_).2 λc=>?_
 ·obtain⟨s,hs,rfl⟩:=List.mem_map.1 hn;obtain⟨r1,r2,r3⟩:=g.rows s hs;exact(QR λn hn=>(r3 n hn).1).2 λc=>r1 (by rw[c];rfl)
 ·rw[List.map_eq_nil_iff]at c;rw[c]at h0;simp at h0
def YP(k:Nat)(hv:Nat->Value):List Value:=(List.range k).flatMap λi=>[hv i,.slice none 0 0]
theorem a9K(hv:Nat->Value)(i:Nat):([hv i,.slice none 0 0]:List Value).length=2:=rfl
theorem a9A{k j:Nat}(hv:Nat->Value)(hj:j<k)(u:Value):(YP k hv).set (j*2) u=YP k λi=>if i=j then u else hv i:=by
 have hr:(List.range k)[j]? =some j:=List.getElem?_range hj;obtain⟨e1,e2⟩:=gD (f:=λi=>[hv i,.slice none 0 0]) (λi=>a9K hv i) hr;obtain⟨e3,-⟩:=gD (f:=λi=>[if i=j then u else hv i,.slice none 0 0]) (λi=>rfl) hr;have t1:∀xs:List Nat,(∀i∈xs,i≠j)->xs.flatMap (λi=>[if i=j then u else hv i,.slice none 0 0])=xs.flatMap λi=>[hv i,.slice none 0 0]:=λxs hx=>by
  rw[List.flatMap_def,List.flatMap_def];congr 1;refine List.map_congr_left λi hi=>?_
  simp only[hx i hi,if_false]
 have h1:∀i∈(List.range k).take j,i≠j:=λi hi e=>by obtain⟨m,hm,rfl⟩:=List.mem_iff_getElem.1 hi;rw[List.length_take,List.length_range]at hm;rw[List.getElem_take,List.getElem_range]at e;omega
 have h2:∀i∈(List.range k).drop (j+1),i≠j:=λi hi e=>by obtain⟨m,hm,rfl⟩:=List.mem_iff_getElem.1 hi;rw[List.getElem_drop,List.getElem_range]at e;omega
 unfold YP;rw[e3,t1 _ h1,t1 _ h2,e1,List.set_append_right _ _ (by rw[e2];omega),e2,Nat.sub_self];simp
theorem aEH:(Tryz.prog.info? 144).map (·.bytes)=some 32:=by kernel_rfl
theorem aDc:Tryz.prog.underlying 137=some (.slice 144):=by kernel_rfl
theorem aES:oH Tryz.prog 144=some 2:=by kernel_rfl
theorem aEt:lZ Tryz.prog 144=some (.agg #[.pointer none,.slice none 0 0]):=by kernel_rfl
theorem a3D:∀n:Nat,EE [.pointer none,.slice none 0 0] n=(List.replicate n ()).flatMap λ_=>[.pointer none,.slice none 0 0]
 |0=>rfl
 |n+1=>by show [.pointer none,.slice none 0 0]++EE [.pointer none,.slice none 0 0] n=_;rw[a3D n,List.replicate_succ,List.flatMap_cons]
theorem a0W(n:Nat):EE [.pointer none,.slice none 0 0] n=YP n λ_=>.pointer none:=by
 rw[a3D];unfold YP;rw[List.flatMap_def,List.flatMap_def];congr 1;apply List.ext_getElem?;intro i;by_cases h:i<n
 ·simp[h]
 ·rw[List.getElem?_eq_none (by simp;omega),List.getElem?_eq_none (by simp;omega)]
theorem aCT{n:Nat}(h:n<=10000)(W:AW):jE Tryz.prog 137 (.int .i64 (n:Int)) (.int .i64 (n:Int)) W=some (.slice (some ⟨W.next,0,none⟩) n n,W.add (.cells (YP n λ_=>.pointer none))):=by
 show jE Tryz.prog 137 (.int .i64 (Int.ofNat n)) (.int .i64 (Int.ofNat n)) W=_;unfold jE;have e:=Q0 (z:=.agg #[.pointer none,.slice none 0 0]) (len:=n) (n:=2) rfl;have e2:(lJ (.agg #[.pointer none,.slice none 0 0]) (n*2)).toList=YP n λ_=>.pointer none:=by rw[e];exact a0W n
 have e3:(YP n λ_=>.pointer none).all bZ=true:=by rw[<-a0W];exact FM _ _ rfl n
 simp only[aDc,aES,aEt,aEH];rw[e2,if_pos ⟨Nat.le_refl _,by omega,by omega,e3⟩]
theorem aC3(v:Ven)(B n c k b:Nat)(m:Int)(W:AW):dG Tryz.prog 139 [(0,kR v (.slice (some ⟨B,0,none⟩) n c)),(1,.int .i64 m),(2,.slice (some ⟨b,0,none⟩) k k)] W=some (.agg #[.int .i64 v.sh,.int .i64 v.ttl,.int .i64 v.ses,.slice (some ⟨B,0,none⟩) n c,.int .i64 m,.slice (some ⟨b,0,none⟩) k k],W):=Eq.trans (by kernel_rfl) rfl
theorem aCO{Wa W:AW}{v:Ven}{b B:Nat}{g:Nat->Value}{R:PlanTab.Fr}{K:LT->Option (Value×AW)}{G:Value×AW->Prop}(hn:v.secs.length<1000)(hr:∀s∈v.secs,s.rows.length<1000)(hle:Le Wa W)(hBa:Wa.next<=B)(hbl:b<W.next)(hne:b≠B)(hBl:B<W.next)
 (hb:W.get b=some (.cells [.int .i64 v.sh,.int .i64 v.ttl,.int .i64 v.ses,.slice (some ⟨B,0,none⟩) v.secs.length (dH+3)]))(hB:W.get B=some (.cells ((List.range v.secs.length).flatMap (vU v.secs g))))(g2:∀i,i<v.secs.length->Ints Wa (g i) (DJ v.secs i).rows)
 (r2:R 2=.pointer (some ⟨b,0,none⟩))(r40:R 40=.int .i64 (v.secs.length:Int))(r41:R 41=.int .i64 0)
 (hk:∀(R':PlanTab.Fr) (U:AW) (g':Nat->Value),R' 1=R 1->R' 2=.pointer (some ⟨b,0,none⟩)->R' 6=R 6->Le Wa U->W.next<=U.next->(∀c,c≠B->c<W.next->U.get c=W.get c)->U.get B=some (.cells ((List.range v.secs.length).flatMap (vU v.secs g')))->(∀i,i<v.secs.length->Ints U (g' i) (DJ v.secs i).rows)->Ok (K (X.exit 1,R',U)) G):
 Ok (aA (cB (nZ aK) R W) K) G:=by
 have g0:∀U:AW,(∀c,c≠B->c<W.next->U.get c=W.get c)->W.next<=U.next->Le Wa U:=λU h1 h2=>⟨by have:=hle.next;omega,λc hc=>(h1 c (by omega) (by have:=hle.next;omega)).trans (hle.get c hc)⟩
 refine bD v.secs.length (by omega) (λi Q U=>Q 1=R 1/\Q 2=.pointer (some ⟨b,0,none⟩)/\Q 6=R 6/\Q 40=.int .i64 (v.secs.length:Int)/\Q 41=.int .i64 (i:Int)/\W.next<=U.next/\(∀c,c≠B->c<W.next->U.get c=W.get c)/\
  ∃g':Nat->Value,U.get B=some (.cells ((List.range v.secs.length).flatMap (vU v.secs g')))/\(∀j,j<i->FI W.next U (g' j) (DJ v.secs j).rows)/\∀j,i<=j->g' j=g j)
  (λr=>r.1=.exit 1/\r.2.1 1=R 1/\r.2.1 2=.pointer (some ⟨b,0,none⟩)/\r.2.1 6=R 6/\W.next<=r.2.2.next/\(∀c,c≠B->c<W.next->r.2.2.get c=W.get c)/\∃g':Nat->Value,r.2.2.get B=some (.cells ((List.range v.secs.length).flatMap (vU v.secs g')))/\∀j,j<v.secs.length->Ints r.2.2 (g' j) (DJ v.secs j).rows)
  ⟨rfl,r2,rfl,r40,r41,Nat.le_refl _,λ_ _ _=>rfl,g,hB,λj hj=>by omega,λj _=>rfl⟩ ?_ ?_ ?_
 ·rintro i Q U hi ⟨q1,q2,q6,q40,q41,u1,u2,g',u3,u4,u5⟩;unfold nZ;have t1:((i:Int)<(v.secs.length:Int)):=by omega
  have t2:=λW'=>aU (P:=Tryz.prog) (W:=W') (t:=3) (c:=false) (d:=true) (a:=(i:Int)) (b:=1) (by omega) (by omega)
  have e3:((i+1:Nat):Int)=(i:Int)+1:=by omega
  have ub:=(u2 b hne hbl).trans hb;have hl3:aL (.pointer (some ⟨b,3,none⟩)) U=some (.slice (some ⟨B,0,none⟩) v.secs.length (dH+3),U):=iJ (bT ub) rfl;have ix:=λW' q=>mZ (W:=W') (z:=3) (b:=B) (o:=0) (l:=v.secs.length) (c:=dH+3) (i:=i) (k:=q) hi
  have lr:aL (.pointer (some ⟨B,i*3+1,none⟩)) U=some (g' i,U):=iJ (bT u3) (a5U hi);have hrow:Ints U (g' i) (DJ v.secs i).rows:=by rw[u5 i (Nat.le_refl _)];exact(g2 i hi).mono (g0 U u2 u1)
  have hlr:(DJ v.secs i).rows.length<=10000:=by rw[FQ hi];have:=hr _ (List.getElem_mem hi);omega
  obtain⟨u,U1,k1,k2,k3⟩:=a0b hrow hlr;have n1:=k2.next;have hl3':aL (.pointer (some ⟨b,3,none⟩)) U1=some (.slice (some ⟨B,0,none⟩) v.secs.length (dH+3),U1):=iJ (bT ((k2.get b (by omega)).trans ub)) rfl;have hB1:U1.get B=some (.cells ((List.range v.secs.length).flatMap (vU v.secs g'))):=(k2.get B (by omega)).trans u3;have hst:=YM (b:=B) (o:=i*3+1) (v:=u) hB1 (by rw[aZ (o7 v.secs g'),List.length_range];omega) k3.one.1 k3.one.2;rw[a8H hi]at hst;simp only[SX,q2,q40,q41,t1,decide_true,Nat.zero_add,hl3,ix,lr,k1,hl3',dF,A9,Bool.and_true,hst,t2,aB];refine .inl ⟨trivial,q1,q2,q6,q40,by rw[e3];rfl,by rw[AW.put_next];omega,λc hc hcl=>by rw[AW.get_put_ne _ _ (λx=>hc x.symm),k2.get c (by omega)];exact u2 c hc hcl,_,AW.get_put _ _ _,λj hj=>?_,λj hj=>?_⟩
  ·by_cases c:j=i
   ·subst c;simp only[if_true];exact(FI.keep (W':=U1.put B _) k3 (Nat.le_refl _) λb' h1 h2=>AW.get_put_ne _ _ (by omega))|>λh=>by
     obtain⟨a,cc,e,hr⟩:=h;refine⟨a,cc,e,?_⟩;rcases hr with hr|⟨X,e1,e2,e3,e4⟩
     ·exact .inl hr
     ·exact .inr ⟨X,e1,by omega,e3,e4⟩
   ·simp only[c,if_false];exact(u4 j (by omega)).keep (by rw[AW.put_next];omega) λb' h1 h2=>by rw[AW.get_put_ne _ _ (by omega)];exact k2.get b' h2
  ·have:j≠i:=by omega
   simp only[this,if_false];exact u5 j (by omega)
 ·rintro Q U ⟨q1,q2,q6,q40,q41,u1,u2,g',u3,u4,u5⟩;unfold nZ;have t1:¬((v.secs.length:Int)<(v.secs.length:Int)):=by omega
  simp only[SX,q40,q41,t1,decide_false,aB];exact⟨by simp,trivial,q1,q2,q6,u1,u2,g',u3,λj hj=>(u4 j hj).ints⟩
 ·rintro⟨q,Q,U⟩ ⟨rfl,q1,q2,q6,u1,u2,g',u3,u4⟩;exact hk Q U g' q1 q2 q6 (g0 U u2 u1) u1 u2 u3 u4
theorem aDz{W:AW}{M B k many:Nat}{R:PlanTab.Fr}{K:LT->Option (Value×AW)}{G:Value×AW->Prop}(hk16:k<=16)(hm:1<=many/\many<=4096)(hMl:M<W.next)(hBl:B<W.next)(hM:aL (.pointer (some ⟨M,5,none⟩)) W=some (.slice (some ⟨B,0,none⟩) k k,W))(hMg:∀U:AW,U.get M=W.get M->aL (.pointer (some ⟨M,5,none⟩)) U=some (.slice (some ⟨B,0,none⟩) k k,U))(hne:B≠M)(hB:W.get B=some (.cells (YP k λ_=>.pointer none)))
 (r6:R 6=.int .i64 (many:Int))(r9:R 9=mV M)(r68:R 68=.int .i64 (k:Int))(r69:R 69=.int .i64 0)
 (hk:∀(R':PlanTab.Fr) (U:AW) (H:Nat->Nat) (A:Nat->Nat->Prop) (s:Nat->St),R' 1=R 1->R' 2=R 2->R' 9=mV M->W.next<=U.next->(∀c,c≠B->c<W.next->U.get c=W.get c)->U.get B=some (.cells (YP k λi=>hP (H i)))->(∀i,i<k->HT U (A i) (H i) many (s i)/\(s i).es=[]/\(s i).nx=1/\∀b,A i b->W.next<=b/\b<U.next)->(∀i j,i<k->j<k->∀b,A i b->A j b->i=j)->Ok (K (X.exit 3,R',U)) G):
 Ok (aA (cB (oD aK) R W) K) G:=by
 refine bD k (by omega) (λi Q U=>Q 1=R 1/\Q 2=R 2/\Q 6=.int .i64 (many:Int)/\Q 9=mV M/\Q 68=.int .i64 (k:Int)/\Q 69=.int .i64 (i:Int)/\W.next<=U.next/\(∀c,c≠B->c<W.next->U.get c=W.get c)/\
  ∃(H:Nat->Nat) (A:Nat->Nat->Prop) (s:Nat->St),U.get B=some (.cells (YP k λj=>if j<i then hP (H j)else .pointer none))/\(∀j,j<i->HT U (A j) (H j) many (s j)/\(s j).es=[]/\(s j).nx=1/\∀b,A j b->W.next<=b/\b<U.next)/\∀j m,j<i->m<i->∀b,A j b->A m b->j=m)
  (λr=>r.1=.exit 3/\r.2.1 1=R 1/\r.2.1 2=R 2/\r.2.1 9=mV M/\W.next<=r.2.2.next/\(∀c,c≠B->c<W.next->r.2.2.get c=W.get c)/\
    ∃(H:Nat->Nat) (A:Nat->Nat->Prop) (s:Nat->St),r.2.2.get B=some (.cells (YP k λi=>hP (H i)))/\(∀i,i<k->HT r.2.2 (A i) (H i) many (s i)/\(s i).es=[]/\(s i).nx=1/\∀b,A i b->W.next<=b/\b<r.2.2.next)/\∀i j,i<k->j<k->∀b,A i b->A j b->i=j)
  ⟨rfl,rfl,r6,r9,r68,r69,Nat.le_refl _,λ_ _ _=>rfl,λ_=>0,λ_ _=>False,λ_=>⟨0,0,0,0,0,λ_=>⟨0,0,(0,0)⟩⟩,by simpa using hB,λj hj=>by omega,λj m hj=>by omega⟩ ?_ ?_ ?_
 ·rintro i Q U hi ⟨q1,q2,q6,q9,q68,q69,u1,u2,H,A,s,u3,u4,u5⟩;unfold oD;have t1:((i:Int)<(k:Int)):=by omega
  have t2:=λW'=>aU (P:=Tryz.prog) (W:=W') (t:=3) (c:=false) (d:=true) (a:=(i:Int)) (b:=1) (by omega) (by omega)
  have e3:((i+1:Nat):Int)=(i:Int)+1:=by omega
  obtain⟨U1,H1,q,mh,hm',f,k1,k2,k3⟩:=a9Y (W:=U) (In:=λb=>U.next<=b) (s:=(many:Int)) ⟨by omega,by omega⟩ (λb hb=>hb);have n1:=k3.next;have hM1:aL (.pointer (some ⟨M,5,none⟩)) U1=some (.slice (some ⟨B,0,none⟩) k k,U1):=hMg U1 (by rw[k3.get M (by omega) (by omega)];exact u2 M (λc=>hne c.symm) hMl);have hB1:U1.get B=some (.cells (YP k λj=>if j<i then hP (H j)else .pointer none)):=(k3.get B (by omega) (by omega)).trans u3;have hst:=YM (b:=B) (o:=i*2) (v:=hP H1) hB1 (by unfold YP;rw[aZ (f:=λj=>[if j<i then hP (H j)else .pointer none,.slice none 0 0]) (z:=2) (λj=>rfl),List.length_range];omega) rfl rfl;rw[a9A _ hi]at hst;simp only[SX,q6,q9,q68,q69,t1,decide_true,k1,aH,Nat.zero_add,Nat.add_zero,hM1,PO hi,hst,t2,aB];refine .inl ⟨trivial,q1,q2,q6,q9,q68,by rw[e3];rfl,by rw[AW.put_next];omega,λc hc hcl=>by rw[AW.get_put_ne _ _ (λx=>hc x.symm),k3.get c (by omega) (by omega)];exact u2 c hc hcl,λj=>if j=i then H1 else H j,λj b=>if j=i then U.next<=b/\b<U1.next else A j b,λj=>if j=i then⟨q,mh,hm',1,0,f⟩else s j,?_,λj hj=>?_,λj m hj hm b hb hb2=>?_⟩
  ·rw[AW.get_put];congr 3;funext j;by_cases c:j=i
   ·simp[c]
   ·by_cases c2:j<i
    ·simp[c,c2,show j<i+1 by omega]
    ·simp[c,c2,show¬j<i+1 by omega]
  ·by_cases c:j=i
   ·subst c;simp only[if_true];refine⟨k2.keep (Nat.le_refl _) (λb hb hx=>AW.get_put_ne _ _ (by omega)) (λb hb hx=>⟨hx,hb⟩),rfl,trivial,λb hb=>⟨by omega,hb.2⟩⟩
   ·simp only[c,if_false];obtain⟨x1,x2,x3,x4⟩:=u4 j (by omega);refine⟨x1.keep (by rw[AW.put_next];omega) (λb hb hx=>?_) (λb _ hx=>hx),x2,x3,λb hb=>⟨(x4 b hb).1,by have:=(x4 b hb).2;rw[AW.put_next];omega⟩⟩;have:=(x4 b hx).1;rw[AW.get_put_ne _ _ (by omega)];exact k3.get b hb (by omega)
  ·by_cases c:j=i<;>by_cases c2:m=i
   ·rw[c,c2]
   ·simp only[c,c2,if_true,if_false]at hb hb2;have:=(u4 m (by omega)).2.2.2 b hb2;omega
   ·simp only[c,c2,if_true,if_false]at hb hb2;have:=(u4 j (by omega)).2.2.2 b hb;omega
   ·simp only[c,c2,if_false]at hb hb2;exact u5 j m (by omega) (by omega) b hb hb2
 ·rintro Q U ⟨q1,q2,q6,q9,q68,q69,u1,u2,H,A,s,u3,u4,u5⟩;unfold oD;have t1:¬((k:Int)<(k:Int)):=by omega
  simp only[SX,q68,q69,t1,decide_false,aB];refine⟨by simp,trivial,q1,q2,q9,u1,u2,H,A,s,?_,u4,u5⟩;rw[u3];congr 2;unfold YP;rw[List.flatMap_def,List.flatMap_def];congr 1;refine List.map_congr_left λj hj=>?_
  simp only[List.mem_range.1 hj,if_true]
 ·rintro⟨q,Q,U⟩ ⟨rfl,q1,q2,q9,u1,u2,H,A,s,u3,u4,u5⟩;exact hk Q U H A s q1 q2 q9 u1 u2 u3 u4 u5
theorem VO{l:List SeT}{x:SeT}{k:Nat}(i:Nat):bQ (l++[x]) (jX k i)=bQ l (jX k i)++(if l.length % k=i/\x.st=1 then [((l.length:Int),x.dl)]else []):=by
 rw[UQ];congr 1;by_cases c:l.length % k=i/\x.st=1
 ·rw[if_pos c,if_pos ⟨by simp[c.1],c.2⟩]
 ·rw[if_neg c,if_neg λh=>c ⟨by simpa using h.1,h.2⟩]
def Ld(K:Nat->Prop)(U:AW)(d:Md)(l:List SeT)(N:Int):Prop:=(∀i,i<d.k->(d.s i).nx<=N)/\MapP K U d l λi=>bQ l (jX d.k i)
theorem a5q{K:Nat->Prop}{U:AW}{d:Md}{l:List SeT}{N:Int}(h:Ld K U d l N)(hl:l.length<d.many)(hN:N<1000000){x:SeT}(hx:vY x=0){sv rv:Value}{b:Nat}
 (hrow:∃p,(∀W' q,gL 5 rv (.int q (l.length:Int)) W'=some (p,W'))/\bH 5 p U=some (lY x,U))(hb:∀W',Le U W'->aL (.pointer (some ⟨b,0,none⟩)) W'=some (.int .i64 (d.k:Int),W'))
 {R:PlanTab.Fr}{n:Nat}(hn:l.length<n)(r2:R 2=.pointer (some ⟨b,0,none⟩))(r9:R 9=mV d.M)(r86:R 86=rv)(r87:R 87=.int .i64 (n:Int))(r88:R 88=.int .i64 (l.length:Int)){G:LT->Prop}
 (hk:∀(R':PlanTab.Fr) (U':AW) (d':Md),R' 2=R 2->R' 9=R 9->R' 86=R 86->R' 87=R 87->R' 88=.int .i64 ((l.length+1:Nat):Int)->d'.M=d.M->d'.k=d.k->d'.many=d.many->d'.v=d.v->d'.W0=d.W0->Ld K U' d' (l++[x]) (N+1)->Gr U U' K->G (X.normal,R',U')):
 Ok (nW aK R U) G:=by
 obtain⟨hnx,hP'⟩:=h;have hmn:=hP'.mn;have hk0:0<d.k:=hP'.kp.1;have hi:=Nat.mod_lt l.length hk0;obtain⟨p,i1,i2⟩:=hrow;obtain⟨U0,U1,a1,a2,a3,a4,a5⟩:=a8t U x;have l2:Le U1 (U1.add (.cells (dP x))):=(Le.refl _).add _;have n2:(U1.add (.cells (dP x))).next=U1.next+1:=AW.add_next _ _;have g2:(U1.add (.cells (dP x))).get U1.next=some (.cells (dP x)):=AW.get_add _ _;have t1:((l.length:Int)<(n:Int)):=by omega
 have t2:=λW'=>aU (P:=Tryz.prog) (W:=W') (t:=3) (c:=false) (d:=true) (a:=(l.length:Int)) (b:=1) (by omega) (by omega)
 have e6:((l.length+1:Nat):Int)=(l.length:Int)+1:=by omega
 have p1:=hP'.le a3;have h1:=p1.h1 hi;unfold nW;simp only[SX,r86,r87,r88,t1,decide_true,i1,i2,a1,a2,r9,aH,Nat.zero_add,Nat.add_zero,p1.l5,r2,hb U1 a3,ZH l.length d.k hk0,PO hi,h1,bM a5,aCy];generalize U1.add (.cells (dP x))=U2 at *;have p2:=hP'.shift (a3.trans l2);obtain⟨K1,hK1⟩:∃K1:Nat->Prop,K1=λb=>K b/\b<U.next\/U2.next<=b:=⟨_,rfl⟩
 rw[<-hK1]at p2;have hK:∀b,K1 b->K b:=λb hb=>by
  rw[hK1]at hb;rcases hb with hb|hb
  ·exact hb.1
  ·exact hP'.up b (by omega)
 have hKn:¬K1 U.next:=λhb=>by rw[hK1]at hb;rcases hb with hb|hb<;>omega
 obtain⟨u,V1,V2,q1,q2,q3,q4⟩:=p2.push hl (b:=U1.next) (c:=1) (bK g2);have bx:V2.get U.next=some (.cells (dP x)):=by rw[q4.get _ (by omega) hKn,l2.get _ (by omega)];exact a5
 have gr0:Gr U U2 K:=Le.gr (a3.trans l2) K;have hpush_s:∀i,(d.push (l.length % d.k) U2.next u).s i=d.s i:=λi=>rfl
 by_cases c:x.st=1;case neg=>have dc:=decide_eq_false c;simp only[SX,q1,q2,eB bx,dc,t2,aB];refine hk _ V2 (d.push (l.length % d.k) U2.next u) rfl rfl rfl rfl (by rw[e6];rfl) rfl rfl rfl rfl rfl ⟨λi hi'=>by rw[hpush_s];have:=hnx i hi';omega,?_⟩ (gr0.trans (q4.mono hK));refine(q3.ent λi hi'=>?_).weak hK hP'.wk;rw[VO,if_neg (λh=>c h.2),List.append_nil];exact .refl _
 have dc:=decide_eq_true c;have hdl:0<=x.dl:=by rw[I6 c]at hx;split at hx<;>omega
 obtain⟨V3,s',w1,w2,w3,f1,f2,f3,f4,f5⟩:=K8 (p:=((l.length:Int),x.dl)) q3 (i:=l.length % d.k) hi (λz hz=>by obtain⟨j,j1,-,-,rfl⟩:=kS.1 hz;show((j:Nat):Int)≠(l.length:Int);omega) ⟨by show(0:Int)<=(l.length:Int);omega,by show(l.length:Int)<(d.many:Int);omega,hdl⟩ (Nat.le_trans (kV _ _) (by omega)) (by rw[hpush_s];have:=hnx _ hi;omega);have h02:aL (.pointer (some ⟨d.SB,l.length % d.k*2,none⟩)) V2=some (hP (d.H (l.length % d.k)),V2):=q3.h0 hi;have w1':aK (.func (.func 74) #[] #[]) [hP (d.H (l.length % d.k)),.int .i64 (l.length:Int),.int .i64 x.dl] V2=some (.int .i64 0,V3):=w1;simp only[SX,q1,q2,eB bx,dc,h02,dZ bx,w1',t2,aB];refine hk _ V3 ((d.push (l.length % d.k) U2.next u).on (l.length % d.k) V2 V3 s') rfl rfl rfl rfl (by rw[e6];rfl) rfl rfl rfl rfl rfl ⟨λi hi'=>?_,?_⟩ (gr0.trans ((q4.mono hK).trans (w3.mono hK)))
 ·rw[vV];split
  ·rw[f4,hpush_s];have:=hnx _ hi;omega
  ·rw[hpush_s];have:=hnx i hi';omega
 ·refine(w2.ent λi hi'=>?_).weak hK hP'.wk;rw[VO];by_cases ci:i=l.length % d.k
  ·rw[if_pos ci,if_pos ⟨ci.symm,c⟩,ci];exact(List.perm_append_singleton _ _).symm
  ·rw[if_neg ci,if_neg (λh=>ci h.1.symm),List.append_nil];exact .refl _
section
variable {W:AW} {v:Ven} {sv rv:Value} {l:List SeT}
theorem a6R(hs:SecsC W sv v.secs)(hv:v.secs.length<1000)(hrow:SeL W rv l)(hl:l.length<=10000):
 (uM v l≠0->aK (.func (.func 17) #[] #[]) [kR v sv,rv] W=some (.tuple #[.pointer none,.int .i64 (uM v l)],W))/\(uM v l=0->∃M W',∃W0:AW,∃k:Nat,aK (.func (.func 17) #[] #[]) [kR v sv,rv] W=some (.tuple #[mV M,.int .i64 0],W')/\Le W W0/\Le W W'/\v.sh=(k:Int)/\MapS (λb=>W0.next<=b) W' M k l.length v W0 10001 l):=by
 obtain⟨W1,k1,k2,k3,k4⟩:=IB v sv W;have hse:=a1d (hs.mono k2) hv;have hco:=a02 (hrow.mono k2) hl;by_cases c1:(bX v).2=0;case neg=>
  have e:uM v l=(bX v).2:=by unfold uM;rw[if_pos c1]
  have d1:=decide_eq_false c1;refine⟨λ_=>aN rfl ?_ o5,λx=>by rw[e]at x;exact absurd x c1⟩;unfold nN;simp only[SX,k1,vJ k4,hse,d1,aB];exact⟨by rw[e],k2⟩
 have d1:=decide_eq_true c1;by_cases c2:(l.length:Int)=(bX v).1;case neg=>
  have e:uM v l=6:=by unfold uM;rw[if_neg (λx=>x c1),if_pos c2]
  have d2:=decide_eq_false c2;refine⟨λ_=>aN rfl ?_ o5,λx=>by omega⟩;unfold nN;simp only[SX,nP,nQ,k1,vJ k4,hse,d1,hrow.len jT,d2,aB];exact⟨by rw[e],k2⟩
 have d2:=decide_eq_true c2;have e0:uM v l=if XQ l=true then 6 else 0:=by unfold uM;rw[if_neg (λx=>x c1),if_neg (λx=>x c2)]
 cases hbd:XQ l with
 |true=>
  have e:uM v l=6:=by rw[e0,if_pos hbd]
  rw[hbd]at hco;refine⟨λ_=>aN rfl ?_ o5,λx=>by omega⟩;unfold nN;simp only[SX,nP,nQ,k1,vJ k4,hse,d1,hrow.len jT,d2,hco,aB];exact⟨by rw[e],k2⟩
 |false=>
  have e:uM v l=0:=by rw[e0,hbd];rfl
  rw[hbd]at hco;refine⟨λx=>absurd e x,λ_=>?_⟩;obtain⟨hve,htot,hok,hl4,hsh⟩:=QT e;have htp:=WF hve;obtain⟨gd,-,hse0,-⟩:=fT hve;have hne:v.secs≠[]:=λc=>by rw[c]at hse0;simp at hse0
  have hr:∀s∈v.secs,s.rows.length<1000:=λs hs'=>by have:=(gd.rows s hs').2.1;omega
  obtain⟨k,hk⟩:∃k:Nat,v.sh=(k:Int):=⟨v.sh.toNat,by omega⟩;have hse':(bX v).1=(l.length:Int):=c2.symm;obtain⟨B,W2,g,a1,a2,a3,a4,a5,a6,a7⟩:=a0A hs k2 hne (by omega);have g2:W2.get W.next=some (.cells [.int .i64 v.sh,.int .i64 v.ttl,.int .i64 v.ses,sv]):=(a2.get _ (by omega)).trans k4;have hl3:aL (.pointer (some ⟨W.next,3,none⟩)) W1=some (sv,W1):=iJ (bT k4) rfl;have hst3:=YM (b:=W.next) (o:=3) (v:=.slice (some ⟨B,0,none⟩) v.secs.length (dH+3)) g2 (by show 3<4;omega) rfl rfl;have hst3':cO 1 (.pointer (some ⟨W.next,3,none⟩)) (.slice (some ⟨B,0,none⟩) v.secs.length (dH+3)) W2=some (undef,W2.put W.next (.cells [.int .i64 v.sh,.int .i64 v.ttl,.int .i64 v.ses,.slice (some ⟨B,0,none⟩) v.secs.length (dH+3)])):=hst3;have main:Ok (nN aK (kR v sv) rv W) λr=>∃M,∃W0:AW,r.1=.tuple #[mV M,.int .i64 0]/\Le W W0/\Le W r.2/\MapS (λb=>W0.next<=b) r.2 M k l.length v W0 10001 l:=by
   unfold nN;obtain⟨W3,hW3⟩:∃W3,W3=W2.put W.next (.cells [.int .i64 v.sh,.int .i64 v.ttl,.int .i64 v.ses,.slice (some ⟨B,0,none⟩) v.secs.length (dH+3)]):=⟨_,rfl⟩;rw[<-hW3]at hst3';have n2:=a2.next;have z1:W3.get W.next=some (.cells [.int .i64 v.sh,.int .i64 v.ttl,.int .i64 v.ses,.slice (some ⟨B,0,none⟩) v.secs.length (dH+3)]):=by rw[hW3];exact AW.get_put _ _ _
   have z0:∀b,b≠W.next->W3.get b=W2.get b:=λb hb=>by rw[hW3];exact AW.get_put_ne _ _ λx=>hb x.symm
   have n3:W3.next=W2.next:=by rw[hW3];rfl
   have hl33:aL (.pointer (some ⟨W.next,3,none⟩)) W3=some (.slice (some ⟨B,0,none⟩) v.secs.length (dH+3),W3):=iJ (bT z1) rfl;have l03:Le W W3:=⟨by omega,λb hb=>by rw[z0 b (by omega),a2.get b (by omega)];exact k2.get b hb⟩;simp only[SX,nP,nQ,k1,vJ k4,hse,d1,hrow.len jT,d2,hco,Nat.zero_add,hl3,a1,hst3',hl33,jH yM];refine aCO (Wa:=W) (W:=W3) (b:=W.next) (B:=B) (g:=g) hv hr l03 (by omega) (by omega) (by omega) (by omega) z1 ((z0 B (by omega)).trans a5) a7 rfl rfl rfl λR' U g' r1 r2 r6 u0 u1 u2 u3 u4=>?_
   have ub:=(u2 W.next (by omega) (by omega)).trans z1;have l0k:∀Z:AW,Le U Z->aL (.pointer (some ⟨W.next,0,none⟩)) Z=some (.int .i64 (k:Int),Z):=λZ hZ=>by rw[<-hk];exact iJ (bT ((hZ.get _ (by omega)).trans ub)) rfl
   have r1':R' 1=rv:=r1;have r6':R' 6=.int .i64 (l.length:Int):=by rw[r6,<-hse'];rfl
   have hk16:k<=16:=by omega
   have hsecs:=a8x u3 (by omega) u4;simp only[SX,r2,vJ ub,r6',l0k U (Le.refl _),aCT (show k<=10000 by omega),aC3,gF];obtain⟨U2,hU2⟩:∃U2,U2=(U.add (.cells (YP k λ_=>.pointer none))).add (.cells [.int .i64 v.sh,.int .i64 v.ttl,.int .i64 v.ses,.slice (some ⟨B,0,none⟩) v.secs.length (dH+3),.int .i64 (l.length:Int),.slice (some ⟨U.next,0,none⟩) k k]):=⟨_,rfl⟩;have m1:(U.add (.cells (YP k λ_=>.pointer none))).next=U.next+1:=AW.add_next _ _;have m2:U2.next=U.next+2:=by rw[hU2,AW.add_next,m1]
   have y1:U2.get (U.next+1)=some (.cells [.int .i64 v.sh,.int .i64 v.ttl,.int .i64 v.ses,.slice (some ⟨B,0,none⟩) v.secs.length (dH+3),.int .i64 (l.length:Int),.slice (some ⟨U.next,0,none⟩) k k]):=by rw[hU2,<-m1];exact AW.get_add _ _
   have y0:U2.get U.next=some (.cells (YP k λ_=>.pointer none)):=by rw[hU2,AW.get_add_ne _ _ (by rw[m1];omega)];exact AW.get_add _ _
   have leU:Le U U2:=by rw[hU2];exact((Le.refl _).add _).add _
   have hM5:∀Z:AW,Z.get (U.next+1)=U2.get (U.next+1)->aL (.pointer (some ⟨U.next+1,5,none⟩)) Z=some (.slice (some ⟨U.next,0,none⟩) k k,Z):=λZ hZ=>iJ (bT (hZ.trans y1)) rfl
   have hva:(#[.int .i64 v.sh,.int .i64 v.ttl,.int .i64 v.ses,.slice (some ⟨B,0,none⟩) v.secs.length (dH+3),.int .i64 (l.length:Int),.slice (some ⟨U.next,0,none⟩) k k]:Array Value).toList=[.int .i64 v.sh,.int .i64 v.ttl,.int .i64 v.ses,.slice (some ⟨B,0,none⟩) v.secs.length (dH+3),.int .i64 (l.length:Int),.slice (some ⟨U.next,0,none⟩) k k]:=rfl;simp only[SX,hva,<-hU2,m1,aH,Nat.zero_add,hM5 U2 rfl,zA];refine aDz (W:=U2) (M:=U.next+1) (B:=U.next) (k:=k) (many:=l.length) hk16 ⟨by omega,by omega⟩ (by omega) (by omega) (hM5 U2 rfl) (λZ hZ=>hM5 Z hZ) (by omega) y0 (by exact r6') (by rfl) (by rfl) (by rfl) λQ U3 H A s q1 q2 q9 v1 v2 v3 v4 v5=>?_
   have q1':Q 1=rv:=q1.trans r1';have q2':Q 2=.pointer (some ⟨W.next,0,none⟩):=q2.trans r2;simp only[SX,q1',hrow.len jT];have le3:Le U U3:=⟨by omega,λb hb=>(v2 b (by omega) (by omega)).trans (leU.get b hb)⟩;have cnil:∀i,i<k->fF [] k i=[]:=λi hi=>by apply List.eq_nil_of_length_eq_zero;rw[iG];show(0+k-1-i)/k=0;exact Nat.div_eq_of_lt (by omega)
   let d0:Md:=⟨U.next+1,U.next,k,l.length,v,.slice (some ⟨B,0,none⟩) v.secs.length (dH+3),U,λ_=>0,H,λ_=>.slice none 0 0,A,s⟩;have hp0:MapP (λb=>U.next<=b) U3 d0 [] (λi=>bQ [] (jX k i)):=
    {up:=λb hb=>by show U.next<=b;omega,mc:=(v2 (U.next+1) (by omega) (by omega)).trans y1,ml:=by show U.next+1<U3.next;omega,kM:=by show U.next<=U.next+1;omega,sc:=v3,sl:=by show U.next<U3.next;omega,sk:=Nat.le_refl _,ne:=by show U.next≠U.next+1;omega,vk:=hk,kp:=⟨by show 1<=k;omega,hk16⟩,mn:=hl4,ll:=by show 0<=l.length;omega
     col:=λi hi=>.inl ⟨cnil i hi,rfl⟩,tk:=λi hi h0=>absurd (cnil i hi) h0,tt:=λi j hi hj h0=>absurd (cnil i hi) h0,ho:=λi hi=>(v4 i hi).1,al:=λi hi b hb=>((v4 i hi).2.2.2 b hb).2,ak:=λi hi b hb=>by show U.next<=b;have:=((v4 i hi).2.2.2 b hb).1;omega,am:=λi hi b hb=>by have:=((v4 i hi).2.2.2 b hb).1;exact⟨by show b≠U.next+1;omega,by show b≠U.next;omega⟩
     at_:=λi j hi hj h0=>absurd (cnil j hj) h0,aa:=λi j hi hj b h1 h2=>v5 i j hi hj b h1 h2,es:=λi hi=>by rw[show(d0.s i).es=[]from(v4 i hi).2.1];exact .refl _,w0:=le3,wk:=λb hb=>hb,secs:=hsecs}
   refine bD l.length (by omega) (λi Q Z=>Q 2=.pointer (some ⟨W.next,0,none⟩)/\Q 9=mV (U.next+1)/\Q 86=rv/\Q 87=.int .i64 (l.length:Int)/\Q 88=.int .i64 (i:Int)/\∃d:Md,d.M=U.next+1/\d.k=k/\d.many=l.length/\d.v=v/\d.W0=U/\Ld (λb=>U.next<=b) Z d (l.take i) (1+(i:Int)))
    (λr=>r.1=.exit 5/\r.2.1 9=mV (U.next+1)/\∃d:Md,d.M=U.next+1/\d.k=k/\d.many=l.length/\d.v=v/\d.W0=U/\Ld (λb=>U.next<=b) r.2.2 d l (1+(l.length:Int)))
    ⟨q2',q9,rfl,rfl,rfl,d0,rfl,rfl,rfl,rfl,rfl,λi hi=>by rw[show(d0.s i).nx=1 from(v4 i hi).2.2.1];decide,by rw[List.take_zero];exact hp0⟩ ?_ ?_ ?_
   ·rintro i Q' Z hi ⟨w2,w9,w86,w87,w88,d,x1,x2,x3,x4,x5,x6⟩;have hti:(l.take i).length=i:=by rw[List.length_take];omega
    have hZ:Le U Z:=by have:=x6.2.w0;rw[x5]at this;exact this
    obtain⟨b,o,-,i1,i3,-⟩:=SeL.get hrow (List.getElem?_eq_getElem hi);refine a5q (K:=λb=>U.next<=b) (sv:=sv) (rv:=rv) (b:=W.next) (x:=l[i]) (n:=l.length) x6 (by omega) (by omega) (hok _ (List.getElem_mem hi)) ⟨_,by rw[hti];exact i1,i3 Z (u0.trans hZ)⟩ (λW' hW'=>by rw[x2];exact l0k W' (hZ.trans hW')) (by omega) w2 (by rw[x1];exact w9) w86 w87 (by rw[hti];exact w88) λQ2 Z2 d2 e2 e9 e86 e87 e88 y1 y2 y3 y4 y5 y6 y7=>?_
    refine .inl ⟨rfl,e2.trans w2,e9.trans w9,e86.trans w86,e87.trans w87,by show Q2 88=_;rw[e88,hti],d2,y1.trans x1,y2.trans x2,y3.trans x3,y4.trans x4,y5.trans x5,?_⟩;rw[List.take_succ_eq_append_getElem hi,show((i+1:Nat):Int)=(i:Int)+1 by omega,<-Int.add_assoc];exact y6
   ·rintro Q' Z ⟨w2,w9,w86,w87,w88,d,x1,x2,x3,x4,x5,x6⟩;unfold nW;have t1:¬((l.length:Int)<(l.length:Int)):=by omega
    rw[List.take_length]at x6;simp only[SX,w87,w88,t1,decide_false,aB];exact⟨by simp,trivial,w9,d,x1,x2,x3,x4,x5,x6⟩
   ·rintro⟨q,Q',Z⟩ ⟨rfl,w9,d,x1,x2,x3,x4,x5,x6⟩;simp only at w9 x6;simp only[SX,w9,aB];have hZ:Le U Z:=by have:=x6.2.w0;rw[x5]at this;exact this
    refine⟨U.next+1,U,rfl,u0,u0.trans hZ,d,x1,x2,x3,x4,x5,λi hi=>?_,rfl,hok,?_⟩
    ·have:=x6.1 i (by rw[x2];exact hi);omega
    ·have:=x6.2;rw[x2]at this;exact this
  obtain⟨⟨r,W'⟩,h1,M,W0,h2,h3,h4,h5⟩:=main;simp only at h2 h4 h5;subst h2;exact⟨M,W',W0,k,by rw[o5 h1,eG rfl],h3,h4,hk,h5⟩
end
theorem MapP.keep{K:Nat->Prop}{V V':AW}{d:Md}{l:List SeT}{e:Nat->List (Int×Int)}(h:MapP K V d l e)(hn:V.next<=V'.next)(g:∀b,b<V.next->K b->V'.get b=V.get b)(hw:Le d.W0 V'):MapP K V' d l e:=
 {h with up:=λb hb=>h.up b (by omega),mc:=(g _ h.ml h.kM).trans h.mc,ml:=by have:=h.ml;omega,sc:=(g _ h.sl h.sk).trans h.sc,sl:=by have:=h.sl;omega
         col:=λi hi=>(h.col i hi).keep hn λh0=>g _ ((h.col i hi).lt h0) (h.tk i hi h0).1,ho:=λi hi=>(h.ho i hi).keep hn (λb hb hx=>g b hb (h.ak i hi b hx)) (λb _ hx=>hx)
         al:=λi hi b hb=>by have:=h.al i hi b hb;omega
         w0:=hw}
theorem MapS.keep{K:Nat->Prop}{V V':AW}{M k many:Nat}{v:Ven}{W0:AW}{N:Int}{l:List SeT}(h:MapS K V M k many v W0 N l)(hn:V.next<=V'.next)(g:∀b,b<V.next->K b->V'.get b=V.get b)(hw:Le W0 V'):MapS K V' M k many v W0 N l:=by obtain⟨d,a,b,c,e,rfl,f,i,j,p⟩:=h;exact⟨d,a,b,c,e,rfl,f,i,j,p.keep hn g hw⟩
theorem MapS.w0{K:Nat->Prop}{V:AW}{M k many:Nat}{v:Ven}{W0:AW}{N:Int}{l:List SeT}(h:MapS K V M k many v W0 N l):Le W0 V:=by obtain⟨d,a,b,c,e,rfl,f,i,j,p⟩:=h;exact p.w0
theorem aDq(a b:Int)(W:AW):aG Tryz.prog .max #[3,3] 3 #[false,true] [.int .i64 a,.int .i64 b] W=some (.int .i64 (max a b),W):=by
 have e:aG Tryz.prog .max #[3,3] 3 #[false,true] [.int .i64 a,.int .i64 b] W=(oJ Tryz.prog ([Value.int .i64 a,.int .i64 b].all bB) (builtin .max #[3,3] 3 #[false,true] #[.int .i64 a,.int .i64 b])).map λv=>(v,W):=by unfold aG;rfl
 rw[e];have e2:builtin .max #[3,3] 3 #[false,true] #[.int .i64 a,.int .i64 b]=(do pure (.value (<-Builtin.max_ #[3,3] 3 #[.int .i64 a,.int .i64 b]))):=rfl;rw[e2];refine QZ ?_ rfl _ rfl;unfold Builtin.max_;simp only[List.foldlM_cons,List.foldlM_nil,eO,Builtin.max2,fI,Option.bind_some];congr 2;split<;>omega
theorem aCw(a b:Int)(W:AW):aG Tryz.prog .min #[3,3] 3 #[false,true] [.int .i64 a,.int .i64 b] W=some (.int .i64 (min a b),W):=by
 have e:aG Tryz.prog .min #[3,3] 3 #[false,true] [.int .i64 a,.int .i64 b] W=(oJ Tryz.prog ([Value.int .i64 a,.int .i64 b].all bB) (builtin .min #[3,3] 3 #[false,true] #[.int .i64 a,.int .i64 b])).map λv=>(v,W):=by unfold aG;rfl
 rw[e];have e2:builtin .min #[3,3] 3 #[false,true] #[.int .i64 a,.int .i64 b]=(do pure (.value (<-Builtin.min_ #[3,3] 3 #[.int .i64 a,.int .i64 b]))):=rfl;rw[e2];refine QZ ?_ rfl _ rfl;unfold Builtin.min_;simp only[List.foldlM_cons,List.foldlM_nil,eO,Builtin.min2,fI,Option.bind_some];congr 2;split<;>omega
theorem aAm(s:ByteArray)(W:AW):∃n:Int,aG Tryz.prog .len #[9] 3 #[false] [.string s] W=some (.int .i64 n,W):=⟨_,rfl⟩
theorem QX:((#[69]:Array TypeId)[0]?).bind Tryz.prog.underlying=some (.slice 3):=by kernel_rfl
theorem aDm(W:AW):∃V,aW Tryz.prog 130 W=some (.pointer (some ⟨W.next,0,none⟩),V)/\Le W V/\V.next=W.next+1/\V.get W.next=some (.cells [.string (aO []),.slice none 0 0,.int .i64 0]):=⟨_,a9f W,(Le.refl _).add _,AW.add_next _ _,AW.get_add _ _⟩
def aAN(v:Ven)(l:List SeT):Prop:=v.secs.length<=10/\l.length<=100/\∀s∈v.secs,s.rows.length<=20
theorem aBP{W:AW}{v:Ven}{sv rv:Value}{l:List SeT}(hs:Secs W sv v.secs)(hr:SeL W rv l):∃c:Bool,aK (.func (.func 15) #[] #[]) [kR v sv,rv] W=some (.bool c,W)/\(c=false->aAN v l):=by
 have main:Ok (KM aK (kR v sv) rv W) λr=>∃c:Bool,r.1=.bool c/\Le W r.2/\(c=false->aAN v l):=by
  unfold KM;obtain⟨W1,k1,k2,k3,k4⟩:=IB v sv W;have c3:∀U,Le W1 U->aL (.pointer (some ⟨W.next,3,none⟩)) U=some (sv,U):=λU hU=>iJ (bT ((hU.get _ (by omega)).trans k4)) rfl
  by_cases h10:10<(v.secs.length:Int)
  ·have d1:=decide_eq_true h10;simp only[SX,nP,nQ,k1,c3 W1 (Le.refl _),hs.len yM,d1,aB];exact⟨_,rfl,k2,λx=>by cases x⟩
  have d1:=decide_eq_false h10;by_cases h100:100<(l.length:Int)
  ·have d2:=decide_eq_true h100;simp only[SX,nP,nQ,k1,Nat.zero_add,c3 W1 (Le.refl _),hs.len yM,d1,hr.len jT,d2,aB];exact⟨_,rfl,k2,λx=>by cases x⟩
  have d2:=decide_eq_false h100;simp only[SX,nP,nQ,k1,Nat.zero_add,c3 W1 (Le.refl _),hs.len yM,d1,hr.len jT,d2];refine bD v.secs.length (by omega) (λi R U=>Le W1 U/\R 2=.pointer (some ⟨W.next,0,none⟩)/\R 6=.int .i64 (i:Int)/\(∀j (hj:j<v.secs.length),j<i->v.secs[j].rows.length<=20)/\∃n:Int,R 5=.int .i64 n/\0<=n/\n<=(i:Int)*2000)
   (λr=>Le W1 r.2.2/\((r.1=.exit 0/\(∀s∈v.secs,s.rows.length<=20)/\∃n:Int,r.2.1 5=.int .i64 n)\/(r.1=.ret/\r.2.1 4=.bool true))) ⟨Le.refl _,rfl,rfl,λj hj hx=>by omega,0,rfl,by omega,by omega⟩ ?_ ?_ ?_
  ·rintro i R U hi ⟨u1,r2,r6,hsm,n,r5,n0,n1⟩;unfold yK;have t1:((i:Int)<(v.secs.length:Int)):=by omega
   have t2:=λW'=>aU (P:=Tryz.prog) (W:=W') (t:=3) (c:=false) (d:=true) (a:=(i:Int)) (b:=1) (by omega) (by omega)
   have e3:((i+1:Nat):Int)=(i:Int)+1:=by omega
   obtain⟨b,o,rv',i1,i2,i3,-⟩:=Secs.get hs hi;obtain⟨U1,a1,a2,a3,a4⟩:=aDm U;have hst:=zL (n:=3) (o:=0) (v:=a0a v.secs[i] rv') a4 rfl (Nat.le_refl _) (by show(true&&(Eng.one rv'&&(true&&true)))=true;obtain⟨a,c,rfl,-⟩:=i2;rfl);have hst':cO 3 (.pointer (some ⟨U.next,0,none⟩)) (a0a v.secs[i] rv') U1=some (undef,U1.put U.next (.cells [.string (aO v.secs[i].name),rv',.int .i64 v.secs[i].q])):=hst;obtain⟨U2,hU2⟩:∃U2,U2=U1.put U.next (.cells [.string (aO v.secs[i].name),rv',.int .i64 v.secs[i].q]):=⟨_,rfl⟩;rw[<-hU2]at hst';have l2:Le U U2:=by rw[hU2];exact a2.put (Nat.le_refl _) _
   have n2:U2.next=U.next+1:=by rw[hU2];exact a3
   have g2:U2.get U.next=some (.cells [.string (aO v.secs[i].name),rv',.int .i64 v.secs[i].q]):=by rw[hU2];exact AW.get_put _ _ _
   have x0:aL (.pointer (some ⟨U.next,0,none⟩)) U2=some (.string (aO v.secs[i].name),U2):=iJ (bT g2) rfl;have x1:∀Z,Le U2 Z->aL (.pointer (some ⟨U.next,1,none⟩)) Z=some (rv',Z):=λZ hZ=>iJ (bT ((hZ.get _ (by omega)).trans g2)) rfl
   obtain⟨m,hm⟩:=aAm (aO v.secs[i].name) U2;have hWU:=k2.trans u1;by_cases c20:20<(v.secs[i].rows.length:Int)
   ·have d3:=decide_eq_true c20;simp only[SX,nP,nQ,r2,r6,Nat.zero_add,c3 U u1,hs.len yM,t1,decide_true,i1,i3 U hWU,a1,hst',x1 U2 (Le.refl _),i2.len QX,d3,aB];exact .inr ⟨by simp,u1.trans l2,.inr ⟨trivial,rfl⟩⟩
   have d3:=decide_eq_false c20;cases d4:decide (100<m)with
   |true=>simp only[SX,nP,nQ,r2,r6,Nat.zero_add,c3 U u1,hs.len yM,t1,decide_true,i1,i3 U hWU,a1,hst',x1 U2 (Le.refl _),i2.len QX,d3,x0,hm,d4,aB];exact .inr ⟨by simp,u1.trans l2,.inr ⟨trivial,rfl⟩⟩
   |false=>
    simp only[SX,nP,nQ,r2,r6,Nat.zero_add,c3 U u1,hs.len yM,t1,decide_true,i1,i3 U hWU,a1,hst',x1 U2 (Le.refl _),i2.len QX,d3,x0,hm,d4];refine bD v.secs[i].rows.length (by omega) (λj Q Z=>Z=U2/\Q 2=.pointer (some ⟨W.next,0,none⟩)/\Q 6=.int .i64 (i:Int)/\Q 7=.pointer (some ⟨U.next,0,none⟩)/\Q 8=.int .i64 (j:Int)/\∃n:Int,Q 5=.int .i64 n/\0<=n/\n<=(i:Int)*2000+(j:Int)*100)
     (λr=>r.1=.exit 2/\r.2.2=U2/\r.2.1 2=.pointer (some ⟨W.next,0,none⟩)/\r.2.1 6=.int .i64 (i:Int)/\∃n:Int,r.2.1 5=.int .i64 n/\0<=n/\n<=(i:Int)*2000+2000) ⟨rfl,r2,r6,rfl,rfl,n,r5,n0,by omega⟩ ?_ ?_ ?_
    ·rintro j Q Z hj ⟨rfl,q2,q6,q7,q8,n',q5,m0,m1⟩;unfold sH;have t3:((j:Int)<(v.secs[i].rows.length:Int)):=by omega
     have t4:=λW'=>aU (P:=Tryz.prog) (W:=W') (t:=3) (c:=false) (d:=true) (a:=(j:Int)) (b:=1) (by omega) (by omega)
     have e4:((j+1:Nat):Int)=(j:Int)+1:=by omega
     obtain⟨p0,y1,y2⟩:=i2.get hj;generalize v.secs[i].rows[j]=y at *;have hz:0<=min (max y 0) 100/\min (max y 0) 100<=100:=by omega
     have t5:=λW'=>aU (P:=Tryz.prog) (W:=W') (t:=3) (c:=false) (d:=false) (a:=n') (b:=min (max y 0) 100) (by omega) (by omega)
     simp only[SX,q5,q7,q8,x1 Z (Le.refl _),Nat.zero_add,i2.len QX,t3,decide_true,y1,y2 Z (hWU.trans l2),aDq,aCw,t5,t4,aB];exact .inl ⟨trivial,trivial,q2,q6,q7,by rw[e4];rfl,_,rfl,by omega,by omega⟩
    ·rintro Q Z ⟨rfl,q2,q6,q7,q8,n',q5,m0,m1⟩;unfold sH;have t3:¬((v.secs[i].rows.length:Int)<(v.secs[i].rows.length:Int)):=by omega
     simp only[SX,q7,q8,x1 Z (Le.refl _),Nat.zero_add,i2.len QX,t3,decide_false,aB];exact⟨by simp,trivial,trivial,q2,q6,n',q5,m0,by omega⟩
    ·rintro⟨q,Q,Z⟩ ⟨rfl,rfl,q2,q6,n',q5,m0,m1⟩;simp only at q2 q6 q5;simp only[SX,q6,t2,aB];refine .inl ⟨trivial,u1.trans l2,q2,by rw[e3];rfl,λj hj hx=>?_,n',q5,m0,by omega⟩;by_cases c:j=i
     ·subst c;omega
     ·exact hsm j hj (by omega)
  ·rintro R U ⟨u1,r2,r6,hsm,n,r5,n0,n1⟩;unfold yK;have t1:¬((v.secs.length:Int)<(v.secs.length:Int)):=by omega
   simp only[SX,r2,r6,Nat.zero_add,c3 U u1,hs.len yM,t1,decide_false,aB];refine⟨by simp,u1,.inl ⟨trivial,λs hs'=>?_,n,r5⟩⟩;obtain⟨j,hj,rfl⟩:=List.mem_iff_getElem.1 hs';exact hsm j hj hj
  ·rintro⟨q,R,U⟩ ⟨u1,hq⟩;simp only at u1 hq;rcases hq with⟨rfl,hsm,n,r5⟩|⟨rfl,r4⟩
   ·simp only[SX,r5,aB];exact⟨_,rfl,k2.trans u1,λ_=>⟨by omega,by omega,hsm⟩⟩
   ·simp only[SX,r4,aB];exact⟨true,rfl,k2.trans u1,λx=>by cases x⟩
 obtain⟨⟨r,W'⟩,h1,c,h2,h3,h4⟩:=main;simp only at h2 h3;subst h2;exact⟨c,aN rfl ⟨_,h1,rfl,h3⟩ WX,h4⟩
def lL(n:Nat):List SeT:=List.replicate n CS
theorem nG(n:Nat):(lL n).length=n:=List.length_replicate
theorem Y6{v:Ven}{n:Nat}(h:(bX v).2=0)(hn:(n:Int)=(bX v).1):uM v (lL n)=0:=by
 unfold uM;rw[if_neg (λx=>x h),if_neg (by rw[nG];exactλx=>x hn)];have:XQ (lL n)=false:=by unfold XQ lL;rw[List.any_eq_false];intro x hx;rw[List.eq_of_mem_replicate hx];decide
 rw[this];rfl
theorem UH{v:Ven}(h:(bX v).2=0):∃n:Nat,(n:Int)=(bX v).1/\n<=4096:=by
 have hv:(lW v).2=0:=by apply Classical.byContradiction;intro c;unfold bX at h;rw[if_neg c]at h;exact c h
 have e1:(bX v).1=dA v.secs:=by unfold bX;rw[if_pos hv]
 have:=WF hv;have:=(fT hv).2.2.2.2.1;exact⟨(bX v).1.toNat,by omega,by omega⟩
section
variable {W:AW} {v:Ven} {sv rv:Value} {l:List SeT}
theorem aAg(hs:SecsC W sv v.secs)(hv:v.secs.length<1000):
 ((bX v).2≠0->aK (.func (.func 35) #[] #[]) [kR v sv] W=some (.tuple #[.pointer none,.int .i64 (bX v).2],W))/\((bX v).2=0->∃n:Nat,(n:Int)=(bX v).1/\∃M W',∃W0:AW,∃k:Nat,aK (.func (.func 35) #[] #[]) [kR v sv] W=some (.tuple #[mV M,.int .i64 0],W')/\Le W W0/\Le W W'/\v.sh=(k:Int)/\MapS (λb=>W0.next<=b) W' M k n v W0 10001 (lL n)):=by
 obtain⟨W1,k1,k2,k3,k4⟩:=IB v sv W;have hse:=a1d (hs.mono k2) hv;by_cases c1:(bX v).2=0;case neg=>have d1:=decide_eq_false c1;refine⟨λ_=>aN rfl ?_ E8,λx=>absurd x c1⟩;unfold y9;simp only[SX,k1,vJ k4,hse,d1,aB];exact⟨trivial,k2⟩
 refine⟨λx=>absurd c1 x,λ_=>?_⟩;have d1:=decide_eq_true c1;obtain⟨n,hn,hn4⟩:=UH c1;have l2:Le W1 (W1.add (.cells ((List.replicate n CS).flatMap dP))):=(Le.refl _).add _;have n2:(W1.add (.cells ((List.replicate n CS).flatMap dP))).next=W1.next+1:=AW.add_next _ _;have g2:(W1.add (.cells ((List.replicate n CS).flatMap dP))).get W1.next=some (.cells ((List.replicate n CS).flatMap dP)):=AW.get_add _ _;have main:Ok (y9 aK (kR v sv) W) λr=>∃M,∃W0:AW,∃k:Nat,r.1=.tuple #[mV M,.int .i64 0]/\Le W W0/\Le W r.2/\v.sh=(k:Int)/\MapS (λb=>W0.next<=b) r.2 M k n v W0 10001 (lL n):=by unfold y9;simp only[SX,k1,vJ k4,hse,d1,<-hn,aBc (show n<=10000 by omega)];generalize W1.add (.cells ((List.replicate n CS).flatMap dP))=W2 at *;have hrow:SeL W2 (.slice (some ⟨W1.next,0,none⟩) n n) (lL n):=OwnL.row (lo:=0) (f:=dP) dX ⟨W1.next,n,Nat.zero_le _,by omega,by rw[nG],λ_=>g2⟩ KE;obtain⟨M,W',W0,k,q1,q2,q3,q4,q5⟩:=(a6R ((hs.mono k2).mono l2) hv hrow (by rw[nG];omega)).2 (Y6 c1 hn);simp only[SX,q1,aB];rw[nG]at q5;exact⟨M,W0,k,rfl,(k2.trans l2).trans q2,(k2.trans l2).trans q3,q4,q5⟩
 obtain⟨⟨r,W'⟩,h1,M,W0,k,h2,h3,h4,h5,h6⟩:=main;simp only at h2 h4 h6;subst h2;exact⟨n,hn,M,W',W0,k,by rw[E8 h1,eG rfl],h3,h4,h5,h6⟩
theorem WB(hs:SecsC W sv v.secs)(hv:v.secs.length<1000)(hr:∀s∈v.secs,s.rows.length<1000):
 ((bX v).2≠0->aK (.func (.func 36) #[] #[]) [kR v sv] W=some (.tuple #[aDT,.int .i64 (bX v).2],W))/\((bX v).2=0->∀n:Nat,(n:Int)=(bX v).1->∃rv' W',aK (.func (.func 36) #[] #[]) [kR v sv] W=some (.tuple #[eF v sv rv',.int .i64 0],W')/\Le W W'/\RefA W' v sv rv' (lL n)/\BlS W.next W' rv' (lL n)):=by
 obtain⟨W1,k1,k2,k3,k4⟩:=IB v sv W;obtain⟨W2,a1,a2,a3,a4⟩:=WJ W1;have l2:=k2.trans a2;have x1:W2.get W.next=some (.cells [.int .i64 v.sh,.int .i64 v.ttl,.int .i64 v.ses,sv]):=(a2.get _ (by omega)).trans k4;have hse:=Z0 ((hs.1).mono l2) hv hr;by_cases c1:(bX v).2=0;case neg=>have d1:=decide_eq_false c1;have st0:=qZ (v:=⟨0,0,0,[]⟩) (sv:=.slice none 0 0) (rv:=.slice none 0 0) a4 rfl rfl;have ld0:=dN (v:=⟨0,0,0,[]⟩) (sv:=.slice none 0 0) (rv:=.slice none 0 0) (W:=W2.put W1.next (.cells (dJ ⟨0,0,0,[]⟩ (.slice none 0 0) (.slice none 0 0)))) (b:=W1.next) (AW.get_put _ _ _);refine⟨λ_=>aN rfl ?_ I4,λx=>absurd x c1⟩;unfold CX;simp only[SX,k1,a1,vJ x1,hse,d1,aEL,st0,bF,DF,ld0,Option.bind_some,aB];exact⟨trivial,l2.put (by omega) _⟩
 refine⟨λx=>absurd c1 x,λ_ n hn=>?_⟩;have d1:=decide_eq_true c1;obtain⟨n',hn',hn4⟩:=UH c1;obtain rfl:n'=n:=by omega
 have hg:=QT (Y6 c1 hn);have hsl:Sl sv:=by
  have h0:v.secs≠[]:=λx=>by have:=(fT hg.1).2.2.1;rw[x]at this;simp at this
  obtain⟨-,a,c,rfl,-,h4⟩:=hs;obtain⟨b,o,rfl⟩:=h4 h0;exact⟨rfl,pY _ _ _ _⟩
 have l3:Le W2 (W2.add (.cells ((List.replicate n' CS).flatMap dP))):=(Le.refl _).add _;have n3:(W2.add (.cells ((List.replicate n' CS).flatMap dP))).next=W2.next+1:=AW.add_next _ _;have g3:(W2.add (.cells ((List.replicate n' CS).flatMap dP))).get W2.next=some (.cells ((List.replicate n' CS).flatMap dP)):=AW.get_add _ _;have main:Ok (CX aK (kR v sv) W) λr=>∃rv',r.1=.tuple #[eF v sv rv',.int .i64 0]/\Le W r.2/\RefA r.2 v sv rv' (lL n')/\BlS W.next r.2 rv' (lL n'):=by unfold CX;simp only[SX,k1,a1,vJ x1,hse,d1,<-hn,aBc (show n'<=10000 by omega)];generalize W2.add (.cells ((List.replicate n' CS).flatMap dP))=W3 at *;have y3:W3.get W1.next=some (.cells (dJ ⟨0,0,0,[]⟩ (.slice none 0 0) (.slice none 0 0))):=(l3.get _ (by omega)).trans a4;have st5:=qZ (v:=v) (rv:=.slice (some ⟨W2.next,0,none⟩) n' n') y3 hsl.1 rfl;have ld5:=dN (v:=v) (sv:=sv) (rv:=.slice (some ⟨W2.next,0,none⟩) n' n') (W:=W3.put W1.next (.cells (dJ v sv (.slice (some ⟨W2.next,0,none⟩) n' n')))) (b:=W1.next) (AW.get_put _ _ _);simp only[SX,aDe,st5,bF,DF,ld5,Option.bind_some,aB];have lf:Le W (W3.put W1.next (.cells (dJ v sv (.slice (some ⟨W2.next,0,none⟩) n' n')))):=(l2.trans l3).put (by omega) _;have hbl:BlS W2.next (W3.put W1.next (.cells (dJ v sv (.slice (some ⟨W2.next,0,none⟩) n' n')))) (.slice (some ⟨W2.next,0,none⟩) n' n') (lL n'):=⟨W2.next,n',Nat.le_refl _,by rw[AW.put_next];omega,by rw[nG],λ_=>by rw[AW.get_put_ne _ _ (by omega)];exact g3⟩;refine⟨_,rfl,lf,⟨hsl,⟨rfl,pY _ _ _ _⟩,hbl.row,(hs.1).mono lf,hg.2.2.2.2,by rw[nG];exact hn4⟩,?_⟩;obtain⟨B,c,q0,q1,q2,q3⟩:=hbl;exact⟨B,c,by have:=l2.next;omega,q1,q2,q3⟩
 obtain⟨⟨r,W'⟩,h1,rv',h2,h3,h4,h5⟩:=main;simp only at h2 h3 h4 h5;subst h2;have hp:bB (.tuple #[eF v sv rv',.int .i64 0])=false:=by obtain⟨B,c,-,-,rfl,-⟩:=h5;simp[bB,fV,bZ]
 exact⟨rv',W',by rw[I4 h1,eG (by rw[hp];rfl)],h3,h4,h5⟩
end
structure Both (K:Nat->Prop) (V:AW) (Wa:AW) (M k:Nat) (v:Ven) (sv rv:Value) (W0:AW) (N:Int) (l:List SeT):Prop where
 map:MapS K V M k l.length v W0 N l
 low:Le Wa W0
 secs:SecsC Wa sv v.secs
 s1:Sl sv
 r1:Sl rv
 np:∃a n c,rv=.slice (some a) n c
 row:∀V',Gr V V' K->SeL V' rv l
 i64:TR l
 ve:(lW v).2=0
 tot:(l.length:Int)=dA v.secs
section
variable {K:Nat->Prop} {V Wa:AW} {M k:Nat} {v:Ven} {sv rv:Value} {W0:AW} {N:Int} {l:List SeT}
theorem Both.vk(h:Both K V Wa M k v sv rv W0 N l):v.sh=(k:Int):=h.map.vk
theorem Both.v8(h:Both K V Wa M k v sv rv W0 N l):v.secs.length<1000:=by have:=(fT h.ve).1.len;omega
theorem Both.ref(h:Both K V Wa M k v sv rv W0 N l){V':AW}(g:Gr V V' K):RefA V' v sv rv l:=by
 have hw:Le Wa V':=by refine⟨Nat.le_trans (Nat.le_trans h.low.next h.map.w0.next) g.next,λb hb=>?_⟩;have hb0:=Nat.lt_of_lt_of_le hb h.low.next;rw[g.get b (Nat.lt_of_lt_of_le hb0 h.map.w0.next) (λc=>by have:=h.map.wk c;omega),h.map.w0.get b hb0];exact h.low.get b hb
 have:=h.map.mn;have:=h.map.kp;exact⟨h.s1,h.r1,h.row V' g,(h.secs.1).mono hw,by rw[h.vk];omega,by omega⟩
theorem Both.le(h:Both K V Wa M k v sv rv W0 N l){V':AW}(hl:Le V V'):Both (λb=>K b/\b<V.next\/V'.next<=b) V' Wa M k v sv rv W0 N l:=
 {h with map:=h.map.shift hl,row:=λV2 g=>h.row V2 ⟨Nat.le_trans hl.next g.next,λb hb hn=>by
   rw[g.get b (Nat.lt_of_lt_of_le hb hl.next) λc=>by
    rcases c with c|c
    ·exact hn c.1
    ·have:=hl.next;omega];exact hl.get b hb⟩}
theorem Both.out(h:Both K V Wa M k v sv rv W0 N l){b:Nat}(hb:¬K b)(hw:V.next<=b->False)(hlo:W0.next<=b)(o:AObj)(hr:∀V',Gr (V.put b o) V' K->SeL V' rv l):Both K (V.put b o) Wa M k v sv rv W0 N l:=
 {h with map:=h.map.keep (Nat.le_refl _) (λc _ hc=>AW.get_put_ne _ _ λe=>hb (by rw[e];exact hc)) (h.map.w0.put hlo o),row:=hr}
end
structure CaT where
 what:Int
 at_:Int
 now:Int
 s:SeT
abbrev caC(x:CaT):List Value:=.int .u8 x.what::.int .i64 x.at_::.int .i64 x.now::dP x.s
abbrev caV(x:CaT):Value:=.agg #[.int .u8 x.what,.int .i64 x.at_,.int .i64 x.now,.int .i64 x.s.st,.int .u32 x.s.ow,.int .i64 x.s.dl,.int .u64 x.s.se,.int .u64 x.s.ep]
theorem aCz(x:CaT)(W:AW):∃W1,bW (caV x) W=some (.pointer (some ⟨W.next,0,none⟩),W1)/\Le W W1/\W1.next=W.next+1/\W1.get W.next=some (.cells (caC x)):=⟨_,gF _,(Le.refl _).add _,AW.add_next _ _,AW.get_add _ _⟩
theorem BB{x:CaT}{W:AW}{b:Nat}(h:W.get b=some (.cells (caC x))):aL (.pointer (some ⟨b,0,none⟩)) W=some (.int .u8 x.what,W)/\aL (.pointer (some ⟨b,1,none⟩)) W=some (.int .i64 x.at_,W)/\aL (.pointer (some ⟨b,2,none⟩)) W=some (.int .i64 x.now,W)/\bH 5 (.pointer (some ⟨b,3,none⟩)) W=some (lY x.s,W):=
 ⟨iJ (bT h) rfl,iJ (bT h) rfl,iJ (bT h) rfl,qD (bK h) rfl⟩
theorem aEX(x y:Int×Int)(c d:Bool)(W:AW):aD Tryz.prog .eql 42 c d (jQ x) (jQ y) W=some (.bool (decide (x=y)),W):=by refine FY g43 ((q43 ..).trans ?_);rw[BG];congr 1;simp only[List.all_cons,List.all_nil,Bool.and_true];rw[Bool.eq_iff_iff];obtain⟨x1,x2⟩:=x;obtain⟨y1,y2⟩:=y;simp
theorem a3J(v:Ven)(sv rv:Value)(h1:Eng.one sv=true)(h2:Eng.one rv=true)(W:AW):∃W1 W2,aW Tryz.prog 56 W=some (.pointer (some ⟨W.next,0,none⟩),W1)/\cO 5 (.pointer (some ⟨W.next,0,none⟩)) (eF v sv rv) W1=some (undef,W2)/\Le W W2/\W2.next=W.next+1/\W2.get W.next=some (.cells (dJ v sv rv)):=by obtain⟨W1,a1,a2,a3,a4⟩:=WJ W;exact⟨W1,_,a1,qZ a4 h1 h2,a2.put (Nat.le_refl _) _,a3,AW.get_put _ _ _⟩
section
variable {K:Nat->Prop} {V Wa:AW} {M k:Nat} {v:Ven} {sv rv:Value} {W0:AW} {N:Int} {l:List SeT}
theorem Both.stay(h:Both K V Wa M k v sv rv W0 N l){V1 V2:AW}{rv':Value}{l':List SeT}(l1:Le V V1)(l2:Le V1 V2)(hc:(rv'=rv/\l'=l)\/BlS V1.next V2 rv' l'){V':AW}(hn:V2.next<=V'.next)(g:∀b,b<V2.next->(b<V.next/\¬K b\/V1.next<=b)->V'.get b=V2.get b):SeL V' rv' l':=by
 rcases hc with⟨rfl,rfl⟩|hc
 ·refine h.row V' ⟨Nat.le_trans (l1.trans l2).next hn,λb hb hk=>?_⟩;rw[g b (Nat.lt_of_lt_of_le hb (l1.trans l2).next) (.inl ⟨hb,hk⟩)];exact(l1.trans l2).get b hb
 ·exact(hc.keep hn λb h1 h2=>g b h2 (.inr h1)).row
theorem wI(h:Both K V Wa M k v sv rv W0 N l)(x:CaT):∃V1 V2 V3,bW (eF v sv rv) V=some (.pointer (some ⟨V.next,0,none⟩),V1)/\bW (caV x) V1=some (.pointer (some ⟨V.next+1,0,none⟩),V2)/\aW Tryz.prog 56 V2=some (.pointer (some ⟨V.next+2,0,none⟩),V3)/\Le V V3/\V3.next=V.next+3/\
 V3.get V.next=some (.cells (dJ v sv rv))/\V3.get (V.next+1)=some (.cells (caC x))/\V3.get (V.next+2)=some (.cells (dJ ⟨0,0,0,[]⟩ (.slice none 0 0) (.slice none 0 0))):=by
 obtain⟨V1,a1,a2,a3,a4⟩:=tQ v sv rv V;obtain⟨V2,b1,b2,b3,b4⟩:=aCz x V1;obtain⟨V3,c1,c2,c3,c4⟩:=WJ V2;rw[a3]at b1 b4 b3;rw[b3]at c1 c4 c3;exact⟨V1,V2,V3,a1,b1,c1,a2.trans (b2.trans c2),c3,by rw[c2.get _ (by omega),b2.get _ (by omega)];exact a4,by rw[c2.get _ (by omega)];exact b4,c4⟩
theorem a0q(w:Int)(c d:Bool)(W:AW):aD Tryz.prog .rem 5 c d (.int .u8 w) (.int .u8 8) W=some (.int .u8 (w.tmod 8),W):=a1g (by decide)
theorem aBS(h:Both K V Wa M k v sv rv W0 N l){x:CaT}(hw:x.what.tmod 8=3):Ok (gI aK (mV M) (eF v sv rv) (caV x) V) λr=>r.1=.tuple #[eF v sv rv,.bool true]/\Le V r.2:=by
 obtain⟨V1,V2,V3,s1,s2,s3,l3,n3,x1,x2,x3⟩:=wI h x;have d0:decide (x.what.tmod 8=0)=false:=decide_eq_false (by omega);have d1:decide (x.what.tmod 8=1)=false:=decide_eq_false (by omega);have d2:decide (x.what.tmod 8=2)=false:=decide_eq_false (by omega);have d3:decide (x.what.tmod 8=3)=true:=decide_eq_true hw;obtain⟨c0,c1,-,-⟩:=BB x2;have m1:=aAj (h.map.le l3) x.at_;obtain⟨U4,U5,a1,a2,a3,a4,a5⟩:=a8t V3 (a1o l x.at_);have y1:=(a3.get _ (by omega)).trans x1;obtain⟨-,c1',-,-⟩:=BB ((a3.get _ (by omega)).trans x2);have f1:=a5x (h.ref (Le.gr (l3.trans a3) K)) x.at_;obtain⟨U6,U7,b1,b2,b3,b4,b5⟩:=a8t U5 (a1o l x.at_);have z1:=(b3.get _ (by omega)).trans y1;have z2:=(b3.get _ (by omega)).trans a5;have z3:U7.get (V.next+2)=some (.cells (dJ ⟨0,0,0,[]⟩ (.slice none 0 0) (.slice none 0 0))):=by rw[b3.get _ (by omega),a3.get _ (by omega)];exact x3
 have st:=qZ (v:=v) z3 h.s1.1 h.r1.1;have ld:=dN (v:=v) (sv:=sv) (rv:=rv) (W:=U7.put (V.next+2) (.cells (dJ v sv rv))) (b:=V.next+2) (AW.get_put _ _ _);have t1:decide (a1o l x.at_=a1o l x.at_)=true:=decide_eq_true rfl;have t2:decide (K7 x.at_ l.length=K7 x.at_ l.length)=true:=decide_eq_true rfl;unfold gI;simp only[SX,s1,s2,s3,Nat.zero_add,c0,a0q,d0,d1,d2,d3,c1,m1,a1,a2,dN y1,c1',f1,b1,b2,dN z1,bM z2,bM b5,aEl,t1,t2,st,dF,kY,Bool.and_true,bF,DF,ld,Option.bind_some,aB];exact⟨trivial,((l3.trans a3).trans b3).put (by omega) _⟩
theorem a6c(h:Both K V Wa M k v sv rv W0 N l){x:CaT}(hw:x.what.tmod 8=4):Ok (gI aK (mV M) (eF v sv rv) (caV x) V) λr=>r.1=.tuple #[eF v sv rv,.bool true]/\Le V r.2:=by
 obtain⟨V1,V2,V3,s1,s2,s3,l3,n3,x1,x2,x3⟩:=wI h x;have d0:decide (x.what.tmod 8=0)=false:=decide_eq_false (by omega);have d1:decide (x.what.tmod 8=1)=false:=decide_eq_false (by omega);have d2:decide (x.what.tmod 8=2)=false:=decide_eq_false (by omega);have d3:decide (x.what.tmod 8=3)=false:=decide_eq_false (by omega);have d4:decide (x.what.tmod 8=4)=true:=decide_eq_true hw;obtain⟨c0,c1,-,-⟩:=BB x2;obtain⟨u,U1,m1,m2,m3⟩:=a5L (h.map.le l3) x.at_;have n1:=m2.next;have y1:=(m2.get _ (by omega)).trans x1;have y2:=(m2.get _ (by omega)).trans x2;obtain⟨-,c2,-,-⟩:=BB y2;obtain⟨u',U2,f1,f2,f3⟩:=ZN (h.ref (Le.gr (l3.trans m2) K)) h.vk x.at_;have n2:=f2.next;have z1:=(f2.get _ (by omega)).trans y1;have z2:=(f2.get _ (by omega)).trans y2;obtain⟨-,c3,-,-⟩:=BB z2;have le2:=(l3.trans m2).trans f2;obtain⟨p,g1,g2,g3⟩:=a6s (h.map.le le2) x.at_;obtain⟨U3,U4,a1,a2,a3,a4,a5⟩:=aAf U2 p;have w1:=(a3.get _ (by omega)).trans z1;have w2:=(a3.get _ (by omega)).trans z2;obtain⟨-,c4,-,-⟩:=BB w2;obtain⟨p',e1,e2,e3⟩:=a2q (h.ref (Le.gr (le2.trans a3) K)) h.vk h.i64 x.at_;have hp:p=p':=by
  by_cases c:RS l k x.at_=0
  ·exact a5r (g3 c) (e3 c)
  ·rw[g2 c,e2 c]
 rw[<-hp]at e1;obtain⟨U5,U6,b1,b2,b3,b4,b5⟩:=aAf U4 p;have v1:=(b3.get _ (by omega)).trans w1;have v2:=(b3.get _ (by omega)).trans a5;have ff:=a3l ((m3.mono f2).mono (a3.trans b3)) (f3.mono (a3.trans b3)) (by
  unfold shL;split
  ·rw[iG];unfold cnt;have:=Nat.div_le_self (l.length+k-1-x.at_.toNat) k;have:=h.map.mn;have:=h.map.kp;omega
  ·simp);have t0:decide (shL l k x.at_=shL l k x.at_)=true:=decide_eq_true rfl;have t1:decide (dQ x.at_ k 0=dQ x.at_ k 0)=true:=decide_eq_true rfl;have t2:decide (p=p)=true:=decide_eq_true rfl;have t3:decide (RS l k x.at_=RS l k x.at_)=true:=decide_eq_true rfl;rw[t0]at ff;have z3:U6.get (V.next+2)=some (.cells (dJ ⟨0,0,0,[]⟩ (.slice none 0 0) (.slice none 0 0))):=by rw[b3.get _ (by omega),a3.get _ (by omega),f2.get _ (by omega),m2.get _ (by omega)];exact x3
 have st:=qZ (v:=v) z3 h.s1.1 h.r1.1;have ld:=dN (v:=v) (sv:=sv) (rv:=rv) (W:=U6.put (V.next+2) (.cells (dJ v sv rv))) (b:=V.next+2) (AW.get_put _ _ _);have vv:=a1j (v:=v) h.s1.2 h.r1.2;unfold gI;simp only[SX,nP,nQ,s1,s2,s3,Nat.zero_add,c0,a0q,d0,d1,d2,d3,d4,c1,m1,dN y1,c2,f1,c3,g1,a1,a2,dN w1,c4,e1,b1,b2,dN v1,ff,dF,vv,t1,F7 v2,F7 b5,aEX,t2,t3,st,kY,Bool.and_true,bF,DF,ld,Option.bind_some,aB];exact⟨trivial,((le2.trans a3).trans b3).put (by omega) _⟩
theorem aCe(h:Both K V Wa M k v sv rv W0 N l){x:CaT}(hw:x.what.tmod 8=5):Ok (gI aK (mV M) (eF v sv rv) (caV x) V) λr=>r.1=.tuple #[eF v sv rv,.bool true]/\Le V r.2:=by
 obtain⟨V1,V2,V3,s1,s2,s3,l3,n3,x1,x2,x3⟩:=wI h x;have d0:decide (x.what.tmod 8=0)=false:=decide_eq_false (by omega);have d1:decide (x.what.tmod 8=1)=false:=decide_eq_false (by omega);have d2:decide (x.what.tmod 8=2)=false:=decide_eq_false (by omega);have d3:decide (x.what.tmod 8=3)=false:=decide_eq_false (by omega);have d4:decide (x.what.tmod 8=4)=false:=decide_eq_false (by omega);have d5:decide (x.what.tmod 8=5)=true:=decide_eq_true hw;have hmn:=h.map.mn;obtain⟨c0,c1,c1b,-⟩:=BB x2;obtain⟨u,U1,o1,m1,m2,m3,m4,m5⟩:=a3F (h.map.le l3) x.at_ x.now;have n1:=m2.next;have y1:=(m2.get _ (by omega)).trans x1;have y2:=(m2.get _ (by omega)).trans x2;obtain⟨-,c2,c2b,-⟩:=BB y2;obtain⟨u',U2,o2,f1,f2,f3,f4,f5⟩:=WA (h.ref (Le.gr (l3.trans m2) K)) h.vk x.at_ x.now;have ho:o1=o2:=by
  by_cases c:dQ x.at_ k x.now=0
  ·exact PG (m5 c) (f5 c)
  ·rw[m4 c,f4 c]
 have n2:=f2.next;have z1:=(f2.get _ (by omega)).trans y1;have z2:=(f2.get _ (by omega)).trans y2;obtain⟨-,c3,c3b,-⟩:=BB z2;have le2:=(l3.trans m2).trans f2;obtain⟨w,U3,o3,g1,g2,g3,g4,g5⟩:=a4l (h.map.le le2) x.now;have n4:=g2.next;have w1:=(g2.get _ (by omega)).trans z1;have w2:=(g2.get _ (by omega)).trans z2;obtain⟨-,c4,c4b,-⟩:=BB w2;obtain⟨w',U4,o4,e1,e2,e3,e4,e5⟩:=Z5 (h.ref (Le.gr (le2.trans g2) K)) h.vk x.now;have ho2:o3=o4:=by
  by_cases c:x.now<0
  ·rw[g4 c,e4 c]
  ·exact PG (g5 (by omega)) (e5 (by omega))
 have v1:=(e2.get _ (by omega)).trans w1;have hl1:∀{p:Nat->Bool} {o:List (Int×Int)},mE (bQ l p) x.now o->o.length<=10000:=λ{p o} hd=>by have h1:=hd.2.length_eq;have h2:=List.length_filter_le (dM x.now) (bQ l p);have h3:=kV l p;omega
 have hlo1:o1.length<=10000:=by
  by_cases c:dQ x.at_ k x.now=0
  ·exact hl1 (m5 c)
  ·rw[m4 c];simp
 have hlo3:o3.length<=10000:=by
  by_cases c:x.now<0
  ·rw[g4 c];simp
  ·exact hl1 (g5 (by omega))
 have ff:=JI (((m3.row.mono f2).mono g2).mono e2) ((f3.row.mono g2).mono e2) hlo1;have ff2:=JI (g3.row.mono e2) e3.row hlo3;rw[decide_eq_true ho]at ff;rw[decide_eq_true ho2]at ff2;have t1:decide (dQ x.at_ k x.now=dQ x.at_ k x.now)=true:=decide_eq_true rfl;have t3:decide ((if x.now<0 then(7:Int)else 0)=(if x.now<0 then 7 else 0))=true:=decide_eq_true rfl;have z3:U4.get (V.next+2)=some (.cells (dJ ⟨0,0,0,[]⟩ (.slice none 0 0) (.slice none 0 0))):=by rw[e2.get _ (by omega),g2.get _ (by omega),f2.get _ (by omega),m2.get _ (by omega)];exact x3
 have st:=qZ (v:=v) z3 h.s1.1 h.r1.1;have ld:=dN (v:=v) (sv:=sv) (rv:=rv) (W:=U4.put (V.next+2) (.cells (dJ v sv rv))) (b:=V.next+2) (AW.get_put _ _ _);have vv:=a1j (v:=v) h.s1.2 h.r1.2;unfold gI;simp only[SX,nP,nQ,s1,s2,s3,Nat.zero_add,c0,a0q,d0,d1,d2,d3,d4,d5,c1,c1b,m1,dN y1,c2,c2b,f1,c3b,g1,dN w1,c4b,e1,dN v1,ff,dF,vv,t1,ff2,t3,st,kY,Bool.and_true,bF,DF,ld,Option.bind_some,aB];exact⟨trivial,((le2.trans g2).trans e2).put (by omega) _⟩
theorem a9E(h:Both K V Wa M k v sv rv W0 N l){x:CaT}(h0:x.what.tmod 8≠0)(h1:x.what.tmod 8≠1)(h2:x.what.tmod 8≠2)(h3:x.what.tmod 8≠3)(h4:x.what.tmod 8≠4)(h5:x.what.tmod 8≠5)(h6:x.what.tmod 8≠6):Ok (gI aK (mV M) (eF v sv rv) (caV x) V) λr=>r.1=.tuple #[eF v sv rv,.bool true]/\Le V r.2:=by
 obtain⟨V1,V2,V3,s1,s2,s3,l3,n3,x1,x2,x3⟩:=wI h x;have d0:=decide_eq_false h0;have d1:=decide_eq_false h1;have d2:=decide_eq_false h2;have d3:=decide_eq_false h3;have d4:=decide_eq_false h4;have d5:=decide_eq_false h5;have d6:=decide_eq_false h6;have hok:∀y,y∈l->vY y=0:=λy hy=>h.map.ok hy
 obtain⟨c0,c1,-,-⟩:=BB x2;obtain⟨u,U1,m1,m2,m3⟩:=a8h (h.map.le l3) h.v8 h.tot x.at_;have n1:=m2.next;have y1:=(m2.get _ (by omega)).trans x1;have y2:=(m2.get _ (by omega)).trans x2;obtain⟨-,c2,-,-⟩:=BB y2;obtain⟨u',U2,f1,f2,f3⟩:=a0c (h.ref (Le.gr (l3.trans m2) K)) h.ve h.tot x.at_;have n2:=f2.next;have z1:=(f2.get _ (by omega)).trans y1;have z2:=(f2.get _ (by omega)).trans y2;obtain⟨-,c3,-,-⟩:=BB z2;have le2:=(l3.trans m2).trans f2;have g1:=a4q (h.map.le le2) h.v8 h.tot x.at_;have e1:=a1l (h.ref (Le.gr le2 K)) h.ve h.tot hok x.at_;have hmn:=h.map.mn;have ff:=a9y (m3.mono f2) f3 (by
  unfold SK;split
  ·rename_i c;obtain⟨F,C,e1,e2,e3⟩:=BU c;have:=GN l (CP v x.at_).1.toNat (CP v x.at_).2.1.toNat;rw[e2]at this;have:=h.tot;simp at this|-;rw[e2];have h9:=GN l (CP v x.at_).1.toNat C;simp;omega
  ·simp);rw[decide_eq_true (rfl:SK v l x.at_=SK v l x.at_)]at ff;have t1:decide ((CP v x.at_).2.2=(CP v x.at_).2.2)=true:=decide_eq_true rfl;have t2:∀t,decide (D9 v l x.at_ t=D9 v l x.at_ t)=true:=λt=>decide_eq_true rfl
 have z3:U2.get (V.next+2)=some (.cells (dJ ⟨0,0,0,[]⟩ (.slice none 0 0) (.slice none 0 0))):=by rw[f2.get _ (by omega),m2.get _ (by omega)];exact x3
 have st:=qZ (v:=v) z3 h.s1.1 h.r1.1;have ld:=dN (v:=v) (sv:=sv) (rv:=rv) (W:=U2.put (V.next+2) (.cells (dJ v sv rv))) (b:=V.next+2) (AW.get_put _ _ _);have vv:=a1j (v:=v) h.s1.2 h.r1.2;unfold gI;simp only[SX,nP,nQ,s1,s2,s3,Nat.zero_add,c0,a0q,d0,d1,d2,d3,d4,d5,d6,c1,m1,dN y1,c2,f1,c3,g1,XR,X7,XX,XN,dN z1,e1,ff,dF,vv,t1,t2,st,kY,Bool.and_true,bF,DF,ld,Option.bind_some,aB];exact⟨trivial,le2.put (by omega) _⟩
end
def aFc(l:List SeT)(k:Nat)(x:CaT)(d:List (Int×Int)):List SeT:=if x.what.tmod 8=0\/x.what.tmod 8=1\/x.what.tmod 8=2 then jL l x.at_ x.s else if x.what.tmod 8=6 then sM l x.now d else l
theorem a7d{l:List SeT}(h:TR l)(n:Int){y:SeT}(hy:y.dl<=9223372036854775807):TR (jL l n y):=by
 unfold jL;split
 ·intro z hz;rcases List.mem_or_eq_of_mem_set hz with c|c
  ·exact h z c
  ·rw[c];exact hy
 ·exact h
theorem a09(now:Int):∀(d:List (Int×Int)) {l:List SeT},TR l->TR (sM l now d)
 |[],l,h=>h
 |e::d,l,h=>by
  refine a09 now d (l:=Z7 now l e) ?_;intro z hz;unfold Z7 at hz;rcases List.mem_or_eq_of_mem_set hz with c|c
  ·exact h z c
  ·rw[c];have hs:(mY l e.1.toNat).dl<=9223372036854775807:=by
    unfold mY;rw[List.getD_eq_getElem?_getD];cases hc:l[e.1.toNat]? with
    |none=>show(0:Int)<=_;omega
    |some y=>exact h y (List.mem_of_getElem? hc)
   unfold rJ;split
   ·show(0:Int)<=_;omega
   ·exact hs
theorem a6P(l:List SeT)(n:Int)(y:SeT):(jL l n y).length=l.length:=by
 unfold jL;split
 ·rw[List.length_set]
 ·rfl
section
variable {K:Nat->Prop} {V Wa:AW} {M k:Nat} {v:Ven} {sv rv:Value} {W0:AW} {N:Int} {l:List SeT}
theorem Both.done(h:Both K V Wa M k v sv rv W0 N l){V1 V2 V3 V4:AW}{rv':Value}{l':List SeT}{N':Int}(l1:Le V V1)(l2:Le V1 V2)(l3:Le V2 V3)(hc:(rv'=rv/\l'=l)\/BlS V1.next V2 rv' l')(hr:Sl rv')(hnp:∃a n c,rv'=.slice (some a) n c)(hlen:l'.length=l.length)(h64:TR l')
 (hm:MapS (λb=>K b/\b<V.next\/V3.next<=b) V4 M k l.length v W0 N' l')(g:Gr V3 V4 λb=>K b/\b<V.next\/V3.next<=b){r:Nat}(hr1:V.next<=r)(hr2:r<V1.next)(o:AObj):
 Both (λb=>K b/\b<V.next\/V3.next<=b) (V4.put r o) Wa M k v sv rv' W0 N' l'/\Gr V (V4.put r o) K/\∀b,b<V.next->(K b/\b<V.next\/V3.next<=b)->K b:=by
 have n1:=l1.next;have n2:=l2.next;have n3:=l3.next;have n4:=g.next;have hw0:=h.map.w0.next;have keep:∀b,b<V3.next->(b<V.next/\¬K b\/V.next<=b)->V4.get b=V3.get b:=λb hb hk=>g.get b hb λc=>by
  rcases c with c|c
  ·rcases hk with hk|hk
   ·exact hk.2 c.1
   ·omega
  ·omega
 refine⟨{map:=?_,low:=h.low,secs:=h.secs,s1:=h.s1,r1:=hr,np:=hnp,row:=?_,i64:=h64,ve:=h.ve,tot:=by rw[hlen];exact h.tot},?_,?_⟩
 ·rw[hlen];exact hm.keep (Nat.le_refl _) (λb hb hk=>AW.get_put_ne _ _ λe=>by subst e;rcases hk with hk|hk<;>omega) (hm.w0.put (by omega) o)
 ·intro V' g';have hn':=g'.next;rw[AW.put_next]at hn';refine h.stay l1 l2 hc (by omega) λb hb hk=>?_
  have hnk:¬(K b/\b<V.next\/V3.next<=b):=λc=>by
   rcases c with c|c
   ·rcases hk with hk|hk
    ·exact hk.2 c.1
    ·omega
   ·omega
  have hbr:b≠r\/b<V.next:=by
   rcases hk with hk|hk
   ·exact .inr hk.1
   ·exact .inl (by omega)
  rw[g'.get b (by rw[AW.put_next];omega) hnk,AW.get_put_ne _ _ (by omega),keep b (by omega) (by
   rcases hk with hk|hk
   ·exact .inl hk
   ·exact .inr (by omega))];exact l3.get b hb
 ·refine⟨by rw[AW.put_next];omega,λb hb hk=>?_⟩;rw[AW.get_put_ne _ _ (by omega),keep b (by omega) (.inl ⟨hb,hk⟩)];exact((l1.trans l2).trans l3).get b hb
 ·intro b hb hk;rcases hk with hk|hk
  ·exact hk.1
  ·omega
theorem aBX(h:Both K V Wa M k v sv rv W0 N l)(hN:N<100000000000000){x:CaT}(hx:x.s.dl<=9223372036854775807)(hw:x.what.tmod 8=0\/x.what.tmod 8=1\/x.what.tmod 8=2):∃rv' K',Ok (gI aK (mV M) (eF v sv rv) (caV x) V) λr=>r.1=.tuple #[eF v sv rv',.bool true]/\Both K' r.2 Wa M k v sv rv' W0 (N+5000) (jL l x.at_ x.s)/\Gr V r.2 K/\∀b,b<V.next->K' b->K b:=by
 obtain⟨V1,V2,V3,s1,s2,s3,l3,n3,x1,x2,x3⟩:=wI h x;obtain⟨c0,c1,-,c3⟩:=BB x2;obtain⟨rv',U1,f1,f2,f3,f4⟩:=a5t (h.ref (Le.gr l3 K)) x.at_ x.s;have n1:=f2.next;have hs1:=h.s1.1;obtain⟨U2,U3,a1,a2,a3,a4,a5⟩:=a3J v sv rv' hs1 f3.r1.1 U1;have leU:=f2.trans a3;obtain⟨-,c1',-,c3'⟩:=BB ((leU.get _ (by omega)).trans x2);have hm:=h.map.shift (l3.trans leU);obtain⟨U4,g1,g2,g3⟩:=a9N hm x.at_ x.s (by omega);have nn:=g3.next;have hK:∀b,V.next<=b->b<U3.next->¬(K b/\b<V.next\/U3.next<=b):=λb h1 h2 hb=>by rcases hb with hb|hb<;>omega
 have w5:U4.get U1.next=some (.cells (dJ v sv rv')):=(g3.get _ (by omega) (hK _ (by omega) (by omega))).trans a5;have w3:U4.get (V.next+2)=some (.cells (dJ ⟨0,0,0,[]⟩ (.slice none 0 0) (.slice none 0 0))):=by rw[g3.get _ (by omega) (hK _ (by omega) (by omega)),leU.get _ (by omega)];exact x3
 have st:=qZ (v:=v) w3 hs1 f3.r1.1;have ld:=dN (v:=v) (sv:=sv) (rv:=rv') (W:=U4.put (V.next+2) (.cells (dJ v sv rv'))) (b:=V.next+2) (AW.get_put _ _ _);have vv:=a1j (v:=v) h.s1.2 f3.r1.2;have t1:decide (BP l x.at_ x.s=BP l x.at_ x.s)=true:=decide_eq_true rfl;have hc:(rv'=rv/\jL l x.at_ x.s=l)\/BlS V3.next U1 rv' (jL l x.at_ x.s):=by
  rcases f4 with f4|⟨B,c,q1,q2,q3,q4⟩
  ·exact .inl f4
  ·exact .inr ⟨B,c,q1,q2,q3,λ_=>q4⟩
 have hnp:∃a n c,rv'=.slice (some a) n c:=by
  rcases f4 with f4|⟨B,c,-,-,q3,-⟩
  ·rw[f4.1];exact h.np
  ·exact⟨_,_,_,q3⟩
 obtain⟨r1,r2,r3⟩:=h.done l3 f2 a3 hc f3.r1 hnp (a6P _ _ _) (a7d h.i64 _ hx) (g2.grow (N':=N+5000) (by omega)) g3 (r:=V.next+2) (by omega) (by omega) (.cells (dJ v sv rv'));refine⟨rv',λb=>K b/\b<V.next\/U3.next<=b,?_⟩;unfold gI;rcases hw with hw|hw|hw
 ·have d0:decide (x.what.tmod 8=0)=true:=decide_eq_true hw;simp only[SX,s1,s2,s3,Nat.zero_add,c0,a0q,d0,dN x1,c1,c3,f1,a1,a2,dN a5,c1',c3',g1,dN w5,dF,vv,st,t1,kY,Bool.and_true,bF,DF,ld,Option.bind_some,aB];exact⟨trivial,r1,r2,r3⟩
 ·have d0:decide (x.what.tmod 8=0)=false:=decide_eq_false (by omega);have d1:decide (x.what.tmod 8=1)=true:=decide_eq_true hw;simp only[SX,s1,s2,s3,Nat.zero_add,c0,a0q,d0,d1,dN x1,c1,c3,f1,a1,a2,dN a5,c1',c3',g1,dN w5,dF,vv,st,t1,kY,Bool.and_true,bF,DF,ld,Option.bind_some,aB];exact⟨trivial,r1,r2,r3⟩
 ·have d0:decide (x.what.tmod 8=0)=false:=decide_eq_false (by omega);have d1:decide (x.what.tmod 8=1)=false:=decide_eq_false (by omega);have d2:decide (x.what.tmod 8=2)=true:=decide_eq_true hw;simp only[SX,s1,s2,s3,Nat.zero_add,c0,a0q,d0,d1,d2,dN x1,c1,c3,f1,a1,a2,dN a5,c1',c3',g1,dN w5,dF,vv,st,t1,kY,Bool.and_true,bF,DF,ld,Option.bind_some,aB];exact⟨trivial,r1,r2,r3⟩
theorem aCf(h:Both K V Wa M k v sv rv W0 N l)(hN:N<100000000000000){x:CaT}(hw:x.what.tmod 8=6):∃rv' K' d,Ok (gI aK (mV M) (eF v sv rv) (caV x) V) λr=>r.1=.tuple #[eF v sv rv',.bool true]/\Both K' r.2 Wa M k v sv rv' W0 (N+5000) (sM l x.now d)/\Gr V r.2 K/\∀b,b<V.next->K' b->K b:=by
 obtain⟨V1,V2,V3,s1,s2,s3,l3,n3,x1,x2,x3⟩:=wI h x;have d0:decide (x.what.tmod 8=0)=false:=decide_eq_false (by omega);have d1:decide (x.what.tmod 8=1)=false:=decide_eq_false (by omega);have d2:decide (x.what.tmod 8=2)=false:=decide_eq_false (by omega);have d3:decide (x.what.tmod 8=3)=false:=decide_eq_false (by omega);have d4:decide (x.what.tmod 8=4)=false:=decide_eq_false (by omega);have d5:decide (x.what.tmod 8=5)=false:=decide_eq_false (by omega);have d6:decide (x.what.tmod 8=6)=true:=decide_eq_true hw;have hmn:=h.map.mn;obtain⟨c0,c1,c1b,-⟩:=BB x2;have hm:=h.map.shift l3;obtain⟨u,U1,o1,m1,m2,m3,m4,m5,m6⟩:=a2B hm x.at_ x.now hN;have n1:=m2.next;have hKn:∀b,V.next<=b->b<V3.next->¬(K b/\b<V.next\/V3.next<=b):=λb h1 h2 hb=>by rcases hb with hb|hb<;>omega
 have hKK:∀b,b<V.next->¬K b->¬(K b/\b<V.next\/V3.next<=b):=λb h1 h2 hb=>by
  rcases hb with hb|hb
  ·exact h2 hb.1
  ·omega
 have gV:Gr V U1 K:=⟨by omega,λb hb hk=>(m2.get b (by omega) (hKK b hb hk)).trans (l3.get b hb)⟩;have y1:=(m2.get V.next (by omega) (hKn _ (by omega) (by omega))).trans x1;have y2:=(m2.get (V.next+1) (by omega) (hKn _ (by omega) (by omega))).trans x2;have y3:=(m2.get (V.next+2) (by omega) (hKn _ (by omega) (by omega))).trans x3;obtain⟨-,c2,c2b,-⟩:=BB y2;obtain⟨rv',u',U2,o2,f1,f2,f3,f4,f5,f6,f7⟩:=TY (h.ref gV) h.vk x.at_ x.now;have ho:o1=o2:=by
  by_cases c:dQ x.at_ k x.now=0
  ·exact PG (m5 c) (f5 c)
  ·rw[m4 c,f4 c]
 subst ho;have n2:=f2.next;obtain⟨U3,U4,a1,a2,a3,a4,a5⟩:=a3J v sv rv' h.s1.1 f6.r1.1 U2;have leU:=f2.trans a3;have hlo1:o1.length<=10000:=by
  by_cases c:dQ x.at_ k x.now=0
  ·have h1:=(m5 c).2.length_eq;have h2:=List.length_filter_le (dM x.now) (bQ l (jX k x.at_.toNat));have h3:=kV l (jX k x.at_.toNat);omega
  ·rw[m4 c];simp
 have ff:=JI (m3.mono leU) ((f3.row).mono a3) hlo1;rw[decide_eq_true (rfl:o1=o1)]at ff;have t1:decide (dQ x.at_ k x.now=dQ x.at_ k x.now)=true:=decide_eq_true rfl;have w3:=(leU.get _ (by omega)).trans y3;have st:=qZ (v:=v) w3 h.s1.1 f6.r1.1;have ld:=dN (v:=v) (sv:=sv) (rv:=rv') (W:=U4.put (V.next+2) (.cells (dJ v sv rv'))) (b:=V.next+2) (AW.get_put _ _ _);have vv:=a1j (v:=v) h.s1.2 f6.r1.2;have hnp:∃a n c,rv'=.slice (some a) n c:=by
  rcases f7 with f7|⟨B,c,-,-,q3,-⟩
  ·rw[f7.1];exact h.np
  ·exact⟨_,_,_,q3⟩
 have hw0:=h.map.w0.next;refine⟨rv',λb=>(K b/\b<V.next\/V3.next<=b)/\b<U1.next\/U4.next<=b,o1,?_⟩;unfold gI;simp only[SX,s1,s2,s3,Nat.zero_add,c0,a0q,d0,d1,d2,d3,d4,d5,d6,c1,c1b,m1,dN y1,c2,c2b,f1,a1,a2,dN a5,ff,dF,vv,t1,st,kY,Bool.and_true,bF,DF,ld,Option.bind_some,aB];refine⟨trivial,{map:=?_,low:=h.low,secs:=h.secs,s1:=h.s1,r1:=f6.r1,np:=hnp,row:=?_,i64:=a09 _ _ h.i64,ve:=h.ve,tot:=by rw[wK];exact h.tot},?_,?_⟩
 ·rw[wK];refine(m6.shift leU).keep (Nat.le_refl _) (λb hb hk=>AW.get_put_ne _ _ λe=>?_) ((m6.w0.trans leU).put (by omega) _);subst e;rcases hk with⟨hk,-⟩|hk
  ·rcases hk with hk|hk<;>omega
  ·omega
 ·intro V' g';have hn':=g'.next;rw[AW.put_next]at hn';rcases f7 with⟨f7,f8⟩|f7
  ·rw[f7,f8];refine h.row V' ⟨by omega,λb hb hk=>?_⟩;rw[g'.get b (by rw[AW.put_next];omega) (λc=>by
    rcases c with⟨c,-⟩|c
    ·exact hKK b hb hk c
    ·omega),AW.get_put_ne _ _ (by omega),leU.get b (by omega)];exact gV.get b hb hk
  ·refine(f7.keep (W':=V') (by omega) λb h1 h2=>?_).row;rw[g'.get b (by rw[AW.put_next];omega) (λc=>by rcases c with⟨-,c⟩|c<;>omega),AW.get_put_ne _ _ (by omega)];exact a3.get b h2
 ·refine⟨by rw[AW.put_next];omega,λb hb hk=>?_⟩;rw[AW.get_put_ne _ _ (by omega),leU.get b (by omega)];exact gV.get b hb hk
 ·intro b hb hk;rcases hk with⟨hk|hk,-⟩|hk
  ·exact hk.1
  ·omega
  ·omega
theorem aDQ(h:Both K V Wa M k v sv rv W0 N l)(hN:N<100000000000000){x:CaT}(hx:x.s.dl<=9223372036854775807):∃rv' K' V' l',aK (.func (.func 28) #[] #[]) [mV M,eF v sv rv,caV x] V=some (.tuple #[eF v sv rv',.bool true],V')/\Both K' V' Wa M k v sv rv' W0 (N+5000) l'/\Gr V V' K/\∀b,b<V.next->K' b->K b:=by
 have look:(Ok (gI aK (mV M) (eF v sv rv) (caV x) V) λr=>r.1=.tuple #[eF v sv rv,.bool true]/\Le V r.2)->∃rv' K' l',Ok (gI aK (mV M) (eF v sv rv) (caV x) V) λr=>r.1=.tuple #[eF v sv rv',.bool true]/\Both K' r.2 Wa M k v sv rv' W0 (N+5000) l'/\Gr V r.2 K/\∀b,b<V.next->K' b->K b:=by
  rintro⟨r,q1,q2,q3⟩;refine⟨rv,λb=>K b/\b<V.next\/r.2.next<=b,l,r,q1,q2,?_,Le.gr q3 K,λb hb hk=>?_⟩
  ·have:=h.le q3;exact{this with map:=this.map.grow (by omega)}
  ·rcases hk with hk|hk
   ·exact hk.1
   ·have:=q3.next;omega
 have all:∃rv' K' l',Ok (gI aK (mV M) (eF v sv rv) (caV x) V) λr=>r.1=.tuple #[eF v sv rv',.bool true]/\Both K' r.2 Wa M k v sv rv' W0 (N+5000) l'/\Gr V r.2 K/\∀b,b<V.next->K' b->K b:=by
  by_cases h0:x.what.tmod 8=0\/x.what.tmod 8=1\/x.what.tmod 8=2
  ·obtain⟨rv',K',q⟩:=aBX h hN hx h0;exact⟨rv',K',_,q⟩
  by_cases h3:x.what.tmod 8=3
  ·exact look (aBS h h3)
  by_cases h4:x.what.tmod 8=4
  ·exact look (a6c h h4)
  by_cases h5:x.what.tmod 8=5
  ·exact look (aCe h h5)
  by_cases h6:x.what.tmod 8=6
  ·obtain⟨rv',K',d,q⟩:=aCf h hN h6;exact⟨rv',K',_,q⟩
  exact look (a9E h (λc=>h0 (.inl c)) (λc=>h0 (.inr (.inl c))) (λc=>h0 (.inr (.inr c))) h3 h4 h5 h6)
 obtain⟨rv',K',l',⟨r,V'⟩,q1,q2,q3,q4,q5⟩:=all;simp only at q2 q3 q4;subst q2;have hp:bB (.tuple #[eF v sv rv',.bool true])=false:=by obtain⟨a,n,c,rfl⟩:=q3.np;simp[bB,fV,bZ]
 exact⟨rv',K',V',l',by rw[a0s q1,eG (by rw[hp];rfl)],q3,q4,q5⟩
end
def a4a(cs:List Value)(p:Nat)(x:CaT):Prop:=(cs.drop p).take 8=caC x
abbrev CaL(W:AW)(v:Value)(l:List CaT):Prop:=Row W 8 a4a v l
theorem CaL.get{W:AW}{v:Value}{l:List CaT}(h:CaL W v l){i:Nat}(hi:i<l.length):∃p,(∀W' k,gL 8 v (.int k (i:Int)) W'=some (p,W'))/\∀W',Le W W'->bH 8 p W'=some (caV l[i],W'):=by obtain⟨b,o,cs,h1,h2,h3,h4⟩:=h.elem hi;refine⟨_,h1,λW' hle=>?_⟩;have h5:(cs.drop o).take 8=caC l[i]:=h4;rw[EQ,hle.cellsAt h2,h3];simp only[Option.bind_some,h5];rfl
theorem VK:((#[54]:Array TypeId)[0]?).bind Tryz.prog.underlying=some (.slice 62):=by kernel_rfl
theorem aDx(b:Nat)(c d:Bool)(W:AW):aD Tryz.prog .eql 28 c d (.pointer (some ⟨b,0,none⟩)) (.pointer none) W=some (.bool false,W):=by unfold aD kJ jC;simp only[u28]
theorem aCa(c d:Bool)(W:AW):aD Tryz.prog .eql 28 c d (.pointer none) (.pointer none) W=some (.bool true,W):=by unfold aD kJ jC;simp only[u28];rfl
theorem ub4:Tryz.prog.underlying 4=some .bool:=by kernel_rfl
def a5M(v:Value):Prop:=∃a n c,v=.slice a n c
theorem a97{V:AW}{c:Nat}{v':Ven}{sv' rv' rv:Value}{l:List SeT}(h1:a5M sv')(h2:a5M rv')(h:SeL (V.put c (.cells (dJ v' sv' rv'))) rv l):SeL V rv l:=by
 obtain⟨a,cc,rfl,hr⟩:=h;rcases hr with hr|⟨B,o,cs,rfl,q1,q2,q3⟩
 ·exact⟨a,cc,rfl,.inl hr⟩
 ·by_cases hl:l=[]
  ·exact⟨_,cc,rfl,.inl hl⟩
  ·have hne:B≠c:=λe=>by
    subst e;have hcs:cs=dJ v' sv' rv':=by unfold cellsAt at q2;rw[AW.get_put]at q2;simp only at q2;injection q2 with q2;exact q2.symm
    obtain⟨-,h3,-⟩:=q3 0 (List.length_pos_iff.2 hl);rw[hcs]at h3;obtain⟨a1,n1,c1,rfl⟩:=h1;obtain⟨a2,n2,c2,rfl⟩:=h2;have ho:o+0*5+1<5:=by apply Classical.byContradiction;intro x;rw[List.getElem?_eq_none (by show 5<=_;omega)]at h3;cases h3
    rcases(by omega:o=0\/o=1\/o=2\/o=3)with rfl|rfl|rfl|rfl<;>simp at h3
   refine⟨_,cc,rfl,.inr ⟨B,o,cs,rfl,q1,?_,q3⟩⟩;unfold cellsAt at q2|-;rw[AW.get_put_ne _ _ (λe=>hne e.symm)]at q2;exact q2
section
variable {K:Nat->Prop} {V Wa:AW} {M k:Nat} {v:Ven} {sv rv:Value} {W0:AW} {N:Int} {l:List SeT}
theorem Both.slv(h:Both K V Wa M k v sv rv W0 N l):a5M sv:=by obtain⟨-,a,c,e,-⟩:=h.secs;exact⟨_,_,_,e⟩
theorem Both.rlv(h:Both K V Wa M k v sv rv W0 N l):a5M rv:=by obtain⟨a,n,c,e⟩:=h.np;exact⟨_,_,_,e⟩
theorem Both.box(h:Both K V Wa M k v sv rv W0 N l){c:Nat}{v':Ven}{sv' rv':Value}(h1:a5M sv')(h2:a5M rv')(hc:V.get c=some (.cells (dJ v' sv' rv')))(hk:¬K c)(hlo:W0.next<=c)(o:AObj):Both K (V.put c o) Wa M k v sv rv W0 N l:=
 {h with
  map:=h.map.keep (Nat.le_refl _) (λb _ hb=>AW.get_put_ne _ _ λe=>hk (by rw[e];exact hb)) (h.map.w0.put hlo o)
  row:=λV' g=>by
   refine a97 h1 h2 (h.row (V'.put c (.cells (dJ v' sv' rv'))) ⟨g.next,λb hb hn=>?_⟩);by_cases e:b=c
   ·subst e;rw[AW.get_put,hc]
   ·rw[AW.get_put_ne _ _ (λx=>e x.symm),g.get b hb hn,AW.get_put_ne _ _ (λx=>e x.symm)]}
theorem aD1{rv:Value}(h:∃a n c,rv=.slice (some a) n c)(h1:SY rv rv=true):vsame rv rv=true:=by obtain⟨a,n,c,rfl⟩:=h;exact h1
theorem round(h:Both K V Wa M k v sv rv W0 N l)(hN:N<100000000000000){x:CaT}(hx:x.s.dl<=9223372036854775807){c:Nat}(hc:V.get c=some (.cells (dJ v sv rv)))(hk:¬K c)(hcl:c<V.next)(hlo:W0.next<=c):
 ∃rv' K' V1 V2 V3 u V4 l',aW Tryz.prog 56 V=some (.pointer (some ⟨V.next,0,none⟩),V1)/\aK (.func (.func 28) #[] #[]) [mV M,eF v sv rv,caV x] V1=some (.tuple #[eF v sv rv',.bool true],V2)/\cO 5 (.pointer (some ⟨V.next,0,none⟩)) (eF v sv rv') V2=some (undef,V3)/\
  aL (.pointer (some ⟨V.next,4,none⟩)) V3=some (rv',V3)/\aK (.func (.func 26) #[] #[]) [mV M] V3=some (u,V4)/\aL (.pointer (some ⟨V.next,4,none⟩)) V4=some (rv',V4)/\vsame rv' rv'=true/\aK (.func (.func 25) #[] #[]) [u,rv'] V4=some (.bool true,V4)/\bH 5 (.pointer (some ⟨V.next,0,none⟩)) V4=some (eF v sv rv',V4)/\
  cO 5 (.pointer (some ⟨c,0,none⟩)) (eF v sv rv') V4=some (undef,V4.put c (.cells (dJ v sv rv')))/\Both K' (V4.put c (.cells (dJ v sv rv'))) Wa M k v sv rv' W0 (N+5000) l'/\¬K' c/\c<(V4.put c (.cells (dJ v sv rv'))).next:=by
 obtain⟨V1,a1,a2,a3,a4⟩:=WJ V;have h1:=h.le a2;obtain⟨rv',K2,V2,l',d1,d2,d3,d4⟩:=aDQ (x:=x) h1 hN hx;have n2:=d3.next;have hw0:=h.map.w0.next;have hk1:∀b,b<V1.next->(b<V.next/\¬K b\/V.next<=b)->¬(K b/\b<V.next\/V1.next<=b):=λb hb hq hn=>by
  rcases hn with hn|hn
  ·rcases hq with hq|hq
   ·exact hq.2 hn.1
   ·omega
  ·omega
 have hk2:∀b,b<V1.next->(b<V.next/\¬K b\/V.next<=b)->¬K2 b:=λb hb hq hn=>hk1 b hb hq (d4 b hb hn)
 have na:¬K2 V.next:=hk2 _ (by omega) (.inr (Nat.le_refl _));have nc:¬K2 c:=hk2 _ (by omega) (.inl ⟨hcl,hk⟩);have g2:V2.get V.next=some (.cells (dJ ⟨0,0,0,[]⟩ (.slice none 0 0) (.slice none 0 0))):=(d3.get _ (by omega) (hk1 _ (by omega) (.inr (Nat.le_refl _)))).trans a4;have c2:V2.get c=some (.cells (dJ v sv rv)):=(d3.get _ (by omega) (hk1 _ (by omega) (.inl ⟨hcl,hk⟩))).trans ((a2.get _ hcl).trans hc);have st:=qZ (v:=v) g2 d2.s1.1 d2.r1.1;have h3:=d2.box (v':=⟨0,0,0,[]⟩) ⟨_,_,_,rfl⟩ ⟨_,_,_,rfl⟩ g2 na (by omega) (.cells (dJ v sv rv'));have g3:(V2.put V.next (.cells (dJ v sv rv'))).get V.next=some (.cells (dJ v sv rv')):=AW.get_put _ _ _;have c3:(V2.put V.next (.cells (dJ v sv rv'))).get c=some (.cells (dJ v sv rv)):=by rw[AW.get_put_ne _ _ (by omega)];exact c2
 have n3:(V2.put V.next (.cells (dJ v sv rv'))).next=V2.next:=rfl;generalize V2.put V.next (.cells (dJ v sv rv'))=V3 at *;obtain⟨u,V4,e1,e2,e3⟩:=a8O h3.map;have n4:=e2.next;have h4:=h3.le e2;have g4:=(e2.get V.next (by omega)).trans g3;have c4:=(e2.get c (by omega)).trans c3;have hrow:SeL V4 rv' l':=h3.row V4 (Le.gr e2 K2);have hs:=a3l e3 hrow (by have:=h3.map.mn;omega);rw[decide_eq_true (rfl:l'=l')]at hs;have st4:=qZ (v:=v) (rv:=rv') c4 d2.s1.1 d2.r1.1;have nk:¬(K2 c/\c<V3.next\/V4.next<=c):=λhn=>by
  rcases hn with hn|hn
  ·exact nc hn.1
  ·omega
 exact⟨rv',_,V1,V2,V3,u,V4,l',a1,d1,st,iJ (bT g3) rfl,e1,iJ (bT g4) rfl,aD1 d2.np d2.r1.2,hs,dN g4,st4,h4.box h.slv h.rlv c4 nk hlo _,nk,by rw[AW.put_next];omega⟩
end
theorem bNe(a b:Bool)(c d:Bool)(W:AW):aD Tryz.prog .neq 4 c d (.bool a) (.bool b) W=some (.bool (!(a==b)),W):=SS ub4
theorem a1Y{W0 V2 V3 Wa:AW}{M k:Nat}{v:Ven}{sv rv:Value}{N:Int}{l:List SeT}(hm:MapS (λb=>W0.next<=b) V2 M k l.length v W0 N l)(hle:Le V2 V3)(hr:RefA V3 v sv rv l)(hb:BlS V2.next V3 rv l)(hlo:Le Wa W0)(hs:SecsC Wa sv v.secs)(h64:TR l)(he:(lW v).2=0)(ht:(l.length:Int)=dA v.secs):
 Both (λb=>W0.next<=b/\b<V2.next\/V3.next<=b) V3 Wa M k v sv rv W0 N l:=
 {map:=hm.shift hle,low:=hlo,secs:=hs,s1:=hr.s1,r1:=hr.r1
  np:=by obtain⟨B,c,-,-,rfl,-⟩:=hb;exact⟨_,_,_,rfl⟩
  row:=λV' g=>(hb.keep g.next λb h1 h2=>g.get b h2 λc=>by rcases c with c|c<;>omega).row
  i64:=h64,ve:=he,tot:=ht}
theorem aA0(n:Nat):TR (lL n):=λx hx=>by unfold lL at hx;rw[List.eq_of_mem_replicate hx];show(0:Int)<=_;omega
theorem shardsPlays_om{W:AW}{v:Ven}{sv cv:Value}{xs:List CaT}(hs:SecsC W sv v.secs)(hx:CaL W cv xs)(hx6:∀x∈xs,x.s.dl<=9223372036854775807):aK (.func (.func 7) #[] #[]) [kR v sv,cv] W=some (.bool true,W):=by
 refine aN rfl ?_ AQ;unfold vI;obtain⟨W1,k1,k2,k3,k4⟩:=IB v sv W;have hs1:=hs.mono k2;obtain⟨c,hf,hsm⟩:=aBP (W:=W1) (rv:=.slice none 0 0) (l:=[]) (hs1.1) Row.nil;cases c with
 |true=>simp only[SX,nP,nQ,k1,vJ k4,hf,yE,aB];exact⟨trivial,k2⟩
 |false=>
 obtain⟨sm1,sm2,sm3⟩:=hsm rfl;by_cases c20:60<(xs.length:Int)
 ·have d20:=decide_eq_true c20;simp only[SX,nP,nQ,k1,vJ k4,hf,hx.len VK,d20,yE,aB];exact⟨trivial,k2⟩
 have d20:=decide_eq_false c20;obtain⟨p1,p2⟩:=aAg hs1 (by omega);by_cases ce:(bX v).2=0;case neg=>
  have m1:=p1 ce;have r1:=(WB hs1 (by omega) (λs hs=>by have:=sm3 s hs;omega)).1 ce;obtain⟨U1,U2,a1,a2,a3,a4,a5⟩:=a3J ⟨0,0,0,[]⟩ (.slice none 0 0) (.slice none 0 0) rfl rfl W1;have t1:decide ((bX v).2=(bX v).2)=true:=decide_eq_true rfl;have t2:decide ((bX v).2=0)=false:=decide_eq_false ce;have t3:(true==true)=true:=rfl;simp only[SX,nP,nQ,k1,vJ k4,hf,hx.len VK,d20,m1,r1,a1,a2,t1,aCa,t2,bNe,t3];refine bD 0 (by omega) (λi R U=>U=U2/\R 1=cv/\R 6=.int .i64 (bX v).2/\R 9=.int .i64 0) (λr=>r.1=.exit 0/\r.2.2=U2/\r.2.1 6=.int .i64 (bX v).2) ⟨rfl,rfl,rfl,rfl⟩ (λi R U hi=>by omega) ?_ ?_
  ·rintro R U ⟨rfl,r2,r8,r11⟩;unfold iR;cases hc:decide ((0:Int)<(xs.length:Int))<;>
    (simp only[SX,nP,nQ,r2,r8,r11,hx.len VK,hc,t2,aB];exact⟨by simp,trivial,trivial,r8⟩)
  ·rintro⟨q,R,U⟩ ⟨rfl,rfl,r6⟩;simp only at r6;have t5:∀(o:Option (Value×AW)) (x:Value),p8 false o x=true:=λ_ _=>rfl
   simp only[SX,nP,nQ,r6,t2,t5,Bool.and_true,yE,aB];exact⟨trivial,k2.trans a3⟩
 obtain⟨n,hn,M,V2,W0,k,m1,m2,m3,m4,m5⟩:=p2 ce;obtain⟨hve,htot,-,-,-⟩:=QT (Y6 ce hn);have g2:=(m3.get _ (by omega)).trans k4;obtain⟨rv',V3,r1,r2,r3,r4⟩:=(WB (W:=V2) (hs1.mono m3) (by omega) (λs hs=>by have:=sm3 s hs;omega)).2 ce n hn;obtain⟨U1,U2,a1,a2,a3,a4,a5⟩:=a3J v sv rv' r3.s1.1 r3.r1.1 V3;have m5':MapS (λb=>W0.next<=b) V2 M k (lL n).length v W0 10001 (lL n):=by rw[nG];exact m5
 have hB:=(a1Y m5' r2 r3 r4 m2 hs1 (aA0 n) hve htot).le a3;have hW0:=m5.w0.next;have t1:decide ((0:Int)=0)=true:=rfl;have t3:(false==false)=true:=rfl;simp only[SX,nP,nQ,k1,vJ k4,hf,hx.len VK,d20,m1,vJ g2,r1,a1,a2,t1,aDx,bNe,t3];refine bD xs.length (by omega) (λi R U=>R 1=cv/\R 2=.pointer (some ⟨W.next,0,none⟩)/\R 5=mV M/\R 6=.int .i64 0/\R 7=.pointer (some ⟨V3.next,0,none⟩)/\R 9=.int .i64 (i:Int)/\∃K N rv l',Both K U W1 M k v sv rv W0 N l'/\N<=10001+(i:Int)*5000/\U.get V3.next=some (.cells (dJ v sv rv))/\¬K V3.next/\V3.next<U.next)
  (λr=>r.1=.exit 0/\r.2.1 2=.pointer (some ⟨W.next,0,none⟩)/\r.2.1 5=mV M/\r.2.1 6=.int .i64 0/\∃K N rv l',Both K r.2.2 W1 M k v sv rv W0 N l') ⟨rfl,rfl,rfl,rfl,rfl,rfl,_,_,_,_,hB,by omega,a5,λhk=>by rcases hk with⟨-,hk⟩|hk<;>omega,by omega⟩ ?_ ?_ ?_
 ·rintro i R U hi ⟨q2,qb,q7,q8,q9,q11,K,N,rv,l',u1,u2,u3,u4,u5⟩;unfold iR;have t4:((i:Int)<(xs.length:Int)):=by omega
  have t2:=λW'=>aU (P:=Tryz.prog) (W:=W') (t:=3) (c:=false) (d:=true) (a:=(i:Int)) (b:=1) (by omega) (by omega)
  have e3:((i+1:Nat):Int)=(i:Int)+1:=by omega
  obtain⟨p,i1,i2⟩:=CaL.get hx hi;have hU:Le W1 U:=u1.low.trans u1.map.w0;obtain⟨rv',K',V1',V2',V3',u,V4',l2,b1,b2,b3,b4,b5,b6,b7,b8,b9,b10,b11,b12,b13⟩:=round u1 (by omega) (hx6 _ (List.getElem_mem hi)) u3 u4 u5 (by have:=r2.next;omega);simp only[SX,nP,nQ,q2,q7,q8,q9,q11,hx.len VK,t4,decide_true,t1,dN u3,i1,i2 U (k2.trans hU),b1,b2,b3,Nat.zero_add,b4,b5,b6,dF,b7,Bool.and_true,b8,b9,b10,t2,aB];refine .inl ⟨trivial,q2,qb,q7,q8,q9,by rw[e3];rfl,K',N+5000,rv',l2,b11,by omega,AW.get_put _ _ _,b12,b13⟩
 ·rintro R U ⟨q2,qb,q7,q8,q9,q11,K,N,rv,l',u1,u2,u3,u4,u5⟩;unfold iR;have t4:¬((xs.length:Int)<(xs.length:Int)):=by omega
  simp only[SX,nP,nQ,q2,q11,hx.len VK,t4,decide_false,aB];exact⟨by simp,trivial,qb,q7,q8,K,N,rv,l',u1⟩
 ·rintro⟨q,R,U⟩ ⟨rfl,qb,q7,q8,K,N,rv,l',u1⟩;simp only at qb q7 q8 u1;have hU:Le W1 U:=u1.low.trans u1.map.w0;have gb:=(hU.get W.next (by omega)).trans k4;have l0:aL (.pointer (some ⟨W.next,0,none⟩)) U=some (.int .i64 (k:Int),U):=by rw[<-m4];exact iJ (bT gb) rfl
  have hsh:=a15 u1.map;have t6:decide ((k:Int)=(k:Int))=true:=decide_eq_true rfl;simp only[SX,nP,nQ,qb,q7,q8,t1,Nat.zero_add,l0,hsh,dF,qK,Bool.and_true,t6,yE,aB];exact⟨trivial,k2.trans hU⟩
end Go.Proofs.YtnigceddndemkaaGreatDoor.Ho
namespace Go.Proofs.YtnigceddndemkaaGreatDoor.Ho
open Go Go.Eng Go.RowKit
set_option maxRecDepth 100000
theorem aBr{W:AW}{n:Nat}{c:List Value}(h:DR Tryz.prog W (n+3) 130 c):∃s:Sec,∀pre post,a3k W (pre++(c++post)) pre.length s:=by
 obtain⟨c1,c2,rfl,h1,h2⟩:=(h.struct Tryz.underlying130).cons;obtain⟨c3,c4,rfl,h3,h4⟩:=h2.cons;obtain⟨c5,c6,rfl,h5,h6⟩:=h4.cons;obtain rfl:=h6.nil;obtain⟨s,rfl,_⟩:=h1.str Tryz.underlying9;obtain⟨rv,zs,rfl,hz,_⟩:=h3.ints Tryz.underlying69 Tryz.underlying3 (by kernel_rfl);obtain⟨q,rfl⟩:=h5.int Tryz.underlying3;refine⟨⟨s.data.toList,zs,q⟩,λpre post=>⟨?_,?_,rv,?_,hz⟩⟩
 ·rw[List.getElem?_append_right (by omega),a0o];simp
 ·rw[List.getElem?_append_right (by omega),Nat.add_sub_cancel_left];rfl
 ·rw[List.getElem?_append_right (by omega),Nat.add_sub_cancel_left];rfl
theorem aCb{W:AW}{n:Nat}{c:List Value}(h:DR Tryz.prog W (n+5) 24 c):∃(v:Ven) (sv:Value),c=[.int .i64 v.sh,.int .i64 v.ttl,.int .i64 v.ses,sv]/\SecsC W sv v.secs:=by obtain⟨c1,c2,rfl,h1,h2⟩:=(h.struct Tryz.underlying24).cons;obtain⟨c3,c4,rfl,h3,h4⟩:=h2.cons;obtain⟨c5,c6,rfl,h5,h6⟩:=h4.cons;obtain⟨c7,c8,rfl,h7,h8⟩:=h6.cons;obtain rfl:=h8.nil;obtain⟨a,rfl⟩:=h1.int Tryz.underlying3;obtain⟨b,rfl⟩:=h3.int Tryz.underlying2;obtain⟨d,rfl⟩:=h5.int Tryz.underlying2;obtain⟨sv,l,rfl,r1,a',c',r2,r3,r4,r5⟩:=h7.row Tryz.underlying22 (at_:=a3k W) (λc _ hc=>aBr hc);exact⟨⟨a,b,d,l⟩,sv,rfl,r1,a',c',r2,.inl ⟨r3,r4⟩,r5⟩
theorem aCY{W:AW}{n:Nat}{c:List Value}(h:DR Tryz.prog W (n+2) 38 c):∃x:SeT,c=dP x/\x.dl<=9223372036854775807:=by obtain⟨c1,r1,rfl,h1,h⟩:=(h.struct Tryz.underlying38).cons;obtain⟨c2,r2,rfl,h2,h⟩:=h.cons;obtain⟨c3,r3,rfl,h3,h⟩:=h.cons;obtain⟨c4,r4,rfl,h4,h⟩:=h.cons;obtain⟨c5,r5,rfl,h5,h⟩:=h.cons;obtain rfl:=h.nil;obtain⟨x1,rfl⟩:=h1.int Tryz.underlying3;obtain⟨x2,rfl⟩:=h2.int Tryz.underlying35;obtain⟨x3,rfl,-,hb⟩:=h3.intB Tryz.underlying2;obtain⟨x4,rfl⟩:=h4.int Tryz.underlying36;obtain⟨x5,rfl⟩:=h5.int Tryz.underlying36;exact⟨⟨x1,x2,x3,x4,x5⟩,rfl,hb⟩
theorem aDk{W:AW}{n:Nat}{c:List Value}(h:DR Tryz.prog W (n+3) 62 c):∃x:CaT,c=caC x/\x.s.dl<=9223372036854775807:=by obtain⟨c1,r1,rfl,h1,h⟩:=(h.struct Tryz.underlying62).cons;obtain⟨c2,r2,rfl,h2,h⟩:=h.cons;obtain⟨c3,r3,rfl,h3,h⟩:=h.cons;obtain⟨c4,r4,rfl,h4,h⟩:=h.cons;obtain rfl:=h.nil;obtain⟨x1,rfl⟩:=h1.int Tryz.underlying5;obtain⟨x2,rfl⟩:=h2.int Tryz.underlying3;obtain⟨x3,rfl⟩:=h3.int Tryz.underlying2;obtain⟨s,rfl,hb⟩:=aCY h4;exact⟨⟨x1,x2,x3,s⟩,by simp,hb⟩
theorem a5I{α:Type}{W:AW}{z:Nat}{f:List Value->Nat->α->Prop}{p:α->Prop}{v:Value}{l:List α}(h:Row W z (λcs q x=>f cs q x/\p x) v l):Row W z f v l/\∀x∈l,p x:=by
 obtain⟨a,c,rfl,hr⟩:=h;rcases hr with rfl|⟨b,o,cs,h1,h2,h3,h4⟩
 ·exact⟨⟨a,c,rfl,.inl rfl⟩,λx hx=>by simp at hx⟩
 ·refine⟨⟨a,c,rfl,.inr ⟨b,o,cs,h1,h2,h3,λi hi=>(h4 i hi).1⟩⟩,λx hx=>?_⟩;obtain⟨i,hi,rfl⟩:=List.mem_iff_getElem.1 hx;exact(h4 i hi).2
theorem aEe:Tryz.prog.cellsOf 62=8:=by kernel_rfl
theorem a9m(x:CaT)(pre post:List Value):a4a (pre++(caC x++post)) pre.length x:=by unfold a4a;rw[List.drop_left];rfl
theorem a8g{W:AW}{n:Nat}{c:List Value}(h:DR Tryz.prog W (n+4) 54 c):∃(v:Value) (l:List CaT),c=[v]/\CaL W v l/\∀x∈l,x.s.dl<=9223372036854775807:=by obtain⟨v,l,rfl,hr,-⟩:=h.row Tryz.underlying54 (at_:=λcs q x=>a4a cs q x/\x.s.dl<=9223372036854775807) (λc _ hc=>by obtain⟨x,rfl,hb⟩:=aDk hc;exact⟨x,λpre post=>⟨a9m x pre post,hb⟩⟩);rw[aEe]at hr;obtain⟨h1,h2⟩:=a5I hr;exact⟨v,l,rfl,h1,h2⟩
section
variable {H:Type} {enc:TypeId×Value->H} {w:World} {σ:dE} {W:AW} {v0:Value} {d:DataW H} {p:List MemPlace} {r:Reach} {b0:Nat}
theorem aBZ{t:TypeId}{fs:Array Field}(ht:Tryz.prog.underlying t=some (.struct fs))(hv:Value.okWide Tryz.prog w r b0 t v0):∃cs,v0=.agg cs:=by unfold Value.okWide at hv;rw[ht]at hv;obtain⟨cs,h,_⟩:=hv;exact⟨cs,h⟩
theorem a6L{t e:TypeId}(ht:Tryz.prog.underlying t=some (.slice e))(hv:Value.okWide Tryz.prog w r b0 t v0):∃a n c,v0=.slice a n c:=by
 unfold Value.okWide at hv;rw[ht]at hv;simp only at hv;unfold Cell.okWide at hv;rw[ht]at hv;cases v0 with
 |slice a l c=>exact⟨a,l,c,rfl⟩
 |_=>simp only[Cell.ok,ht]at hv
theorem aDR:a4C Tryz.prog 6 24=true:=by kernel_rfl
theorem aDL:a4C Tryz.prog 6 54=true:=by kernel_rfl
theorem openVen(ho:Opened σ W w)(hv:Value.okWide Tryz.prog w r b0 24 v0)(h:DataW.Trod enc Tryz.prog w 0 (λ_=>true) true 24 v0 d p):
 ∃(σ2:dE) (W2:AW) (v:Ven) (sv:Value),Opened σ2 W2 w/\Sub σ σ2/\Le W W2/\VR σ2 (kR v sv) v0/\SecsC W2 sv v.secs:=by
 obtain⟨cs,rfl⟩:=aBZ Tryz.underlying24 hv;obtain⟨m,hm⟩:=h;obtain⟨σ2,W2,cs2,o2,s2,l2,r2,a2⟩:=PI aDR hm σ W ho;obtain⟨v,sv,rfl,hs⟩:=aCb a2;exact⟨σ2,W2,v,sv,o2,s2,l2,.agg' (a:=#[.int .i64 v.sh,.int .i64 v.ttl,.int .i64 v.ses,sv]) r2,hs⟩
theorem openCalls(ho:Opened σ W w)(hv:Value.okWide Tryz.prog w r b0 54 v0)(h:DataW.Trod enc Tryz.prog w 0 (λ_=>true) true 54 v0 d p):
 ∃(σ2:dE) (W2:AW) (l:List CaT) (u:Value),Opened σ2 W2 w/\Sub σ σ2/\Le W W2/\VR σ2 u v0/\CaL W2 u l/\∀x∈l,x.s.dl<=9223372036854775807:=by
 obtain⟨a,n,c,rfl⟩:=a6L Tryz.underlying54 hv;obtain⟨m,hm⟩:=h;obtain⟨σ2,W2,cs2,o2,s2,l2,r2,a2⟩:=PI aDL hm σ W ho;obtain⟨u,l,rfl,hr,hb⟩:=a8g a2;exact⟨σ2,W2,l,u,o2,s2,l2,r2.2 0 _ _ rfl rfl,hr,hb⟩
end
theorem liftV{σ σ':dE}(hs:Sub σ σ'){v v':Value}(h:VR σ v v'):VR σ' v v':=h.mono hs
theorem kidsT:Kids Tryz.prog (· <Tryz.prog.types.size):=kids_rows (by kernel_rfl) (by kernel_rfl)
theorem fullT:∀t e,t<Tryz.prog.types.size->Tryz.prog.underlying t=some (.slice e)->0<Tryz.prog.cellsOf e:=slices_full_of Tryz.prog (by kernel_rfl)
noncomputable def globW:List (Nat×List Value):=[(5,[])]
theorem openG{w:World}(hl:V5 globW w.heap):Opened (σG globW) (WG globW 6) w:=⟨aAC rfl hl,a9G,5,_,rfl⟩
theorem open_calls(hok:bI Tryz.prog PlanTab.ng aK){w:World}{σ:dE}{W:AW}(ho:Opened σ W w){i:Nat}{args args':List Value}(hr:LR σ args args')(h:aK (.func (.func i) #[] #[]) args W=some (.bool true,W)):
 Calls Tryz.prog i args'.toArray w λe w'=>e=.returned (.bool true)/\Quiet w w':=
 a8c hok ho.rel (λg hg=>by cases hg) ho.ro hr rfl h
end Go.Proofs.YtnigceddndemkaaGreatDoor.Ho
