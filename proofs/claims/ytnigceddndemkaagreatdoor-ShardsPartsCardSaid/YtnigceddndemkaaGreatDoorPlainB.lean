/- Contracts of functions, and their laws. -/
import Derived.Test.YtnigceddndemkaaGreatDoorPlainA
import Derived.Test.YtnigceddndemkaaGreatDoorOpnA
import Derived.Test.YtnigceddndemkaaGreatDoorSDec
import Derived.KernelRfl
set_option linter.unusedVariables false
set_option linter.unusedSimpArgs false
set_option linter.unusedSectionVars false
namespace Go.Proofs.YtnigceddndemkaaGreatDoor.Ho
open Go Go.Eng Go.Hp
set_option maxRecDepth 100000
section
variable {K:Nat->Prop} {V V':AW} {d:Md} {l:List SeT} {e:Nat->List (Int×Int)}
theorem MapP.le(h:MapP K V d l e)(hl:Le V V'):MapP K V' d l e:=by
 have g:=λb hb=>hl.get b hb
 have hn:=hl.next
 exact{up:=λb hb=>h.up b (by omega),mc:=(g _ h.ml).trans h.mc,ml:=by have:=h.ml;omega,kM:=h.kM,sc:=(g _ h.sl).trans h.sc,sl:=by have:=h.sl;omega,sk:=h.sk,ne:=h.ne,vk:=h.vk,kp:=h.kp,mn:=h.mn,ll:=h.ll
       col:=λi hi=>(h.col i hi).keep hn λh0=>g _ ((h.col i hi).lt h0),tk:=h.tk,tt:=h.tt,ho:=λi hi=>(h.ho i hi).keep hn (λb hb _=>g b hb) (λb _ hx=>hx)
       al:=λi hi b hb=>by have:=h.al i hi b hb;omega
       ak:=h.ak,am:=h.am,at_:=h.at_,aa:=h.aa,es:=h.es,w0:=h.w0.trans hl,wk:=h.wk,secs:=h.secs}
theorem MapP.shift(h:MapP K V d l e)(hl:Le V V'):MapP (λb=>K b/\b<V.next\/V'.next<=b) V' d l e:=by
 have g:=λb hb=>hl.get b hb
 have hn:=hl.next
 exact{up:=λb hb=>.inr hb,mc:=(g _ h.ml).trans h.mc,ml:=by have:=h.ml;omega,kM:=.inl ⟨h.kM,h.ml⟩,sc:=(g _ h.sl).trans h.sc,sl:=by have:=h.sl;omega,sk:=.inl ⟨h.sk,h.sl⟩,ne:=h.ne,vk:=h.vk,kp:=h.kp,mn:=h.mn,ll:=h.ll
       col:=λi hi=>(h.col i hi).keep hn λh0=>g _ ((h.col i hi).lt h0),tk:=λi hi h0=>⟨.inl ⟨(h.tk i hi h0).1,(h.col i hi).lt h0⟩,(h.tk i hi h0).2⟩,tt:=h.tt,ho:=λi hi=>(h.ho i hi).keep hn (λb hb _=>g b hb) (λb _ hx=>hx)
       al:=λi hi b hb=>by have:=h.al i hi b hb;omega
       ak:=λi hi b hb=>.inl ⟨h.ak i hi b hb,h.al i hi b hb⟩,am:=h.am,at_:=h.at_,aa:=h.aa,es:=h.es,w0:=h.w0.trans hl
       wk:=λb hb=>by
        rcases hb with hb|hb
        ·exact h.wk b hb.1
        ·have:=h.w0.next;omega
       secs:=h.secs}
theorem MapP.weak{K':Nat->Prop}(h:MapP K V d l e)(hk:∀b,K b->K' b)(hw:∀b,K' b->d.W0.next<=b):MapP K' V d l e:=
 {h with up:=λb hb=>hk b (h.up b hb),kM:=hk _ h.kM,sk:=hk _ h.sk,tk:=λi hi h0=>⟨hk _ (h.tk i hi h0).1,(h.tk i hi h0).2⟩,ak:=λi hi b hb=>hk b (h.ak i hi b hb),wk:=hw}
theorem MapP.ent{e':Nat->List (Int×Int)}(h:MapP K V d l e)(he:∀i,i<d.k->(e i).Perm (e' i)):MapP K V d l e':={h with es:=λi hi=>(h.es i hi).trans (he i hi)}
def Md.on(d:Md)(i:Nat)(V V':AW)(s':St):Md:={d with A:=λj b=>if j=i then(d.A i b\/V.next<=b)/\b<V'.next else d.A j b,s:=λj=>if j=i then s' else d.s j}
theorem MapP.on(h:MapP K V d l e){i:Nat}(hi:i<d.k):HT V (λb=>d.A i b\/V.next<=b) (d.H i) d.many (d.s i)/\(∀b,(d.A i b\/V.next<=b)->K b)/\
 ∀V' s' ei,Gr V V' (λb=>d.A i b\/V.next<=b)->HT V' (λb=>d.A i b\/V.next<=b) (d.H i) d.many s'->s'.es.Perm ei->MapP K V' (d.on i V V' s') l (λj=>if j=i then ei else e j):=by
 have hik:∀b,(d.A i b\/V.next<=b)->K b:=λb hb=>by
  rcases hb with hb|hb
  ·exact h.ak i hi b hb
  ·exact h.up b hb
 refine⟨(h.ho i hi).keep (Nat.le_refl _) (λ_ _ _=>rfl) (λb _ hb=>.inl hb),hik,λV' s' ei g hs he=>?_⟩;have hn:=g.next;have gM:V'.get d.M=V.get d.M:=g.get _ h.ml λhx=>by
  rcases hx with hx|hx
  ·exact(h.am i hi _ hx).1 rfl
  ·have:=h.ml;omega
 have gS:V'.get d.SB=V.get d.SB:=g.get _ h.sl λhx=>by
  rcases hx with hx|hx
  ·exact(h.am i hi _ hx).2 rfl
  ·have:=h.sl;omega
 have gT:∀j,j<d.k->dO l d.k j≠[]->V'.get (d.T j)=V.get (d.T j):=λj hj h0=>g.get _ ((h.col j hj).lt h0) λhx=>by
  rcases hx with hx|hx
  ·exact h.at_ i j hi hj h0 hx
  ·have:=(h.col j hj).lt h0;omega
 have hA:∀j b,(d.on i V V' s').A j b->(j=i/\(d.A i b\/V.next<=b)/\b<V'.next)\/(j≠i/\d.A j b):=λj b hb=>by
  have hb':(if j=i then(d.A i b\/V.next<=b)/\b<V'.next else d.A j b):=hb;split at hb'
  ·rename_i c;exact .inl ⟨c,hb'⟩
  ·rename_i c;exact .inr ⟨c,hb'⟩
 have hx:∀j,j<d.k->∀b,(d.on i V V' s').A j b->(b<V.next/\d.A j b)\/(j=i/\V.next<=b/\b<V'.next):=λj hj b hb=>by
  rcases hA j b hb with⟨rfl,h1|h1,h2⟩|⟨c,h1⟩
  ·exact .inl ⟨h.al j hj b h1,h1⟩
  ·exact .inr ⟨rfl,h1,h2⟩
  ·exact .inl ⟨h.al j hj b h1,h1⟩
 refine{up:=λb hb=>h.up b (by omega),mc:=gM.trans h.mc,ml:=by have:=h.ml;exact Nat.lt_of_lt_of_le this hn,kM:=h.kM,sc:=gS.trans h.sc,sl:=Nat.lt_of_lt_of_le h.sl hn,sk:=h.sk,ne:=h.ne,vk:=h.vk,kp:=h.kp,mn:=h.mn,ll:=h.ll,col:=λj hj=>(h.col j hj).keep hn (gT j hj),tk:=h.tk,tt:=h.tt,ho:=?_,al:=?_,ak:=?_,am:=?_,at_:=?_,aa:=?_,es:=?_,w0:=?_,wk:=h.wk,secs:=h.secs}
 ·intro j hj;by_cases c:j=i
  ·subst c;show HT V' (λb=>if j=j then _ else _) (d.H j) d.many (if j=j then s' else d.s j);simp only[if_true];exact hs.keep (Nat.le_refl _) (λ_ _ _=>rfl) (λb hb hx=>⟨hx,hb⟩)
  ·show HT V' (λb=>if j=i then _ else d.A j b) (d.H j) d.many (if j=i then s' else d.s j);simp only[if_neg c];exact(h.ho j hj).keep hn (λb hb hx=>g.get b hb λhy=>by
    rcases hy with hy|hy
    ·exact c (h.aa j i hj hi b hx hy)
    ·omega) (λb _ hx=>hx)
 ·intro j hj b hb;rcases hx j hj b hb with⟨h1,-⟩|⟨-,-,h1⟩
  ·omega
  ·exact h1
 ·intro j hj b hb;rcases hx j hj b hb with⟨-,h1⟩|⟨-,h1,-⟩
  ·exact h.ak j hj b h1
  ·exact h.up b h1
 ·intro j hj b hb;rcases hx j hj b hb with⟨-,h1⟩|⟨-,h1,-⟩
  ·exact h.am j hj b h1
  ·exact⟨by have:=h.ml;show b≠d.M;omega,by have:=h.sl;show b≠d.SB;omega⟩
 ·intro j m hj hm h0 hb;rcases hx j hj _ hb with⟨-,h1⟩|⟨-,h1,-⟩
  ·exact h.at_ j m hj hm h0 h1
  ·have:=(h.col m hm).lt h0;exact absurd h1 (by show¬V.next<=d.T m;omega)
 ·intro j m hj hm b hb hb2;rcases hx j hj _ hb with⟨h0,h1⟩|⟨h0,h1,-⟩<;>rcases hx m hm _ hb2 with⟨h2,h3⟩|⟨h2,h3,-⟩
  ·exact h.aa j m hj hm b h1 h3
  ·omega
  ·omega
  ·rw[h0,h2]
 ·intro j hj;show((if j=i then s' else d.s j):St).es.Perm (if j=i then ei else e j);by_cases c:j=i
  ·rw[if_pos c,if_pos c];exact he
  ·rw[if_neg c,if_neg c];exact h.es j hj
 ·refine⟨Nat.le_trans h.w0.next hn,λb hb=>(g.get b (Nat.lt_of_lt_of_le hb h.w0.next) λhy=>?_).trans (h.w0.get b hb)⟩;exact absurd hb (Nat.not_lt.2 (h.wk b (hik b hy)))
theorem MapP.set(h:MapP K V d l e){s:Nat}{x:SeT}(hs:l[s]? =some x)(y:SeT):
 ∃V',mY 5 (.pointer (some ⟨d.T (s % d.k),s/d.k*5,none⟩)) (GX y) V=some (undef,V')/\MapP K V' d (l.set s y) e/\Gr V V' K/\V'.next=V.next/\∀b,b≠d.T (s % d.k)->V'.get b=V.get b:=by
 have hk:0<d.k:=h.kp.1;have hi:=Nat.mod_lt s hk;obtain⟨hlt,-⟩:=List.getElem?_eq_some_iff.1 hs;have hc:=a2E hk hs;have h0:dO l d.k (s % d.k)≠[]:=λc=>by rw[c]at hc;simp at hc
 obtain⟨p1,p2⟩:=(h.col _ hi).put hc y;have hcol:∀i,i<d.k->dO (l.set s y) d.k i=if s % d.k=i then(dO l d.k i).set (s/d.k) y else dO l d.k i:=λi hi=>a1T hi hlt
 have hnil:∀i,i<d.k->(dO (l.set s y) d.k i≠[]<->dO l d.k i≠[]):=λi hi=>by
  rw[hcol i hi];split
  ·rw[ne_eq,List.set_eq_nil_iff]
  ·exact Iff.rfl
 have tK:=h.tk _ hi h0;have hg:∀b,b≠d.T (s % d.k)->(V.put (d.T (s % d.k)) (.cells (((dO l d.k (s % d.k)).set (s/d.k) y).flatMap nI))).get b=V.get b:=λb hb=>AW.get_put_ne _ _ λc=>hb c.symm
 refine⟨_,p1,?_,⟨Nat.le_refl _,λb hb hn=>hg b λc=>hn (by rw[c];exact tK.1)⟩,rfl,hg⟩
 exact{h with
  mc:=(hg _ λc=>tK.2.1 c.symm).trans h.mc,sc:=(hg _ λc=>tK.2.2 c.symm).trans h.sc,ll:=by rw[List.length_set];exact h.ll
  col:=λi hi'=>by
   rw[hcol i hi'];by_cases c:s % d.k=i
   ·subst c;rw[if_pos rfl];exact p2
   ·rw[if_neg c];exact(h.col i hi').keep (Nat.le_refl _) λh1=>hg _ λe=>c (h.tt i (s % d.k) hi' hi h1 h0 e).symm
  tk:=λi hi' h1=>h.tk i hi' ((hnil i hi').1 h1)
  tt:=λi j hi' hj h1 h2=>h.tt i j hi' hj ((hnil i hi').1 h1) ((hnil j hj).1 h2)
  ho:=λi hi'=>(h.ho i hi').keep (Nat.le_refl _) (λb hb hx=>hg b λc=>h.at_ i (s % d.k) hi' hi h0 (by rw[<-c];exact hx)) (λb _ hx=>hx)
  at_:=λi j hi' hj h1=>h.at_ i j hi' hj ((hnil j hj).1 h1)
  w0:=⟨h.w0.next,λb hb=>(hg b λc=>by have:=h.wk _ tK.1;omega).trans (h.w0.get b hb)⟩}
end
abbrev pO(k i:Nat):Nat->Bool:=λj=>j % k==i
abbrev a9j(k i s:Nat):Nat->Bool:=λj=>pO k i j&& !(j==s)
def MapS(K:Nat->Prop)(V:AW)(M k many:Nat)(v:Ven)(W0:AW)(N:Int)(l:List SeT):Prop:=
 ∃d:Md,d.M=M/\d.k=k/\d.many=many/\d.v=v/\d.W0=W0/\(∀i,i<k->(d.s i).nx<=N)/\l.length=many/\(∀x,x∈l->NL x=0)/\MapP K V d l λi=>fK l (pO k i)
section
variable {K:Nat->Prop} {V:AW} {d:Md} {l:List SeT} {e:Nat->List (Int×Int)}
theorem a2c(h:MapP K V d l e){i:Nat}(hi:i<d.k):(d.s i).n=(e i).length:=by have:=(h.es i hi).length_eq;rw[OE]at this;exact this
theorem XL(h:MapP K V d l e){i:Nat}(hi:i<d.k){p:Int×Int}(hp:∀x,x∈e i->x.1≠p.1)(hb:0<=p.1/\p.1<(d.many:Int)/\0<=p.2)(hr:(e i).length<=4096)(hnx:(d.s i).nx<1000000000000000):
 ∃V' s',aL (.func (.func 74) #[] #[]) [hP (d.H i),.int .i64 p.1,.int .i64 p.2] V=some (.int .i64 0,V')/\MapP K V' (d.on i V V' s') l (λj=>if j=i then p::e i else e j)/\Gr V V' K/\s'.q=(d.s i).q/\s'.mh=(d.s i).mh/\s'.hm=(d.s i).hm/\s'.nx=(d.s i).nx+1/\s'.n=(d.s i).n+1:=by
 obtain⟨o1,o2,o3⟩:=h.on hi;have hn:=a2c h hi;have hes:=h.es i hi;generalize hs:d.s i=s at *;obtain⟨q,mh,hm',nx,n,f⟩:=s;simp only at hn hes hnx;have GH:GH (d.many:Int) p.1 p.2=false:=by unfold GH;rw[decide_eq_false (by omega),decide_eq_false (by omega),decide_eq_false (by omega)];rfl
 obtain⟨V',g,k1,k2,k3,k4⟩:=a2D o1 GH (λx hx c=>hp _ (hes.mem_iff.1 (GK.2 ⟨x,hx,rfl⟩)) c) (show n<5000 by omega) hnx (λb hb=>.inr hb);exact⟨V',⟨q,mh,hm',nx+1,n+1,g⟩,k1,o3 V' ⟨q,mh,hm',nx+1,n+1,g⟩ _ k4 k2 (k3.trans (List.Perm.cons _ hes)),k4.mono o2,rfl,rfl,rfl,rfl,rfl⟩
end
section
variable {K:Nat->Prop} {V:AW} {M k many:Nat} {v:Ven} {W0:AW} {N:Int} {l:List SeT}
theorem a8G(d:Md)(i:Nat)(V V':AW)(s':St)(j:Nat):(d.on i V V' s').s j=if j=i then s' else d.s j:=rfl
end
def noE(n:Int)(many:Nat):Int:=if n<0\/(many:Int)<=n then 4 else 0
def pM(i:Int)(k:Nat)(now:Int):Int:=if i<0\/(k:Int)<=i then 4 else if now<0 then 7 else 0
section
variable {K:Nat->Prop} {V:AW} {M k many:Nat} {v:Ven} {W0:AW} {N:Int} {l:List SeT}
theorem MapS.le{V':AW}(h:MapS K V M k many v W0 N l)(hl:Le V V'):MapS K V' M k many v W0 N l:=by obtain⟨d,a,b,c,e,f,g,i,j,p⟩:=h;exact⟨d,a,b,c,e,f,g,i,j,p.le hl⟩
theorem MapS.shift{V':AW}(h:MapS K V M k many v W0 N l)(hl:Le V V'):MapS (λb=>K b/\b<V.next\/V'.next<=b) V' M k many v W0 N l:=by obtain⟨d,a,b,c,e,f,g,i,j,p⟩:=h;exact⟨d,a,b,c,e,f,g,i,j,p.shift hl⟩
theorem MapS.weak{K':Nat->Prop}(h:MapS K V M k many v W0 N l)(hk:∀b,K b->K' b)(hw:∀b,K' b->W0.next<=b):MapS K' V M k many v W0 N l:=by obtain⟨d,a,b,c,e,rfl,g,i,j,p⟩:=h;exact⟨d,a,b,c,e,rfl,g,i,j,p.weak hk hw⟩
theorem MapS.up(h:MapS K V M k many v W0 N l){b:Nat}(hb:V.next<=b):K b:=by obtain⟨d,-,-,-,-,-,-,-,-,p⟩:=h;exact p.up b hb
theorem MapS.wk(h:MapS K V M k many v W0 N l){b:Nat}(hb:K b):W0.next<=b:=by obtain⟨d,-,-,-,-,rfl,-,-,-,p⟩:=h;exact p.wk b hb
theorem MapS.len(h:MapS K V M k many v W0 N l):l.length=many:=by obtain⟨d,a,b,c,e,f,g,i,j,p⟩:=h;exact i
theorem MapS.kp(h:MapS K V M k many v W0 N l):1<=k/\k<=16:=by obtain⟨d,a,rfl,c,e,f,g,i,j,p⟩:=h;exact p.kp
theorem MapS.mn(h:MapS K V M k many v W0 N l):many<=4096:=by obtain⟨d,a,b,rfl,e,f,g,i,j,p⟩:=h;exact p.mn
theorem MapS.vk(h:MapS K V M k many v W0 N l):v.sh=(k:Int):=by obtain⟨d,a,rfl,c,rfl,f,g,i,j,p⟩:=h;exact p.vk
theorem MapS.ok(h:MapS K V M k many v W0 N l){x:SeT}(hx:x∈l):NL x=0:=by obtain⟨d,a,b,c,e,f,g,i,j,p⟩:=h;exact j x hx
theorem a2i(h:MapS K V M k many v W0 N l):aL (.func (.func 84) #[] #[]) [mV M] V=some (.bool true,V):=by obtain⟨d,rfl,-,-,-,-,-,-,-,p⟩:=h;exact a4c p
theorem sM5(h:MapS K V M k many v W0 N l):∃B,aR (.pointer (some ⟨M,5,none⟩)) V=some (.slice (some ⟨B,0,none⟩) k k,V):=by obtain⟨d,rfl,rfl,-,-,-,-,-,-,p⟩:=h;exact⟨_,p.l5⟩
theorem AU(h:MapS K V M k many v W0 N l)(i now:Int):aL (.func (.func 75) #[] #[]) [mV M,.int .i64 i,.int .i64 now] V=some (.int .i64 (pM i k now),V):=by
 refine aT rfl ?_ wB;unfold qP;unfold pM;obtain⟨B,hB⟩:=sM5 h;by_cases c1:i<0
 ·have d1:=decide_eq_true c1;rw[if_pos (.inl c1)];simp only[SX,IQ,IM,a2i h,d1,aA];exact⟨trivial,Le.refl _⟩
 ·have d1:=decide_eq_false c1;by_cases c2:(k:Int)<=i
  ·have d2:=decide_eq_true c2;rw[if_pos (.inr c2)];simp only[SX,IQ,IM,a2i h,d1,d2,aI,Nat.zero_add,hB,KU,aA];exact⟨trivial,Le.refl _⟩
  ·have d2:=decide_eq_false c2;rw[if_neg (by omega)];by_cases c3:now<0
   ·have d3:=decide_eq_true c3;simp only[SX,IQ,IM,a2i h,d1,d2,d3,aI,Nat.zero_add,hB,KU,if_pos c3,aA];exact⟨trivial,Le.refl _⟩
   ·have d3:=decide_eq_false c3;simp only[SX,IQ,IM,a2i h,d1,d2,d3,aI,Nat.zero_add,hB,KU,if_neg c3,aA];exact⟨trivial,Le.refl _⟩
def a9o(l:List SeT)(n:Int):SeT:=if noE n l.length=0 then IP l n.toNat else se0
def a8D(l:List SeT)(n:Int)(y:SeT):Int:=if noE n l.length≠0 then noE n l.length else if NL y≠0 then 6 else 0
def a6Q(l:List SeT)(n:Int)(y:SeT):List SeT:=if a8D l n y=0 then l.set n.toNat y else l
theorem MapS.hold(h:MapS K V M k many v W0 N l){i:Nat}(hi:i<k):∃B H tv T,aR (.pointer (some ⟨M,5,none⟩)) V=some (.slice (some ⟨B,0,none⟩) k k,V)/\(∃In s,HT V In H many s/\s.es.Perm (fK l (pO k i)))/\aR (.pointer (some ⟨B,i*2,none⟩)) V=some (hP H,V)/\aR (.pointer (some ⟨B,i*2+1,none⟩)) V=some (tv,V)/\SlS V T tv (dO l k i):=by obtain⟨d,rfl,rfl,rfl,-,-,-,-,-,p⟩:=h;exact⟨_,_,_,_,p.l5,⟨_,_,p.ho i hi,p.es i hi⟩,p.h0 hi,p.h1 hi,p.col i hi⟩
end
section
variable {α:Type} {z:Nat} {f:α->List Value} {at_:List Value->Nat->α->Prop} {W:AW} {v:Value} {l:List α}
theorem xR(hf:∀a,(f a).length=z):∀(l:List α) (cs:List Value) (o:Nat),(∀i (h:i<l.length),(cs.drop (o+i*z)).take z=f l[i])->(cs.drop o).take (l.length*z)=l.flatMap f
 |[],cs,o,h=>by simp
 |a::l,cs,o,h=>by
  have h0:(cs.drop o).take z=f a:=by have:=h 0 (by simp);rw[Nat.zero_mul,Nat.add_zero]at this;exact this
  have ih:=xR hf l cs (o+z) λi hi=>by
   have h1:=h (i+1) (by simp;omega);have e:o+(i+1)*z=o+z+i*z:=by rw[Nat.add_mul,Nat.one_mul];omega
   rw[e]at h1;exact h1
  rw[List.length_cons,Nat.add_mul,Nat.one_mul,Nat.add_comm,List.take_add,h0,List.drop_drop,ih,List.flatMap_cons]
def OwnL(lo:Nat)(W:AW)(z:Nat)(f:α->List Value)(v:Value)(l:List α):Prop:=
 ∃B c,lo<=B/\B<W.next/\v=.slice (some ⟨B,0,none⟩) l.length c/\(l≠[]->W.get B=some (.cells (l.flatMap f)))
theorem OwnL.row{lo:Nat}(hf:∀a,(f a).length=z)(h:OwnL lo W z f v l)(hat:∀a pre post,at_ (pre++(f a++post)) pre.length a):Row W z at_ v l:=by
 obtain⟨B,c,h0,h1,rfl,h2⟩:=h;by_cases he:l=[]
 ·exact⟨_,c,rfl,.inl he⟩
 ·refine⟨_,c,rfl,.inr ⟨B,0,_,rfl,h1,aZ (h2 he),λi hi=>?_⟩⟩;obtain⟨e1,e2⟩:=dW hf (List.getElem?_eq_getElem hi);rw[e1,Nat.zero_add,<-e2];exact hat _ _ _
theorem OwnL.one{lo:Nat}(h:OwnL lo W z f v l):Eng.one v=true:=by obtain⟨B,c,h0,h1,rfl,h2⟩:=h;rfl
theorem OwnL.mono{lo:Nat}{W':AW}(h:OwnL lo W z f v l)(hl:Le W W'):OwnL lo W' z f v l:=by obtain⟨B,c,h0,h1,rfl,h2⟩:=h;exact⟨B,c,h0,Nat.lt_of_lt_of_le h1 hl.next,rfl,λhe=>(hl.get _ h1).trans (h2 he)⟩
theorem Q8{ts:Array TypeId}{bytes:Nat}(hk:l8 Tryz.prog ts z bytes=true)(hf:∀a,(f a).length=z)(h1:∀a,(f a).all Eng.one=true)(h:Row W z at_ v l)(hat:∀cs p a,at_ cs p a->(cs.drop p).take z=f a)
 (hn:l.length<1099511627776)(hb:(2*l.length+192)*bytes<=281474976710656){b:Nat}(hbl:b<W.next):∃u W',bE Tryz.prog W ts (.slice (some ⟨b,0,none⟩) 0 0) v=some (u,W')/\Le W W'/\OwnL b W' z f u l:=by
 obtain⟨a,c,rfl,h⟩:=h;by_cases he:l=[]
 ·subst he;exact⟨_,W,tX hk (Nat.le_refl 0) (by omega) (by simpa using hb),.refl _,b,0,Nat.le_refl _,hbl,rfl,λx=>absurd rfl x⟩
 ·rcases h with h|⟨B,o,cs,rfl,h2,h3,h4⟩
  ·exact absurd h he
  ·have e:l.flatMap f=(cs.drop o).take (l.length*z):=(xR hf l cs o λi hi=>hat _ _ _ (h4 i hi)).symm;have hall:(l.flatMap f).all Eng.one=true:=by rw[List.all_flatMap,List.all_eq_true];exactλa _=>h1 a
   refine⟨_,_,zH hk h3 e (aN hf l) (List.length_pos_iff.2 he) hall hn hb,(Le.refl _).add _,W.next,_,by omega,by rw[AW.add_next];omega,rfl,λ_=>AW.get_add _ _⟩
end
theorem u25:Tryz.prog.underlying 25=some (.slice 38):=by kernel_rfl
theorem a7S(c d:Bool)(l k:Nat)(W:AW):aD Tryz.prog .eql 25 c d (.slice none l k) (.slice none 0 0) W=some (.bool true,W):=by unfold aD iV gK;simp only[u25];rfl
theorem a7F(c d:Bool)(a:Addr)(l k:Nat)(W:AW):aD Tryz.prog .eql 25 c d (.slice (some a) l k) (.slice none 0 0) W=some (.bool false,W):=by unfold aD iV gK;simp only[u25]
theorem SH{W:AW}{v:Value}{l:List SeT}(h:SeL W v l)(hn:l.length<=10000):∃u W',aL (.func (.func 76) #[] #[]) [v] W=some (u,W')/\Le W W'/\SeL W' u l:=by
 have hh:=h;obtain⟨a,c,rfl,h⟩:=h;cases a with
 |none=>
  have main:Ok (bC aL (.slice none l.length c) W) λr=>Le W r.2/\SeL r.2 r.1 l:=by
   unfold bC;simp only[SX,a7S,aA];rcases h with h|⟨b,o,cs,h1,-⟩
   ·exact⟨Le.refl _,none,0,by rw[h];rfl,.inl h⟩
   ·cases h1
  exact a1o main eG
 |some a=>
  have main:Ok (bC aL (.slice (some a) l.length c) W) λr=>Le W r.2/\SeL r.2 r.1 l:=by unfold bC;have l1:Le W (W.add (.cells [])):=(Le.refl _).add _;have n1:(W.add (.cells [])).next=W.next+1:=AW.add_next _ _;simp only[SX,a7F,a5Y];generalize W.add (.cells [])=W1 at *;obtain⟨u,W',k1,k2,k3⟩:=Q8 a4b gN MZ (hh.mono l1) (λ_ _ _=>a3q) (by omega) (by omega) (b:=W.next) (by omega);simp only[SX,k1,aA];exact⟨l1.trans k2,k3.row gN LF⟩
  exact a1o main eG
section
variable {K:Nat->Prop} {V:AW} {M k many:Nat} {v:Ven} {W0:AW} {N:Int} {l:List SeT}
theorem SlS.own{W:AW}{B:Nat}{v:Value}{xs:List SeT}(h:SlS W B v xs):SeL W v xs:=h.row
def shL(l:List SeT)(k:Nat)(i:Int):List SeT:=if pM i k 0=0 then dO l k i.toNat else []
theorem a1f{i now:Int}{k:Nat}(h:pM i k now=0):∃s:Nat,i=(s:Int)/\s<k/\0<=now:=by
 unfold pM at h;split at h
 ·omega
 ·split at h
  ·omega
  ·rename_i c c2;exact⟨i.toNat,by omega,by omega,by omega⟩
theorem XC(h:MapS K V M k many v W0 N l)(i:Int):∃u V',aL (.func (.func 18) #[] #[]) [mV M,.int .i64 i] V=some (.tuple #[u,.int .i64 (pM i k 0)],V')/\Le V V'/\SeL V' u (shL l k i):=by
 have hse:=AU h i 0;refine a2g ?_ wC;unfold qR;by_cases c:pM i k 0=0
 ·have d1:=decide_eq_true c;obtain⟨s,rfl,hs,-⟩:=a1f c;obtain⟨B,H,tv,T,b1,-,-,b3,b4⟩:=h.hold hs;have hl:(dO l k s).length<=10000:=by rw[eP];have h1:=h.len;have h2:=h.mn;have h3:=h.kp.1;unfold CF;have:=Nat.div_le_self (l.length+k-1-s) k;have:=h.kp.2;omega
  obtain⟨u,V',k1,k2,k3⟩:=SH b4.row hl;have d0:decide ((0:Int)=0)=true:=rfl;simp only[SX,hse,c,d0,aI,Nat.zero_add,Nat.add_zero,b1,a1a hs,b3,k1,aA];refine⟨u,rfl,k2,?_⟩;unfold shL;rw[if_pos c];exact k3
 ·have d1:=decide_eq_false c;simp only[SX,hse,d1,aA];refine⟨_,rfl,Le.refl _,?_⟩;unfold shL;rw[if_neg c];exact Row.nil
def a5k(l:List (Int×Int))(x:Int×Int):Prop:=x∈l/\∀y,y∈l->lQ y x=false
theorem HS.first{W:AW}{In:Nat->Prop}{H q mh hm:Nat}{se nx:Int}{n:Nat}{f:Nat->En}(h:HS W In H q mh hm se nx n f)(hn:0<n):a5k (xC n f) (a1I n f):=by
 have hh:=h.qs.hp;refine⟨GK.2 ⟨0,hn,by unfold a1I;rw[if_neg (by omega)]⟩,λy hy=>?_⟩;obtain⟨i,hi,rfl⟩:=GK.1 hy;unfold a1I;rw[if_neg (by omega)];cases hc:lQ (f i).v (f 0).v
 ·rfl
 ·exfalso;have hb:sZ lQ (f i) (f 0)=true:=by unfold sZ;rw[hc];rfl
  have:=hh.first GQ i hi;rw[hb]at this;cases this
def nxE(l:List SeT)(k:Nat)(i:Int):Int:=if pM i k 0≠0 then pM i k 0 else if fK l (pO k i.toNat)=[]then 4 else 0
def a9t(l:List SeT)(i:Nat):List SeT:=l.take i++List.replicate (l.length-i) se0
end
theorem VH(x y:SeT):x=y<->x.st=y.st/\x.ow=y.ow/\x.dl=y.dl/\x.se=y.se/\x.ep=y.ep:=by obtain⟨a,b,c,d,e⟩:=x;obtain⟨a',b',c',d',e'⟩:=y;simp
instance:DecidableEq SeT:=λx y=>decidable_of_iff _ (VH x y).symm
theorem g38:Tryz.prog.eqGuardType Tryz.prog.depth 38=false:=by kernel_rfl
theorem q38(x y:SeT):OX Tryz.prog 8 38 (GX x) (GX y)=OZ [(x.st,y.st),(x.ow,y.ow),(x.dl,y.dl),(x.se,y.se),(x.ep,y.ep)]:=by kernel_rfl
theorem a4J(x y:SeT):([(x.st,y.st),(x.ow,y.ow),(x.dl,y.dl),(x.se,y.se),(x.ep,y.ep)].all λp=>p.1==p.2)=decide (x=y):=by rw[Bool.eq_iff_iff,decide_eq_true_eq,VH];simp
theorem a5Z(x y:SeT)(c d:Bool)(W:AW):aD Tryz.prog .neq 38 c d (GX x) (GX y) W=some (.bool (!decide (x=y)),W):=by have:=NE (W:=W) (c:=c) (d:=d) g38 ((q38 x y).trans (EP _));rw[this,a4J]
theorem a1n(a:Int×Int):lQ a a=false:=by unfold lQ;simp
theorem a18{a b c:Int×Int}(h1:lQ a b=true)(h2:lQ b c=true):lQ a c=true:=by unfold lQ at *;simp only[Bool.or_eq_true,Bool.and_eq_true,decide_eq_true_eq]at *;omega
theorem a1N{a b c:Int×Int}(h1:¬lQ a b=true)(h2:¬lQ b c=true):¬lQ a c=true:=by unfold lQ at *;simp only[Bool.or_eq_true,Bool.and_eq_true,decide_eq_true_eq]at *;omega
def Asc(l:List (Int×Int)):Prop:=l.Pairwise λa b=>lQ b a=false
theorem a2Z:rW Tryz.prog 144:=⟨_,_,Tryz.func144,by kernel_rfl,rfl⟩
theorem PQ{V:AW}{l:List (Int×Int)}{B c:Nat}{rest:List Value}(h0:l≠[])(hl:l.length<=10000)(hB:V.get B=some (.cells (l.flatMap oK++rest))):∃l':List (Int×Int),l'.Perm l/\Asc l'/\aL (.func (.func 78) #[] #[]) [.slice (some ⟨B,0,none⟩) l.length c,.func (.func 144) #[] #[]] V=some (.tuple #[],V.put B (.cells (l'.flatMap oK++rest))):=by
 have hpos:0<l.length:=List.length_pos_iff.2 h0;have ol:=λa b=>(KO a b V).2.1
 have hO:OrdN l.length (λi j=>OW (l.getD i (0,0)) (l.getD j (0,0))):=⟨λi _ h=>absurd ((ol _ _).1 h) (by rw[a1n];decide),λi j k _ _ _ h1 h2=>(ol _ _).2 (a18 ((ol _ _).1 h1) ((ol _ _).1 h2)),λi j k _ _ _ h1 h2 h3=>a1N (λx=>h1 ((ol _ _).2 x)) (λx=>h2 ((ol _ _).2 x)) ((ol _ _).1 h3)⟩;obtain⟨l',e1,e2,e3⟩:=EY l oK (λa b=>lQ a b) hO hpos λi j hi hj=>by rw[ol];simp[List.getD_eq_getElem?_getD,hi,hj]
 refine⟨l',e1,e2,vP ?_⟩;refine .inr ⟨B,c,l.map oK,rest,144,#[],λi j=>OW (l.getD i (0,0)) (l.getD j (0,0)),⟨?_,?_,?_,?_,?_,?_,?_,?_,?_,a2Z,?_,?_,?_⟩⟩
 ·intro h;have:=congrArg List.length h;rw[List.length_map]at this;simp at this;exact h0 this
 ·rw[List.length_map];omega
 ·intro r hr;obtain⟨e,-,rfl⟩:=List.mem_map.1 hr;rfl
 ·intro r hr v hv;obtain⟨e,-,rfl⟩:=List.mem_map.1 hr;simp only[oK,List.mem_cons,List.not_mem_nil,or_false]at hv;rcases hv with rfl|rfl<;>rfl
 ·rw[List.length_map]
 ·rw[VX];exact hB
 ·intro r hr v hv;obtain⟨e,-,rfl⟩:=List.mem_map.1 hr;simp only[oK,List.mem_cons,List.not_mem_nil,or_false]at hv;exact vD (by rcases hv with rfl|rfl<;>rfl)
 ·intro v hv;simp at hv
 ·intro g hg;cases hg
 ·intro i j hi hj;rw[List.length_map]at hi hj;rw[List.getElem_map,List.getElem_map];have e4:∀x:Int×Int,elV true (oK x)=lG x:=λx=>rfl
  rw[e4,e4];refine(PW (KO _ _ _).1).trans ?_;simp[List.getD_eq_getElem?_getD,hi,hj]
 ·rw[List.length_map];exact hO
 ·rw[e3,VX]
theorem LC(x:Int×Int)(pre post:List Value):a3X (pre++(oK x++post)) pre.length x:=by
 have:∀i,(pre++(oK x++post))[pre.length+i]? =(oK x++post)[i]? :=λi=>by rw[List.getElem?_append_right (by omega),Nat.add_sub_cancel_left]
 exact⟨by have:=this 0;exact this,this 1⟩
theorem UC{W:AW}{B c:Nat}{l:List (Int×Int)}{rest:List Value}(hB:W.get B=some (.cells (l.flatMap oK++rest)))(hl:B<W.next):HoL W (.slice (some ⟨B,0,none⟩) l.length c) l:=by refine⟨_,c,rfl,.inr ⟨B,0,_,rfl,hl,aZ hB,λi hi=>?_⟩⟩;obtain⟨e1,e2⟩:=dW kX (List.getElem?_eq_getElem hi);rw[e1,Nat.zero_add,<-e2,List.append_assoc,List.append_assoc];exact LC _ _ _
def mD{α:Type}(p:α->Bool)(l:List α):Int:=match l.findIdx? p with|some i=>(i:Int)|none=> -1
theorem HV{α:Type}{p:α->Bool}{l:List α}(h:∀x∈l,p x=false):mD p l= -1:=by unfold mD;rw[List.findIdx?_eq_none_iff.2 h]
theorem OA{α:Type}{p:α->Bool}{l:List α}{i:Nat}(hi:i<l.length)(hp:p l[i]=true)(h:∀j (hj:j<i),p (l[j]'(by omega))=false):mD p l=(i:Int):=by unfold mD;rw[List.findIdx?_eq_some_iff_getElem.2 ⟨hi,hp,λj hj=>by rw[h j hj];decide⟩]
theorem KY{α:Type}(p:α->Bool)(l:List α):((∀x∈l,p x=false)/\mD p l= -1)\/∃i,∃hi:i<l.length,mD p l=(i:Int)/\p l[i]=true/\∀j (hj:j<i),p (l[j]'(by omega))=false:=by
 cases h:l.findIdx? p with
 |none=>exact .inl ⟨List.findIdx?_eq_none_iff.1 h,by unfold mD;rw[h]⟩
 |some i=>obtain⟨h1,h2,h3⟩:=List.findIdx?_eq_some_iff_getElem.1 h;exact .inr ⟨i,h1,by unfold mD;rw[h],h2,λj hj=>by have:=h3 j hj;simpa using this⟩
theorem O8{W:AW}{v fv:Value}{l:List (Int×Int)}{p:Int×Int->Bool}(h:HoL W v l)(hp:∀x,x∈l->aL fv [lG x] W=some (.bool (p x),W))(hl:l.length<=10000):aL (.func (.func 196) #[] #[]) [v,fv] W=some (.int .i64 (mD p l),W):=by
 refine aT rfl ?_ gW;unfold dK;simp only[SX,h.len p9];refine bR l.length (by omega) (λi R V=>V=W/\R 0=v/\R 1=fv/\R 7=.int .i64 (l.length:Int)/\R 8=.int .i64 (i:Int)/\∀j (hj:j<i) (hj2:j<l.length),p l[j]=false)
  (λr=>r.2.2=W/\((r.1=.exit 0/\mD p l= -1)\/(r.1=.ret/\r.2.1 4=.int .i64 (mD p l)))) ⟨rfl,rfl,rfl,rfl,rfl,λj hj=>by omega⟩ ?_ ?_ ?_
 ·rintro i R V hi ⟨rfl,r0,r1,r7,r8,ha⟩;unfold bK;have t1:((i:Int)<(l.length:Int)):=by omega
  have t2:=λW'=>bA (P:=Tryz.prog) (W:=W') (t:=3) (c:=false) (d:=true) (a:=(i:Int)) (b:=1) (by omega) (by omega)
  have e3:((i+1:Nat):Int)=(i:Int)+1:=by omega
  obtain⟨b,o,i1,i2,i3⟩:=HoL.get h hi;cases hc:p l[i]with
  |true=>simp only[SX,r0,r1,r7,r8,t1,decide_true,i1,(i3 _ rfl).1,hp _ (List.getElem_mem hi),hc,aA];exact .inr ⟨by simp,trivial,.inr ⟨trivial,by rw[OA hi hc λj hj=>ha j hj (by omega)];rfl⟩⟩
  |false=>
   simp only[SX,r0,r1,r7,r8,t1,decide_true,i1,(i3 _ rfl).1,hp _ (List.getElem_mem hi),hc,t2,aA];refine .inl ⟨trivial,trivial,r0,r1,r7,by rw[e3];rfl,λj hj hj2=>?_⟩;by_cases c:j=i
   ·subst c;exact hc
   ·exact ha j (by omega) hj2
 ·rintro R V ⟨rfl,r0,r1,r7,r8,ha⟩;unfold bK;have t1:¬((l.length:Int)<(l.length:Int)):=by omega
  simp only[SX,r7,r8,t1,decide_false,aA];refine⟨by simp,trivial,.inl ⟨trivial,HV λx hx=>?_⟩⟩;obtain⟨j,hj,rfl⟩:=List.mem_iff_getElem.1 hx;exact ha j hj hj
 ·rintro⟨q,R,V⟩ ⟨rfl,hq⟩;simp only at hq;rcases hq with⟨rfl,e⟩|⟨rfl,r4⟩
  ·simp only[SX,aA];exact⟨by rw[e],Le.refl _⟩
  ·simp only[SX,r4,aA];exact⟨trivial,Le.refl _⟩
theorem VJ{W:AW}{X:Nat}{now:Int}(hX:W.get X=some (.cells [.int .i64 now]))(hXl:X<W.next)(x:Int×Int):aL (.func (.func 141) #[] #[.pointer (some ⟨X,0,none⟩)]) [lG x] W=some (.bool (decide (now<x.2)),W):=by
 refine aT rfl ?_ tN;unfold oP;have oB:eH (lG x) W=some (.pointer (some ⟨W.next,0,none⟩),W.add (.cells [.int .i64 x.1,.int .i64 x.2])):=fH _;have g1:(W.add (.cells [.int .i64 x.1,.int .i64 x.2])).get W.next=some (.cells [.int .i64 x.1,.int .i64 x.2]):=AW.get_add _ _;have gX:(W.add (.cells [.int .i64 x.1,.int .i64 x.2])).get X=some (.cells [.int .i64 now]):=by rw[AW.get_add_ne _ _ (by omega)];exact hX
 simp only[SX,oB,Nat.zero_add,lJ (o:=1) (dB g1) rfl,lJ (o:=0) (dB gX) rfl,aA];exact⟨trivial,(Le.refl _).add _⟩
theorem a3W:nO Tryz.prog 32=some 2:=by kernel_rfl
theorem EX{b l h:Nat}{k:IntKind}(h1:h<=l)(W:AW):bL Tryz.prog 32 (.slice (some ⟨b,0,none⟩) l (bQ+2)) (some (.int k (h:Int))) none none W=some (.slice (some ⟨b,h*2,none⟩) (l-h) (bQ+2),W):=by
 obtain⟨e,he,hz⟩:=fJ a3W;have h2:((⟨b,0,none⟩:Addr).add (h*2))=⟨b,h*2,none⟩:=by rw[bP];simp
 unfold bL fU;simp only[he,hz,bX,gI,h1,if_true,true_and,if_pos (show 0<2 by omega),Nat.le_refl,h2]
theorem VD(n:Nat):(Builtin.zeroCells (lG (0,0)).cells n).toList.length=n*2:=by unfold Builtin.zeroCells;simp[K4]
theorem WE(n:Nat):(Builtin.zeroCells (lG (0,0)).cells n).toList.all bS=true:=by
 unfold Builtin.zeroCells;simp only[Array.toList_map,List.all_map,List.all_eq_true];intro i hi;show bS ((lG (0,0)).cells[i % (lG (0,0)).cells.size]!)=true;have:i % (lG (0,0)).cells.size=0\/i % (lG (0,0)).cells.size=1:=by have:(lG (0,0)).cells.size=2:=rfl;rw[this];omega
 rcases this with e|e<;>rw[e]<;>rfl
theorem e32:iW Tryz.prog 32=some 42:=by kernel_rfl
theorem t42:lC Tryz.prog 42=some 2:=by kernel_rfl
theorem z42:kK Tryz.prog 42=some (lG (0,0)):=by kernel_rfl
theorem a0X{W:AW}{B o n c:Nat}{cs:List Value}(hB:W.get B=some (.cells cs))(hl:cs.length=o+n*2):∃rest,aF Tryz.prog .clear #[32] 0 #[false] [.slice (some ⟨B,o,none⟩) n c] W=some (.tuple #[],W.put B (.cells (cs.take o++rest)))\/(n=0/\aF Tryz.prog .clear #[32] 0 #[false] [.slice (some ⟨B,o,none⟩) n c] W=some (.tuple #[],W)):=by
 by_cases h0:n=0
 ·subst h0;exact⟨[],.inr ⟨rfl,by unfold aF xI;simp only[e32,t42,z42,if_true];rfl⟩⟩
 ·refine⟨(Builtin.zeroCells (lG (0,0)).cells n).toList,.inl ?_⟩;have e:xI Tryz.prog W #[32] (.slice (some ⟨B,o,none⟩) n c)=some (W.put B (.cells (cs.take o++(Builtin.zeroCells (lG (0,0)).cells n).toList))):=by
   unfold xI;simp only[e32,t42,z42,if_neg h0,if_pos (And.intro (WE n) (show 0<2 by omega))];rw[GZ,hB];simp only;have hall:(Builtin.zeroCells (lG (0,0)).cells n).toList.all Eng.one=true:=by
    have:=WE n;rw[List.all_eq_true]at this|-;intro x hx;have:=this x hx;unfold Builtin.zeroCells at hx;simp only[Array.toList_map,List.mem_map]at hx;obtain⟨i,-,rfl⟩:=hx;have h2:i % (lG (0,0)).cells.size=0\/i % (lG (0,0)).cells.size=1:=by have:(lG (0,0)).cells.size=2:=rfl;rw[this];omega
    rcases h2 with e|e<;>rw[e]<;>rfl
   rw[if_pos ⟨by rw[VD];omega,hall⟩];unfold iB;rw[List.drop_of_length_le (by rw[VD];omega),List.append_nil]
  unfold aF;simp only[e,Option.map_some]
def dN(now:Int)(x:Int×Int):Bool:=decide (x.2<=now)
theorem Y8{α:Type}{z:Nat}{f:α->List Value}(hf:∀a,(f a).length=z)(ys:List α){m:Nat}(hm:m<=ys.length):(ys.flatMap f).take (m*z)=(ys.take m).flatMap f:=by
 have e:ys.flatMap f=(ys.take m).flatMap f++(ys.drop m).flatMap f:=by rw[<-List.flatMap_append,List.take_append_drop]
 have e2:((ys.take m).flatMap f).length=m*z:=by rw[aN hf,List.length_take,Nat.min_eq_left hm]
 rw[e,<-e2,List.take_left]
theorem a8n(W:AW)(x:Int×Int):∃W1 W2,dP Tryz.prog 42 W=some (.pointer (some ⟨W.next,0,none⟩),W1)/\mY 2 (.pointer (some ⟨W.next,0,none⟩)) (lG x) W1=some (undef,W2)/\Le W W2/\W2.next=W.next+1/\W2.get W.next=some (.cells [.int .i64 x.1,.int .i64 x.2]):=
 ⟨_,_,a6x W,a6a x (AW.get_add _ _),((Le.refl _).add _).put (Nat.le_refl _) _,rfl,AW.get_put _ _ _⟩
theorem a4K{V:AW}{B X:Nat}{now:Int}{l:List (Int×Int)}(hB:V.get B=some (.cells (l.flatMap oK)))(hBl:B<V.next)(hX:V.get X=some (.cells [.int .i64 now]))(hXl:X<V.next)(hXB:X≠B)(hl:l.length<=5000):
 ∃V' rest,aL (.func (.func 139) #[] #[]) [.slice (some ⟨B,0,none⟩) l.length (bQ+2),.func (.func 141) #[] #[.pointer (some ⟨X,0,none⟩)]] V=some (.slice (some ⟨B,0,none⟩) (l.filter (dN now)).length (bQ+2),V')/\
  V.next<=V'.next/\(∀b,b<V.next->b≠B->V'.get b=V.get b)/\V'.get B=some (.cells ((l.filter (dN now)).flatMap oK++rest)):=by
 have hH:HoL V (.slice (some ⟨B,0,none⟩) l.length (bQ+2)) l:=UC (rest:=[]) (by rw[List.append_nil];exact hB) hBl;have hidx:=O8 hH (λx _=>VJ hX hXl x) (by omega);have main:Ok (aS aL (.slice (some ⟨B,0,none⟩) l.length (bQ+2)) (.func (.func 141) #[] #[.pointer (some ⟨X,0,none⟩)]) V) λr=>r.1=.slice (some ⟨B,0,none⟩) (l.filter (dN now)).length (bQ+2)/\∃rest,V.next<=r.2.next/\(∀b,b<V.next->b≠B->r.2.get b=V.get b)/\r.2.get B=some (.cells ((l.filter (dN now)).flatMap oK++rest)):=by
  unfold aS;rcases KY (λx:Int×Int=>decide (now<x.2)) l with⟨h1,h2⟩|⟨i,hi,h2,h3,h4⟩
  ·have d:decide ((-1:Int)= -1)=true:=rfl;have hf:l.filter (dN now)=l:=List.filter_eq_self.2 λx hx=>by have:=of_decide_eq_false (h1 x hx);unfold dN;exact decide_eq_true (by omega)
   simp only[SX,hidx,h2,d,aA];exact⟨by rw[hf],[],Nat.le_refl _,λ_ _ _=>trivial,by rw[hf,List.append_nil];exact hB⟩
  ·have d:decide ((i:Int)= -1)=false:=decide_eq_false (by omega);have t0:=λW'=>bA (P:=Tryz.prog) (W:=W') (t:=3) (c:=false) (d:=true) (a:=(i:Int)) (b:=1) (by omega) (by omega)
   have k0:∀x∈l.take i,dN now x=true:=λx hx=>by obtain⟨j,hj,rfl⟩:=List.mem_iff_getElem.1 hx;rw[List.length_take]at hj;rw[List.getElem_take];have:=of_decide_eq_false (h4 j (by omega));unfold dN;exact decide_eq_true (by omega)
   have e0:(l.take (i+1)).filter (dN now)=l.take i:=by rw[List.take_add_one,List.getElem?_eq_getElem hi,List.filter_append,List.filter_eq_self.2 k0];have:=of_decide_eq_true h3;have h5:dN now l[i]=false:=decide_eq_false (by omega);simp[h5]
   simp only[SX,hidx,h2,d,t0]
   refine bR (l.length-(i+1)) (by omega) (λq R U=>V.next<=U.next/\(∀b,b<V.next->b≠B->U.get b=V.get b)/\R 0=.slice (some ⟨B,0,none⟩) l.length (bQ+2)/\R 1=.func (.func 141) #[] #[.pointer (some ⟨X,0,none⟩)]/\R 6=.int .i64 ((i+1+q:Nat):Int)/\
    ∃(ys:List (Int×Int)) (m:Nat),U.get B=some (.cells (ys.flatMap oK))/\ys.length=l.length/\R 5=.int .i64 (m:Int)/\m<=i+1+q/\m=((l.take (i+1+q)).filter (dN now)).length/\ys.take m=(l.take (i+1+q)).filter (dN now)/\ys.drop (i+1+q)=l.drop (i+1+q))
    (λr=>r.1=.exit 0/\V.next<=r.2.2.next/\(∀b,b<V.next->b≠B->r.2.2.get b=V.get b)/\r.2.1 0=.slice (some ⟨B,0,none⟩) l.length (bQ+2)/\∃(ys:List (Int×Int)) (m:Nat),r.2.2.get B=some (.cells (ys.flatMap oK))/\ys.length=l.length/\r.2.1 5=.int .i64 (m:Int)/\m<=l.length/\m=(l.filter (dN now)).length/\ys.take m=l.filter (dN now))
    ⟨Nat.le_refl _,λ_ _ _=>rfl,rfl,rfl,by rw[Nat.add_zero];show _=Value.int .i64 ((i:Int)+1);rfl,l,i,hB,rfl,rfl,by omega,by rw[Nat.add_zero,e0,List.length_take];omega,by rw[Nat.add_zero,e0],rfl⟩ ?_ ?_ ?_
   ·rintro q R U hq ⟨u1,u2,r0,r1,r6,ys,m,u3,u4,r5,u5,u6,u7,u8⟩;unfold bI;generalize hj:i+1+q=j at *;have hjl:j<l.length:=by omega
    have t1:((j:Int)<(l.length:Int)):=by omega
    have t2:=λW'=>bA (P:=Tryz.prog) (W:=W') (t:=3) (c:=false) (d:=true) (a:=(j:Int)) (b:=1) (by omega) (by omega)
    have e3:((i+1+(q+1):Nat):Int)=(j:Int)+1:=by omega
    have e3':i+1+(q+1)=j+1:=by omega
    have yj:ys[j]? =some l[j]:=by have h5:=congrArg (λt=>t[0]?) u8;simp only[List.getElem?_drop,Nat.add_zero]at h5;rw[h5,List.getElem?_eq_getElem hjl]
    have hBU:B<U.next:=by omega
    have HU:HoL U (.slice (some ⟨B,0,none⟩) l.length (bQ+2)) ys:=by rw[<-u4];exact UC (rest:=[]) (by rw[List.append_nil];exact u3) hBU
    obtain⟨yi,ye⟩:=List.getElem?_eq_some_iff.1 yj;obtain⟨b,o,i1,i2,i3⟩:=HoL.get HU yi;have i4:=(i3 U rfl).1;rw[ye]at i4;obtain⟨U1,U2,k1,k2,k3,k4,k5⟩:=a8n U l[j];have ld:=a3Q (v:=l[j]) k5;have hX2:U2.get X=some (.cells [.int .i64 now]):=by rw[k3.get _ (by omega),u2 _ hXl hXB];exact hX
    have hd:=VJ hX2 (by omega) l[j];have hB2:U2.get B=some (.cells (ys.flatMap oK)):=by rw[k3.get _ hBU];exact u3
    have g2:∀b,b<V.next->b≠B->U2.get b=V.get b:=λb hb hne=>by rw[k3.get _ (by omega)];exact u2 b hb hne
    by_cases c:now<l[j].2
    ·have d1:=decide_eq_true c;rw[d1]at hd;have hk:dN now l[j]=false:=decide_eq_false (by omega);have e4:(l.take (j+1)).filter (dN now)=(l.take j).filter (dN now):=by rw[List.take_add_one,List.getElem?_eq_getElem hjl,List.filter_append];simp[hk]
     simp only[SX,r0,r1,r6,iA p9,t1,decide_true,i1,i4,k1,k2,ld,hd,t2,aA];refine .inl ⟨trivial,by omega,g2,r0,r1,by rw[e3];rfl,ys,m,hB2,u4,r5,by omega,by rw[e3',e4];exact u6,by rw[e3',e4];exact u7,?_⟩;rw[e3',<-List.drop_drop,<-List.drop_drop,u8]
    ·have d1:=decide_eq_false c;rw[d1]at hd;have hk:dN now l[j]=true:=decide_eq_true (by omega);have e4:(l.take (j+1)).filter (dN now)=(l.take j).filter (dN now)++[l[j]]:=by rw[List.take_add_one,List.getElem?_eq_getElem hjl,List.filter_append];simp[hk]
     have hml:m<ys.length:=by omega
     have ix:=λW' q=>nM (W:=W') (z:=2) (b:=B) (o:=0) (l:=l.length) (c:=bQ+2) (i:=m) (k:=q) (by omega)
     have hst:=H5 (n:=2) (b:=B) (o:=m*2) (v:=lG l[j]) hB2 rfl (by show m*2+2<=_;rw[aN kX];omega) rfl;have e5:iB (ys.flatMap oK) (m*2) (lG l[j]).cells.toList=(ys.set m l[j]).flatMap oK:=I6 kX (List.getElem?_eq_getElem hml) l[j];rw[e5]at hst;have t3:=λW'=>bA (P:=Tryz.prog) (W:=W') (t:=3) (c:=false) (d:=true) (a:=(m:Int)) (b:=1) (by omega) (by omega)
     simp only[SX,r0,r1,r5,r6,iA p9,t1,decide_true,i1,i4,k1,k2,ld,hd,ix,Nat.zero_add,hst,t2,t3,aA];refine .inl ⟨trivial,by rw[AW.put_next];omega,λb hb hne=>by rw[AW.get_put_ne _ _ (λx=>hne x.symm)];exact g2 b hb hne,r0,r1,by rw[e3];rfl,ys.set m l[j],m+1,AW.get_put _ _ _,by rw[List.length_set];exact u4,by rw[show((m+1:Nat):Int)=(m:Int)+1 by omega];rfl,by omega,?_,?_,?_⟩
     ·rw[e3',e4,List.length_append,<-u6];rfl
     ·rw[e3',e4,List.take_add_one,List.take_set_of_le (Nat.le_refl _),u7,List.getElem?_set_self hml];rfl
     ·rw[e3',List.drop_set_of_lt (by omega),<-List.drop_drop,<-List.drop_drop,u8]
   ·rintro R U ⟨u1,u2,r0,r1,r6,ys,m,u3,u4,r5,u5,u6,u7,u8⟩;unfold bI;have ej:i+1+(l.length-(i+1))=l.length:=by omega
    rw[ej]at r6 u5 u6 u7 u8;rw[List.take_length]at u6 u7;have t1:¬((l.length:Int)<(l.length:Int)):=by omega
    simp only[SX,r0,r6,iA p9,t1,decide_false,aA];exact⟨by simp,trivial,u1,u2,r0,ys,m,u3,u4,r5,u5,u6,u7⟩
   ·rintro⟨q,R,U⟩ ⟨rfl,u1,u2,r0,ys,m,u3,u4,r5,u5,u6,u7⟩;simp only at u1 u2 r0 u3 r5;have hs1:=λW'=>EX (b:=B) (l:=l.length) (k:=.i64) u5 W'
    have hs2:=λW'=>xE (P:=Tryz.prog) (W:=W') a3W (by omega) (b:=B) (o:=0) (l:=l.length) (h:=m) (k:=.i64) u5
    obtain⟨rest,hc⟩:=a0X (o:=m*2) (n:=l.length-m) (c:=bQ+2) u3 (by rw[aN kX,u4];omega);have e5:(ys.flatMap oK).take (m*2)=(l.filter (dN now)).flatMap oK:=by rw[Y8 kX ys (by omega),u7]
    rw[<-u6];rcases hc with hc|⟨h0,hc⟩
    ·simp only[SX,r0,r5,hs1,hs2,hc,aA];exact⟨trivial,rest,by rw[AW.put_next];exact u1,λb hb hne=>by rw[AW.get_put_ne _ _ (λx=>hne x.symm)];exact u2 b hb hne,by rw[AW.get_put,e5]⟩
    ·simp only[SX,r0,r5,hs1,hs2,hc,aA];refine⟨trivial,[],u1,u2,?_⟩;have em:m=ys.length:=by omega
     rw[em,List.take_length]at u7;rw[List.append_nil,<-u7];exact u3
 obtain⟨⟨r,V'⟩,h1,h2,rest,h3,h4,h5⟩:=main;simp only at h2 h3 h4 h5;subst h2;exact⟨V',rest,by rw[cK h1,fD rfl],h3,h4,h5⟩
theorem uB(W:AW):aL (.func (.func 79) #[] #[]) [] W=some (.func (.func 144) #[] #[],W):=by
 have:sM aL W=some (.func (.func 144) #[] #[],W):=by unfold sM;simp only[SX]
 rw[DJ this,NB]
theorem a3c(fv:Value)(W:AW):aL (.func (.func 139) #[] #[]) [.slice none 0 0,fv] W=some (.slice none 0 0,W):=by
 have h0:HoL W (.slice none 0 0) []:=Row.nil;have hidx:=O8 (p:=λ_=>false) (fv:=fv) h0 (λx hx=>by simp at hx) (by simp);rw[HV (by simp)]at hidx;have d:decide ((-1:Int)= -1)=true:=rfl;have:aS aL (.slice none 0 0) fv W=some (.slice none 0 0,W):=by unfold aS;simp only[SX,hidx,d]
 rw[cK this,NB]
theorem FF(p:Option Addr)(c:Nat)(fv:Value)(W:AW):aL (.func (.func 78) #[] #[]) [.slice p 0 c,fv] W=some (.tuple #[],W):=vP (.inl ⟨p,c,fv,rfl,rfl⟩)
def NewL(lo:Nat)(W:AW)(u:Value)(l:List (Int×Int)):Prop:=∃a c,u=.slice a l.length c/\(l=[]\/∃B rest,a=some ⟨B,0,none⟩/\lo<=B/\B<W.next/\W.get B=some (.cells (l.flatMap oK++rest)))
section
variable {lo:Nat} {W W':AW} {u:Value} {l:List (Int×Int)}
theorem NewL.row(h:NewL lo W u l):HoL W u l:=by
 obtain⟨a,c,rfl,h⟩:=h;rcases h with rfl|⟨B,rest,rfl,h1,h2,h3⟩
 ·exact⟨a,c,rfl,.inl rfl⟩
 ·exact UC h3 h2
theorem NewL.nil(p:Option Addr)(c:Nat):NewL lo W (.slice p 0 c) []:=⟨p,c,rfl,.inl rfl⟩
theorem NewL.gr{K:Nat->Prop}(h:NewL lo W u l)(g:Gr W W' K)(hk:∀b,lo<=b->b<W.next->¬K b):NewL lo W' u l:=by
 obtain⟨a,c,rfl,h⟩:=h;rcases h with h|⟨B,rest,h0,h1,h2,h3⟩
 ·exact⟨a,c,rfl,.inl h⟩
 ·exact⟨a,c,rfl,.inr ⟨B,rest,h0,h1,Nat.lt_of_lt_of_le h2 g.next,(g.get _ h2 (hk _ h1 h2)).trans h3⟩⟩
theorem NewL.gc1(hl:Le W W')(h:NewL lo W' u l):∃W2,gc W (u,W')=(u,W2)/\Le W W2/\NewL lo W2 u l:=by
 cases hp:(aU u&& !isU u)
 ·exact⟨W',fD hp,hl,h⟩
 ·refine⟨W,oL hp hl,.refl _,?_⟩;obtain⟨a,c,rfl,h⟩:=h;rcases h with h|⟨B,rest,rfl,-⟩
  ·exact⟨a,c,rfl,.inl h⟩
  ·exact absurd hp (by simp[aU,iT,bS])
theorem NewL.gc2{k:IntKind}{e:Int}(hl:Le W W')(h:NewL lo W' u l):∃W2,gc W (.tuple #[u,.int k e],W')=(.tuple #[u,.int k e],W2)/\Le W W2/\NewL lo W2 u l:=by
 cases hp:(aU (.tuple #[u,.int k e])&& !isU (.tuple #[u,.int k e]))
 ·exact⟨W',fD hp,hl,h⟩
 ·refine⟨W,oL hp hl,.refl _,?_⟩;obtain⟨a,c,rfl,h⟩:=h;rcases h with h|⟨B,rest,rfl,-⟩
  ·exact⟨a,c,rfl,.inl h⟩
  ·exact absurd hp (by simp[aU,iT,bS])
theorem a5p{o t:Option (Value×AW)}(h:Ok t λr=>Le W r.2/\NewL lo r.2 r.1 l)(hom:∀{r},t=some r->o=some (gc W r)):∃v W2,o=some (v,W2)/\Le W W2/\NewL lo W2 v l:=by obtain⟨⟨v,W'⟩,h1,h2,h3⟩:=h;obtain⟨W2,k1,k2,k3⟩:=NewL.gc1 h2 h3;exact⟨v,W2,by rw[hom h1,k1],k2,k3⟩
theorem LG{o t:Option (Value×AW)}{k:IntKind}{e:Int}(h:Ok t λr=>∃v,r.1=.tuple #[v,.int k e]/\Le W r.2/\NewL lo r.2 v l)(hom:∀{r},t=some r->o=some (gc W r)):∃v W2,o=some (.tuple #[v,.int k e],W2)/\Le W W2/\NewL lo W2 v l:=by obtain⟨⟨u,W'⟩,h1,v,h2,h3,h4⟩:=h;simp only at h2 h3 h4;subst h2;obtain⟨W2,k1,k2,k3⟩:=NewL.gc2 h3 h4;exact⟨v,W2,by rw[hom h1,k1],k2,k3⟩
end
def wJ(h:List (Int×Int))(now:Int)(l:List (Int×Int)):Prop:=Asc l/\l.Perm (h.filter (dN now))
section
variable {K:Nat->Prop} {V:AW} {M k many:Nat} {v:Ven} {W0:AW} {N:Int} {l:List SeT}
theorem a4v{H B o:Nat}{In:Nat->Prop}{q:St}{es:List (Int×Int)}(hH:HT V In H many q)(hq:q.es.Perm es)(hn:es.length<=4096)(hB:B<V.next)(hl:aR (.pointer (some ⟨B,o,none⟩)) V=some (hP H,V))(hl2:∀W,Le V W->aR (.pointer (some ⟨B,o,none⟩)) W=some (hP H,W))(now:Int):
 ∃u V',∃l',aL (.func (.func 77) #[] #[]) [.pointer (some ⟨B,o,none⟩),.int .i64 now] V=some (u,V')/\Le V V'/\NewL V.next V' u l'/\wJ es now l':=by
 have hqn:q.n=es.length:=by have:=hq.length_eq;rwa [OE]at this
 have main:∃l',Ok (lT aL (.pointer (some ⟨B,o,none⟩)) (.int .i64 now) V) (λr=>Le V r.2/\NewL V.next r.2 r.1 l')/\wJ es now l':=by
  unfold lT;have l1:Le V (V.add (.cells [.int .i64 now])):=(Le.refl _).add _;have n1:(V.add (.cells [.int .i64 now])).next=V.next+1:=AW.add_next _ _;have g1:(V.add (.cells [.int .i64 now])).get V.next=some (.cells [.int .i64 now]):=AW.get_add _ _;simp only[SX,Nat.zero_add,Nat.add_zero,aI];generalize V.add (.cells [.int .i64 now])=V1 at *;have ld:=hl2 V1 l1;have h1:HT V1 In H many q:=hH.keep l1.next (λb hb _=>l1.get b hb) (λb _ hx=>hx);obtain⟨V2,u,l0,k1,k2,k3,k4,-⟩:=a1F h1 (by omega);have l2:=l1.trans k2;have p0:l0.Perm es:=k4.trans hq;rcases k3 with⟨rfl,rfl⟩|⟨hne,C,c1,c2,rfl,c3⟩
  ·refine⟨[],?_,List.Pairwise.nil,?_⟩
   ·simp only[SX,ld,k1,a3c,uB,FF,aA];exact⟨l2,NewL.nil _ _⟩
   ·rw[<-List.Perm.nil_eq p0];exact .refl _
  ·have hX:V2.get V.next=some (.cells [.int .i64 now]):=by rw[k2.get _ (by omega)];exact g1
   obtain⟨V3,rest,d1,d2,d3,d4⟩:=a4K (now:=now) c3 c2 hX (by have:=k2.next;omega) (by omega) (by have:=p0.length_eq;omega);have l3:Le V V3:=⟨by have:=l2.next;omega,λb hb=>by rw[d3 b (by have:=l2.next;omega) (by omega)];exact l2.get b hb⟩;by_cases hf:l0.filter (dN now)=[]
   ·refine⟨[],?_,List.Pairwise.nil,?_⟩
    ·rw[hf]at d1;simp only[SX,ld,k1,d1,uB,List.length_nil,FF,aA];exact⟨l3,NewL.nil _ _⟩
    ·rw[<-hf];exact p0.filter _
   ·obtain⟨l',e1,e2,e3⟩:=PQ (c:=bQ+2) hf (by have:=List.length_filter_le (dN now) l0;have:=p0.length_eq;omega) d4;refine⟨l',?_,e2,e1.trans (p0.filter _)⟩;simp only[SX,ld,k1,d1,uB,e3,aA];refine⟨l3.put (by omega) _,?_⟩;rw[<-e1.length_eq];exact⟨_,_,rfl,.inr ⟨C,rest,rfl,by omega,by rw[AW.put_next];omega,AW.get_put _ _ _⟩⟩
 obtain⟨l',m1,m2⟩:=main;obtain⟨u,V',r1,r2,r3⟩:=a5p m1 vZ;exact⟨u,V',l',r1,r2,r3,m2⟩
theorem MapS.due(h:MapS K V M k many v W0 N l){i:Nat}(hi:i<k)(now:Int):∃B,(∀U,Le V U->aR (.pointer (some ⟨M,5,none⟩)) U=some (.slice (some ⟨B,0,none⟩) k k,U))/\∃u V',∃l',aL (.func (.func 77) #[] #[]) [.pointer (some ⟨B,i*2,none⟩),.int .i64 now] V=some (u,V')/\Le V V'/\NewL V.next V' u l'/\wJ (fK l (pO k i)) now l':=by obtain⟨d,rfl,rfl,rfl,-,-,-,hlen,-,p⟩:=h;have:=p.mn;exact⟨d.SB,λU hU=>(p.le hU).l5,a4v (p.ho i hi) (p.es i hi) (Nat.le_trans (qJ _ _) (by omega)) p.sl (p.h0 hi) (λW hW=>(p.le hW).h0 hi) now⟩
theorem a2d(h:MapS K V M k many v W0 N l)(i now:Int):∃u V',∃l',aL (.func (.func 19) #[] #[]) [mV M,.int .i64 i,.int .i64 now] V=some (.tuple #[u,.int .i64 (pM i k now)],V')/\Le V V'/\NewL V.next V' u l'/\(pM i k now≠0->l'=[])/\(pM i k now=0->wJ (fK l (pO k i.toNat)) now l'):=by
 have hse:=AU h i now;have main:∃l',Ok (pG aL (mV M) (.int .i64 i) (.int .i64 now) V) (λr=>∃u,r.1=.tuple #[u,.int .i64 (pM i k now)]/\Le V r.2/\NewL V.next r.2 u l')/\(pM i k now≠0->l'=[])/\(pM i k now=0->wJ (fK l (pO k i.toNat)) now l'):=by
  unfold pG;by_cases c:pM i k now=0
  ·obtain⟨s,rfl,hs,-⟩:=a1f c;obtain⟨B,b1,u,V',l',r1,r2,r3,r4⟩:=h.due hs now;refine⟨l',?_,λx=>absurd c x,λ_=>r4⟩;have d0:decide ((0:Int)=0)=true:=rfl;simp only[SX,hse,c,d0,aI,Nat.zero_add,Nat.add_zero,b1 V (Le.refl _),a1a hs,r1,aA];exact⟨u,rfl,r2,r3⟩
  ·have d1:=decide_eq_false c;refine⟨[],?_,λ_=>rfl,λx=>absurd x c⟩;simp only[SX,hse,d1,aA];exact⟨_,rfl,Le.refl _,NewL.nil _ _⟩
 obtain⟨l',m1,m2,m3⟩:=main;obtain⟨u,V',r1,r2,r3⟩:=LG m1 yO;exact⟨u,V',l',r1,r2,r3,m2,m3⟩
end
section
variable {α:Type} {z:Nat} {f:α->List Value} {at_:List Value->Nat->α->Prop} {W:AW} {v u:Value} {l m:List α}
theorem Lst.cat{ts:Array TypeId}{bytes lo:Nat}(hk:l8 Tryz.prog ts z bytes=true)(hf:∀a,(f a).length=z)(h1:∀a,(f a).all Eng.one=true)(h:Lst lo W z f v l)(hr:Row W z at_ u m)(hat:∀cs p a,at_ cs p a->(cs.drop p).take z=f a)
 (hb:l.length+m.length<1099511627776)(hb2:(2*(l.length+m.length)+192)*bytes<=281474976710656)(hlo:lo<=W.next):
 ∃v' W',bE Tryz.prog W ts v u=some (v',W')/\Lst lo W' z f v' (l++m)/\W.next<=W'.next/\∀A,Le A W->A.next<=lo->Le A W':=by
 obtain⟨a,c,rfl,hr⟩:=hr;by_cases hm:m=[]
 ·subst hm;rw[List.append_nil];have hb3:(2*l.length+192)*bytes<=281474976710656:=by simpa using hb2
  rcases h with⟨rfl,rfl⟩|⟨h0,B,i1,i2,rfl,i4⟩
  ·exact⟨_,W,tX hk (Nat.le_refl 0) (by omega) (by simpa using hb3),Lst.nil _ _ _ _,Nat.le_refl _,λA hA _=>hA⟩
  ·exact⟨_,W,tX hk (by have:l.length<bQ:=by unfold bQ;simp at hb;omega
                       omega) (by simp at hb;omega) hb3,.inr ⟨h0,B,i1,i2,rfl,i4⟩,Nat.le_refl _,λA hA _=>hA⟩
 ·rcases hr with hr|⟨C,o,cs,rfl,h2,h3,h4⟩
  ·exact absurd hr hm
  ·have e:m.flatMap f=(cs.drop o).take (m.length*z):=(xR hf m cs o λi hi=>hat _ _ _ (h4 i hi)).symm;have hall:(m.flatMap f).all Eng.one=true:=by rw[List.all_flatMap,List.all_eq_true];exactλa _=>h1 a
   have hmp:=List.length_pos_iff.2 hm;rcases h with⟨rfl,rfl⟩|⟨h0,B,i1,i2,rfl,i4⟩
   ·refine⟨_,_,xS (b:=C) (o:=o) (n:=m.length) (c:=c) hk h3 e (aN hf m) hmp hall (by simpa using hb) (by simpa using hb2),.inr ⟨by simpa using hm,W.next,hlo,by rw[AW.add_next];omega,by simp,by rw[AW.get_add];simp⟩,by rw[AW.add_next];omega,λA hA _=>hA.add _⟩
   ·have hpos:0<l.length:=List.length_pos_iff.2 h0;refine⟨_,_,MK (b:=C) (o:=o) (n:=m.length) (c:=c) hk h3 e (aN hf m) hmp hall i4 (aN hf l) (by omega) (by omega) hpos,.inr ⟨by simp[hm],W.next,hlo,by rw[AW.add_next,AW.kill_next];omega,by simp[AW.kill_next],?_⟩,by rw[AW.add_next,AW.kill_next];omega,λA hA hl=>(hA.kill (by omega)).add _⟩;have:=(W.kill B).get_add (.cells (l.flatMap f++m.flatMap f));rw[AW.kill_next]at this;rw[this,List.flatMap_append]
end
theorem hoT{cs:List Value}{p:Nat}{x:Int×Int}(h:a3X cs p x):(cs.drop p).take 2=oK x:=by obtain⟨h0,h1⟩:=h;obtain⟨i0,e0⟩:=List.getElem?_eq_some_iff.1 h0;obtain⟨i1,e1⟩:=List.getElem?_eq_some_iff.1 h1;rw[List.drop_eq_getElem_cons i0,List.drop_eq_getElem_cons i1,e0,e1];rfl
theorem zM(l:List SeT){k:Nat}(hk:0<k):((List.range k).flatMap λi=>fK l (pO k i)).Perm (fK l λ_=>true):=by
 refine(List.perm_ext_iff_of_nodup ?_ (F8 _ _)).2 λx=>?_
 ·unfold List.Nodup;rw[List.pairwise_flatMap];refine⟨λi _=>F8 _ _,List.nodup_range.imp λ{a b} hab x hx y hy e=>?_⟩;subst e;obtain⟨j,j1,j2,j3,rfl⟩:=nG.1 hx;obtain⟨j',j1',j2',j3',e⟩:=nG.1 hy;have:(j:Int)=(j':Int):=congrArg (·.1) e;have:j=j':=by omega
  subst this;simp at j2 j2';omega
 ·rw[List.mem_flatMap];constructor
  ·rintro⟨i,-,hx⟩;obtain⟨j,j1,j2,j3,rfl⟩:=nG.1 hx;exact nG.2 ⟨j,j1,rfl,j3,rfl⟩
  ·intro hx;obtain⟨j,j1,j2,j3,rfl⟩:=nG.1 hx;exact⟨j % k,List.mem_range.2 (Nat.mod_lt _ hk),nG.2 ⟨j,j1,by simp,j3,rfl⟩⟩
section
variable {K:Nat->Prop} {V:AW} {M k many:Nat} {v:Ven} {W0:AW} {N:Int} {l:List SeT}
theorem XO(h:MapS K V M k many v W0 N l)(now:Int):∃u V',∃l',aL (.func (.func 20) #[] #[]) [mV M,.int .i64 now] V=some (.tuple #[u,.int .i64 (if now<0 then 7 else 0)],V')/\Le V V'/\NewL V.next V' u l'/\(now<0->l'=[])/\(0<=now->wJ (fK l λ_=>true) now l'):=by
 have hse:=AU h 0 now;have hkp:=h.kp;have hmn:=h.mn;have hlen:=h.len;have es0:pM 0 k now=if now<0 then 7 else 0:=by unfold pM;rw[if_neg (by omega)]
 rw[es0]at hse;by_cases c:now<0
 ·rw[if_pos c]at hse|-;have d1:decide ((7:Int)=0)=false:=rfl;have main:Ok (eO aL (mV M) (.int .i64 now) V) (λr=>∃u,r.1=.tuple #[u,.int .i64 7]/\Le V r.2/\NewL V.next r.2 u []):=by unfold eO;simp only[SX,hse,d1,aA];exact⟨_,rfl,Le.refl _,NewL.nil _ _⟩
  obtain⟨u,V',r1,r2,r3⟩:=LG main nW;exact⟨u,V',[],r1,r2,r3,λ_=>rfl,λx=>by omega⟩
 ·rw[if_neg c]at hse|-;have d0:decide ((0:Int)=0)=true:=rfl;obtain⟨B,hB⟩:=sM5 h;have hlen':∀m i,i<=k->(m:List (Int×Int)).Perm (((List.range i).flatMap λi=>fK l (pO k i)).filter (dN now))->m.length<=4096:=λm i hi hp=>by
   have h1:=hp.length_eq;have h2:=List.length_filter_le (dN now) ((List.range i).flatMap λi=>fK l (pO k i));have h3:((List.range i).flatMap λi=>fK l (pO k i)).length<=((List.range k).flatMap λi=>fK l (pO k i)).length:=by
    have e:List.range k=List.range i++(List.range (k-i)).map (i+ ·):=by rw[<-List.range_add];congr 1;omega
    rw[e,List.flatMap_append,List.length_append];omega
   have h4:=(zM l hkp.1).length_eq;have h5:=qJ l λ_=>true
   omega
  have main:∃l',Ok (eO aL (mV M) (.int .i64 now) V) (λr=>∃u,r.1=.tuple #[u,.int .i64 0]/\Le V r.2/\NewL V.next r.2 u l')/\wJ (fK l λ_=>true) now l':=by
   have key:Ok (eO aL (mV M) (.int .i64 now) V) (λr=>∃l',(∃u,r.1=.tuple #[u,.int .i64 0]/\Le V r.2/\NewL V.next r.2 u l')/\wJ (fK l λ_=>true) now l'):=by
    unfold eO;simp only[SX,hse,d0,aI,Nat.zero_add,hB,KU];refine bR k (by omega) (λi R U=>Le V U/\R 0=mV M/\R 1=.int .i64 now/\R 19=.int .i64 (k:Int)/\R 20=.int .i64 (i:Int)/\∃m,Lst V.next U 2 oK (R 7) m/\m.Perm (((List.range i).flatMap λi=>fK l (pO k i)).filter (dN now)))
     (λr=>r.1=.exit 0/\Le V r.2.2/\∃m,Lst V.next r.2.2 2 oK (r.2.1 7) m/\m.Perm (((List.range k).flatMap λi=>fK l (pO k i)).filter (dN now))) ⟨Le.refl _,rfl,rfl,rfl,rfl,[],Lst.nil _ _ _ _,.refl _⟩ ?_ ?_ ?_
    ·rintro i R U hi ⟨u1,r0,r1,r19,r20,m,u2,u3⟩;unfold j6;have t1:((i:Int)<(k:Int)):=by omega
     have t2:=λW'=>bA (P:=Tryz.prog) (W:=W') (t:=3) (c:=false) (d:=true) (a:=(i:Int)) (b:=1) (by omega) (by omega)
     have e3:((i+1:Nat):Int)=(i:Int)+1:=by omega
     obtain⟨B',b1,x,U1,l',x1,x2,x3,x4⟩:=(h.le u1).due hi now;have hm4:=hlen' m i (by omega) u3;have hd4:l'.length<=4096:=by have h1:=x4.2.length_eq;have h2:=List.length_filter_le (dN now) (fK l (pO k i));have h3:=qJ l (pO k i);omega
     obtain⟨v',U2,y1,y2,y3,y4⟩:=Lst.cat a3T kX LY (u2.mono x2) x3.row (λ_ _ _=>hoT) (by omega) (by omega) (by have:=u1.next;have:=x2.next;omega);simp only[SX,r0,r1,r19,r20,t1,decide_true,aI,Nat.zero_add,Nat.add_zero,b1 U (Le.refl _),a1a hi,x1,y1,t2,aA];refine .inl ⟨trivial,y4 V (u1.trans x2) (Nat.le_refl _),r0,r1,r19,by rw[e3];rfl,m++l',y2,?_⟩;rw[List.range_succ,List.flatMap_append,List.filter_append];simp only[List.flatMap_cons,List.flatMap_nil,List.append_nil];exact u3.append x4.2
    ·rintro R U ⟨u1,r0,r1,r19,r20,m,u2,u3⟩;unfold j6;have t1:¬((k:Int)<(k:Int)):=by omega
     simp only[SX,r19,r20,t1,decide_false,aA];exact⟨by simp,trivial,u1,m,u2,u3⟩
    ·rintro⟨q,R,U⟩ ⟨rfl,u1,m,u2,u3⟩;simp only at u1 u2;have hm4:=hlen' m k (Nat.le_refl _) u3;have u4:m.Perm ((fK l λ_=>true).filter (dN now)):=u3.trans ((zM l hkp.1).filter _);rcases u2 with⟨rfl,r7⟩|⟨h0,C,c1,c2,r7,c4⟩
     ·simp only[SX,r7,uB,FF,aA];exact⟨[],⟨_,rfl,u1,NewL.nil _ _⟩,List.Pairwise.nil,u4⟩
     ·obtain⟨l',e1,e2,e3⟩:=PQ (c:=bQ+2) (rest:=[]) h0 (by omega) (by rw[List.append_nil];exact c4);simp only[SX,r7,uB,e3,aA];refine⟨l',⟨_,rfl,u1.put c1 _,?_⟩,e2,e1.trans u4⟩;rw[<-e1.length_eq];exact⟨_,_,rfl,.inr ⟨C,[],rfl,c1,c2,AW.get_put _ _ _⟩⟩
   obtain⟨r,k1,l',k2,k3⟩:=key;exact⟨l',⟨r,k1,k2⟩,k3⟩
  obtain⟨l',m1,m2⟩:=main;obtain⟨u,V',r1,r2,r3⟩:=LG m1 nW;exact⟨u,V',l',r1,r2,r3,λx=>by omega,λ_=>m2⟩
end
def a7K(now:Int)(l:List SeT)(h:Int×Int):List SeT:=l.set h.1.toNat (a8q (IP l h.1.toNat) now)
def a8t(l:List SeT)(now:Int)(d:List (Int×Int)):List SeT:=d.foldl (a7K now) l
theorem a7O(W:AW)(x:SeT):∃W1 W2,dP Tryz.prog 38 W=some (.pointer (some ⟨W.next,0,none⟩),W1)/\mY 5 (.pointer (some ⟨W.next,0,none⟩)) (GX x) W1=some (undef,W2)/\Le W W2/\W2.next=W.next+1/\W2.get W.next=some (.cells (nI x)):=
 ⟨_,_,a8p W,a7G (AW.get_add _ _),((Le.refl _).add _).put (Nat.le_refl _) _,rfl,AW.get_put _ _ _⟩
section
variable {K:Nat->Prop} {V:AW} {M k many:Nat} {v:Ven} {W0:AW} {N:Int} {l:List SeT}
end
theorem a7W:l8 Tryz.prog #[69,69] 1 8=true:=by kernel_rfl
def a7I(l:List SeT)(F C:Nat):List Int:=((List.range C).filter λj=>decide ((IP l (F+j)).st=0)).map λj=>((F+j:Nat):Int)
def a7L(l:List SeT)(F C:Nat)(t:Int):Nat:=((List.range C).filter λj=>decide ((IP l (F+j)).st=t)).length
section
variable {K:Nat->Prop} {V:AW} {M k many:Nat} {v:Ven} {W0:AW} {N:Int} {l:List SeT}
def a9N(v:Ven)(l:List SeT)(sec:Int):List Int:=if(ofE v sec).2.2=0 then a7I l (ofE v sec).1.toNat (ofE v sec).2.1.toNat else []
def a9l(v:Ven)(l:List SeT)(sec t:Int):Int:=if(ofE v sec).2.2=0 then(a7L l (ofE v sec).1.toNat (ofE v sec).2.1.toNat t:Int)else 0
end
abbrev a8d(v:Ven)(sv rv:Value):Value:=.agg #[.int .i64 v.sh,.int .i64 v.ttl,.int .i64 v.ses,sv,rv]
abbrev a9O(v:Ven)(sv rv:Value):List Value:=[.int .i64 v.sh,.int .i64 v.ttl,.int .i64 v.ses,sv,rv]
def Sl(v:Value):Prop:=Eng.one v=true/\Z0 v v=true
structure RefA (W:AW) (v:Ven) (sv rv:Value) (l:List SeT):Prop where
 s1:Sl sv
 r1:Sl rv
 row:SeL W rv l
 secs:Secs W sv v.secs
 sh:1<=v.sh/\v.sh<=16
 lb:l.length<=4096
theorem RefA.mono{W W':AW}{v:Ven}{sv rv:Value}{l:List SeT}(h:RefA W v sv rv l)(hl:Le W W'):RefA W' v sv rv l:={h with row:=h.row.mono hl,secs:=h.secs.mono hl}
theorem RefA.with{W W':AW}{v:Ven}{sv rv rv':Value}{l l':List SeT}(h:RefA W v sv rv l)(hl:Le W W')(h1:Sl rv')(h2:SeL W' rv' l')(h3:l'.length<=4096):RefA W' v sv rv' l':=⟨h.s1,h1,h2,h.secs.mono hl,h.sh,h3⟩
section
variable {W:AW} {v:Ven} {sv rv:Value} {l:List SeT}
end
section
variable {α:Type} {z:Nat} {f:α->List Value} {at_:List Value->Nat->α->Prop} {W:AW} {v u:Value} {l m:List α}
def LB(lo:Nat)(W:AW)(z:Nat)(f:α->List Value)(v:Value)(l:List α):Prop:=Lst lo W z f v l\/(l=[]/\∃B,B<W.next/\v=.slice (some ⟨B,0,none⟩) 0 0)
theorem LB.mono{lo:Nat}{W':AW}(h:LB lo W z f v l)(hl:Le W W'):LB lo W' z f v l:=by
 rcases h with h|⟨h0,B,h1,h2⟩
 ·exact .inl (h.mono hl)
 ·exact .inr ⟨h0,B,Nat.lt_of_lt_of_le h1 hl.next,h2⟩
theorem LB.cat{ts:Array TypeId}{bytes lo:Nat}(hk:l8 Tryz.prog ts z bytes=true)(hf:∀a,(f a).length=z)(h1:∀a,(f a).all Eng.one=true)(h:LB lo W z f v l)(hr:Row W z at_ u m)(hat:∀cs p a,at_ cs p a->(cs.drop p).take z=f a)
 (hb:l.length+m.length<1099511627776)(hb2:(2*(l.length+m.length)+192)*bytes<=281474976710656)(hlo:lo<=W.next):
 ∃v' W',bE Tryz.prog W ts v u=some (v',W')/\LB lo W' z f v' (l++m)/\(l++m≠[]->Lst lo W' z f v' (l++m))/\W.next<=W'.next/\∀A,Le A W->A.next<=lo->Le A W':=by
 rcases h with h|⟨rfl,B,h2,rfl⟩
 ·obtain⟨v',W',k1,k2,k3,k4⟩:=Lst.cat hk hf h1 h hr hat hb hb2 hlo;exact⟨v',W',k1,.inl k2,λ_=>k2,k3,k4⟩
 ·obtain⟨a,c,rfl,hr⟩:=hr;by_cases hm:m=[]
  ·subst hm;exact⟨_,W,tX hk (Nat.le_refl 0) (by omega) (by simpa using hb2),.inr ⟨rfl,B,h2,rfl⟩,λx=>absurd rfl x,Nat.le_refl _,λA hA _=>hA⟩
  ·rcases hr with hr|⟨C,o,cs,rfl,h3,h4,h5⟩
   ·exact absurd hr hm
   ·have e:m.flatMap f=(cs.drop o).take (m.length*z):=(xR hf m cs o λi hi=>hat _ _ _ (h5 i hi)).symm;have hall:(m.flatMap f).all Eng.one=true:=by rw[List.all_flatMap,List.all_eq_true];exactλa _=>h1 a
    have hL:Lst lo (W.add (.cells (m.flatMap f))) z f (.slice (some ⟨W.next,0,none⟩) m.length (bQ+z)) m:=.inr ⟨hm,W.next,hlo,by rw[AW.add_next];omega,rfl,AW.get_add _ _⟩;exact⟨_,_,zH hk h4 e (aN hf m) (List.length_pos_iff.2 hm) hall (by simpa using hb) (by simpa using hb2),.inl hL,λ_=>hL,by rw[AW.add_next];omega,λA hA _=>hA.add _⟩
end
theorem Lst.from{lo:Nat}{W:AW}{v:Value}{l:List (Int×Int)}(h:Lst lo W 2 oK v l){n:Nat}(hn:n<=l.length)(k:IntKind):∃u,(∀W',bL Tryz.prog 32 v (some (.int k (n:Int))) none none W'=some (u,W'))/\HoL W u (l.drop n):=by
 rcases h with⟨rfl,rfl⟩|⟨h0,B,h1,h2,rfl,h3⟩
 ·obtain rfl:n=0:=by simpa using hn
  obtain⟨e,he,hz⟩:=fJ a3W;exact⟨.slice none 0 0,λW'=>by unfold bL fU;simp[he,hz,bX,gI],Row.nil⟩
 ·refine⟨_,λW'=>EX hn W',?_⟩;refine⟨_,_,by rw[List.length_drop],?_⟩;by_cases he:l.drop n=[]
  ·exact .inl he
  ·refine .inr ⟨B,n*2,_,rfl,h2,aZ h3,λi hi=>?_⟩;rw[List.length_drop]at hi;obtain⟨e1,e2⟩:=dW kX (List.getElem?_eq_getElem (show n+i<l.length by omega));rw[e1,show n*2+i*2=(n+i)*2 by omega,<-e2,List.getElem_drop];exact LC _ _ _
section
variable {W:AW} {v:Ven} {sv rv:Value} {l:List SeT} {k:Nat}
end
def a9M(k:Nat)(i:Int)(j:Nat):Bool:= !decide (0<=i)||decide (((j % k:Nat):Int)=i)
theorem LB.row{lo:Nat}{W:AW}{v:Value}{l:List (Int×Int)}(h:LB lo W 2 oK v l):HoL W v l:=by
 rcases h with h|⟨rfl,B,h1,rfl⟩
 ·exact h.row kX LC
 ·exact⟨_,0,rfl,.inl rfl⟩
theorem Lst.low{α:Type}{lo lo' z:Nat}{W:AW}{f:α->List Value}{v:Value}{l:List α}(h:Lst lo W z f v l)(hl:lo'<=lo):Lst lo' W z f v l:=by
 rcases h with h|⟨h0,B,h1,h2⟩
 ·exact .inl h
 ·exact .inr ⟨h0,B,Nat.le_trans hl h1,h2⟩
theorem Lst.new{lo:Nat}{W:AW}{v:Value}{l:List (Int×Int)}(h:Lst lo W 2 oK v l):NewL lo W v l:=by
 rcases h with⟨rfl,rfl⟩|⟨h0,B,h1,h2,rfl,h3⟩
 ·exact NewL.nil _ _
 ·exact⟨_,_,rfl,.inr ⟨B,[],rfl,h1,h2,by rw[List.append_nil];exact h3⟩⟩
theorem NewL.low{lo lo':Nat}{W:AW}{u:Value}{l:List (Int×Int)}(h:NewL lo W u l)(hl:lo'<=lo):NewL lo' W u l:=by
 obtain⟨a,c,rfl,hr⟩:=h;rcases hr with hr|⟨B,rest,h0,h1,h2,h3⟩
 ·exact⟨a,c,rfl,.inl hr⟩
 ·exact⟨a,c,rfl,.inr ⟨B,rest,h0,Nat.le_trans hl h1,h2,h3⟩⟩
section
variable {W:AW} {v:Ven} {sv rv:Value} {l:List SeT} {k:Nat}
end
def a14(l:List SeT):Prop:=∀x,x∈l->x.dl<=9223372036854775807
section
variable {W:AW} {v:Ven} {sv rv:Value} {l:List SeT} {k:Nat}
end
def BlS(lo:Nat)(W:AW)(u:Value)(l:List SeT):Prop:=∃B c,lo<=B/\B<W.next/\u=.slice (some ⟨B,0,none⟩) l.length c/\(l≠[]->W.get B=some (.cells (l.flatMap nI)))
theorem BlS.row{lo:Nat}{W:AW}{u:Value}{l:List SeT}(h:BlS lo W u l):SeL W u l:=OwnL.row (lo:=lo) gN h LF
theorem BlS.sl{lo:Nat}{W:AW}{u:Value}{l:List SeT}(h:BlS lo W u l):Sl u:=by obtain⟨B,c,h0,h1,rfl,h2⟩:=h;exact⟨rfl,A7 _ _ _ _⟩
theorem BlS.keep{lo:Nat}{W W':AW}{u:Value}{l:List SeT}(h:BlS lo W u l)(hn:W.next<=W'.next)(hg:∀b,lo<=b->b<W.next->W'.get b=W.get b):BlS lo W' u l:=by obtain⟨B,c,h0,h1,rfl,h2⟩:=h;exact⟨B,c,h0,by omega,rfl,λhl=>(hg B h0 h1).trans (h2 hl)⟩
theorem BlS.put{lo:Nat}{W:AW}{u:Value}{l:List SeT}(h:BlS lo W u l){s:Nat}{x:SeT}(hs:l[s]? =some x):∃b o,lo<=b/\b<W.next/\(∀U q,jS 5 u (.int q (s:Int)) U=some (.pointer (some ⟨b,o,none⟩),U))/\(∀U,U.get b=W.get b->jV 5 (.pointer (some ⟨b,o,none⟩)) U=some (GX x,U))/\
 ∀y U,U.get b=W.get b->W.next<=U.next->mY 5 (.pointer (some ⟨b,o,none⟩)) (GX y) U=some (undef,U.put b (.cells ((l.set s y).flatMap nI)))/\BlS lo (U.put b (.cells ((l.set s y).flatMap nI))) u (l.set s y):=by
 obtain⟨B,c,h0,h1,rfl,h2⟩:=h;obtain⟨hi,-⟩:=List.getElem?_eq_some_iff.1 hs;have hne:l≠[]:=λe=>by rw[e]at hi;simp at hi
 have hg:=h2 hne;refine⟨B,s*5,h0,h1,λU q=>?_,λU hU=>?_,λy U hU hn=>⟨?_,B,c,h0,by rw[AW.put_next];omega,by rw[List.length_set],λ_=>AW.get_put _ _ _⟩⟩
 ·have:=nM (W:=U) (z:=5) (b:=B) (o:=0) (l:=l.length) (c:=c) (i:=s) (k:=q) hi;rwa [Nat.zero_add]at this
 ·rw[xA,aZ (hU.trans hg)];simp only[Option.bind_some,JK gN hs,gN,if_true]
 ·have hst:=H5 (n:=5) (b:=B) (o:=s*5) (v:=GX y) (hU.trans hg) rfl (by show s*5+5<=_;rw[aN gN];omega) rfl;have e5:iB (l.flatMap nI) (s*5) (GX y).cells.toList=(l.set s y).flatMap nI:=I6 gN hs y;rw[hst,e5]
section
variable {W:AW} {v:Ven} {sv rv:Value} {l:List SeT} {k:Nat}
end
section
variable {W:AW} {v:Ven} {sv rv:Value} {l:List SeT} {k:Nat}
end
def UH(l:List SeT):Bool:=l.any λx=> !decide (NL x=0)
theorem a2L{l:List SeT}(h:UH l=false){x:SeT}(hx:x∈l):NL x=0:=by unfold UH at h;rw[List.any_eq_false]at h;have:=h x hx;simpa using this
def oH(v:Ven)(l:List SeT):Int:=if(jB v).2≠0 then(jB v).2 else if(l.length:Int)≠(jB v).1 then 6 else if UH l=true then 6 else 0
theorem a1l{v:Ven}{l:List SeT}(h:oH v l=0):(sI v).2=0/\(l.length:Int)=bW v.secs/\(∀x,x∈l->NL x=0)/\l.length<=4096/\1<=v.sh/\v.sh<=16:=by
 unfold oH at h;split at h
 ·exact absurd h (by assumption)
 ·rename_i h1;split at h
  ·omega
  ·rename_i h2;split at h
   ·omega
   ·rename_i h3;have hv:(sI v).2=0:=by apply Classical.byContradiction;intro c;apply h1;unfold jB;rw[if_neg c];exact c
    have e1:(jB v).1=bW v.secs:=by unfold jB;rw[if_pos hv]
    obtain⟨-,g2,-,-,g5,-⟩:=vK hv;rw[e1]at h2;have h4:=Classical.not_not.1 h2;refine⟨hv,h4,λx hx=>a2L (by simpa using h3) hx,by omega,?_⟩;unfold EC at g2;simp only[Bool.or_eq_false_iff]at g2;have:=g2.1.1;unfold pE at this;simp at this;omega
theorem a0f{W:AW}{v fv:Value}{l:List SeT}{p:SeT->Bool}(h:SeL W v l)(hp:∀x,x∈l->aL fv [GX x] W=some (.bool (p x),W))(hl:l.length<=10000):aL (.func (.func 131) #[] #[]) [v,fv] W=some (.int .i64 (mD p l),W):=by
 refine aT rfl ?_ iF;unfold dZ;simp only[SX,h.len uE];refine bR l.length (by omega) (λi R V=>V=W/\R 0=v/\R 1=fv/\R 7=.int .i64 (l.length:Int)/\R 8=.int .i64 (i:Int)/\∀j (hj:j<i) (hj2:j<l.length),p l[j]=false)
  (λr=>r.2.2=W/\((r.1=.exit 0/\mD p l= -1)\/(r.1=.ret/\r.2.1 4=.int .i64 (mD p l)))) ⟨rfl,rfl,rfl,rfl,rfl,λj hj=>by omega⟩ ?_ ?_ ?_
 ·rintro i R V hi ⟨rfl,r0,r1,r7,r8,ha⟩;unfold bN;have t1:((i:Int)<(l.length:Int)):=by omega
  have t2:=λW'=>bA (P:=Tryz.prog) (W:=W') (t:=3) (c:=false) (d:=true) (a:=(i:Int)) (b:=1) (by omega) (by omega)
  have e3:((i+1:Nat):Int)=(i:Int)+1:=by omega
  obtain⟨b,o,-,i1,i3,-⟩:=SeL.get h (List.getElem?_eq_getElem hi);cases hc:p l[i]with
  |true=>simp only[SX,r0,r1,r7,r8,t1,decide_true,i1,i3 _ (Le.refl _),hp _ (List.getElem_mem hi),hc,aA];exact .inr ⟨by simp,trivial,.inr ⟨trivial,by rw[OA hi hc λj hj=>ha j hj (by omega)];rfl⟩⟩
  |false=>
   simp only[SX,r0,r1,r7,r8,t1,decide_true,i1,i3 _ (Le.refl _),hp _ (List.getElem_mem hi),hc,t2,aA];refine .inl ⟨trivial,trivial,r0,r1,r7,by rw[e3];rfl,λj hj hj2=>?_⟩;by_cases c:j=i
   ·subst c;exact hc
   ·exact ha j (by omega) hj2
 ·rintro R V ⟨rfl,r0,r1,r7,r8,ha⟩;unfold bN;have t1:¬((l.length:Int)<(l.length:Int)):=by omega
  simp only[SX,r7,r8,t1,decide_false,aA];refine⟨by simp,trivial,.inl ⟨trivial,HV λx hx=>?_⟩⟩;obtain⟨j,hj,rfl⟩:=List.mem_iff_getElem.1 hx;exact ha j hj hj
 ·rintro⟨q,R,V⟩ ⟨rfl,hq⟩;simp only at hq;rcases hq with⟨rfl,e⟩|⟨rfl,r4⟩
  ·simp only[SX,aA];exact⟨by rw[e],Le.refl _⟩
  ·simp only[SX,r4,aA];exact⟨trivial,Le.refl _⟩
theorem a0j(x:SeT)(W:AW):aL (.func (.func 69) #[] #[]) [GX x] W=some (.bool (!decide (NL x=0)),W):=by refine aT rfl ?_ BL;unfold wI;have hg:(W.add (.cells (nI x))).get W.next=some (.cells (nI x)):=AW.get_add _ _;have hle:Le W (W.add (.cells (nI x))):=(Le.refl _).add _;simp only[SX,a3x,Nat.zero_add];generalize W.add (.cells (nI x))=W1 at *;simp only[SX,WC hg,RZ,aA];exact⟨trivial,hle⟩
theorem PG{W:AW}{v:Value}{l:List SeT}(h:SeL W v l)(hl:l.length<=10000):aL (.func (.func 68) #[] #[]) [v,.func (.func 69) #[] #[]] W=some (.bool (UH l),W):=by
 refine aT rfl ?_ gJ;unfold dG;have hi:=a0f (p:=λx=> !decide (NL x=0)) h (λx _=>a0j x W) hl;simp only[SX,hi,aA];refine⟨?_,Le.refl _⟩;congr 1;unfold UH;rcases KY (λx:SeT=> !decide (NL x=0)) l with⟨h1,h2⟩|⟨i,hi,h2,h3,-⟩
 ·rw[h2,List.any_eq_false.2 λx hx=>by rw[h1 x hx];decide];decide
 ·rw[h2,List.any_eq_true.2 ⟨_,List.getElem_mem hi,h3⟩];exact decide_eq_true (by omega)
section
variable {W:AW} {v:Ven} {sv rv:Value} {l:List SeT}
theorem L8(v:Ven)(sv:Value)(W:AW):∃W1,eH (tL v sv) W=some (.pointer (some ⟨W.next,0,none⟩),W1)/\Le W W1/\W1.next=W.next+1/\W1.get W.next=some (.cells [.int .i64 v.sh,.int .i64 v.ttl,.int .i64 v.ses,sv]):=⟨_,fH _,(Le.refl _).add _,AW.add_next _ _,AW.get_add _ _⟩
theorem D8{v:Ven}{sv:Value}{W:AW}{b:Nat}(h:W.get b=some (.cells [.int .i64 v.sh,.int .i64 v.ttl,.int .i64 v.ses,sv])):jV 4 (.pointer (some ⟨b,0,none⟩)) W=some (tL v sv,W):=vT (aZ h) rfl
abbrev a81:Value:=a8d ⟨0,0,0,[]⟩ (.slice none 0 0) (.slice none 0 0)
end
theorem u69:Tryz.prog.underlying 69=some (.slice 3):=by kernel_rfl
theorem a8b(c d:Bool)(l k:Nat)(W:AW):aD Tryz.prog .eql 69 c d (.slice none l k) (.slice none 0 0) W=some (.bool true,W):=by unfold aD iV gK;simp only[u69];rfl
theorem a7J(c d:Bool)(a:Addr)(l k:Nat)(W:AW):aD Tryz.prog .eql 69 c d (.slice (some a) l k) (.slice none 0 0) W=some (.bool false,W):=by unfold aD iV gK;simp only[u69]
theorem a6r(W:AW):aX Tryz.prog 69 0 [] W=some (.slice (some ⟨W.next,0,none⟩) 0 0,W.add (.cells [])):=Eq.trans (by kernel_rfl) rfl
theorem a8h{cs:List Value}{p:Nat}{x:Int}(h:CV .i64 cs p x):(cs.drop p).take 1=IU x:=by obtain⟨i0,e0⟩:=List.getElem?_eq_some_iff.1 h;rw[List.drop_eq_getElem_cons i0,e0];rfl
def FI(lo:Nat)(W:AW)(u:Value)(l:List Int):Prop:=∃a c,u=.slice a l.length c/\(l=[]\/∃B,a=some ⟨B,0,none⟩/\lo<=B/\B<W.next/\W.get B=some (.cells (l.flatMap IU)))
theorem FI.ints{lo:Nat}{W:AW}{u:Value}{l:List Int}(h:FI lo W u l):Ints W u l:=by
 obtain⟨a,c,rfl,hr⟩:=h;rcases hr with hr|⟨B,rfl,h1,h2,h3⟩
 ·exact⟨a,c,rfl,.inl hr⟩
 ·exact OwnL.row (lo:=0) HY ⟨B,c,Nat.zero_le _,h2,rfl,λ_=>h3⟩ WM
theorem FI.keep{lo:Nat}{W W':AW}{u:Value}{l:List Int}(h:FI lo W u l)(hn:W.next<=W'.next)(hg:∀b,lo<=b->b<W.next->W'.get b=W.get b):FI lo W' u l:=by
 obtain⟨a,c,rfl,hr⟩:=h;rcases hr with hr|⟨B,e,h1,h2,h3⟩
 ·exact⟨a,c,rfl,.inl hr⟩
 ·exact⟨a,c,rfl,.inr ⟨B,e,h1,by omega,(hg B h1 h2).trans h3⟩⟩
theorem FI.one{lo:Nat}{W:AW}{u:Value}{l:List Int}(h:FI lo W u l):u.cells=#[u]/\Eng.one u=true:=by obtain⟨a,c,rfl,-⟩:=h;exact⟨rfl,rfl⟩
theorem a3J{o t:Option (Value×AW)}{W:AW}{lo:Nat}{l:List Int}(h:Ok t λr=>Le W r.2/\FI lo r.2 r.1 l)(hom:∀{r},t=some r->o=some (gc W r)):∃v W2,o=some (v,W2)/\Le W W2/\FI lo W2 v l:=by
 obtain⟨⟨v,W'⟩,h1,h2,h3⟩:=h;cases hp:(aU v&& !isU v)
 ·exact⟨v,W',by rw[hom h1,fD hp],h2,h3⟩
 ·refine⟨v,W,by rw[hom h1,oL hp h2],.refl _,?_⟩;obtain⟨a,c,rfl,hr⟩:=h3;rcases hr with hr|⟨B,rfl,-⟩
  ·exact⟨a,c,rfl,.inl hr⟩
  ·exact absurd hp (by simp[aU,iT,bS])
theorem NZ{W:AW}{v:Value}{l:List Int}(h:Ints W v l)(hn:l.length<=10000):∃u W',aL (.func (.func 72) #[] #[]) [v] W=some (u,W')/\Le W W'/\FI W.next W' u l:=by
 have hh:=h;obtain⟨a,c,rfl,h⟩:=h;cases a with
 |none=>
  have main:Ok (eQ aL (.slice none l.length c) W) λr=>Le W r.2/\FI W.next r.2 r.1 l:=by
   unfold eQ;simp only[SX,a8b,aA];rcases h with h|⟨b,o,cs,h1,-⟩
   ·exact⟨Le.refl _,none,0,by rw[h];rfl,.inl h⟩
   ·cases h1
  exact a3J main lK
 |some a=>
  have main:Ok (eQ aL (.slice (some a) l.length c) W) λr=>Le W r.2/\FI W.next r.2 r.1 l:=by
   unfold eQ;have l1:Le W (W.add (.cells [])):=(Le.refl _).add _;have n1:(W.add (.cells [])).next=W.next+1:=AW.add_next _ _;simp only[SX,a7J,a6r];generalize W.add (.cells [])=W1 at *;obtain⟨u,W',k1,k2,B,c',k3,k4,rfl,k5⟩:=Q8 a7W HY a0k (hh.mono l1) (λ_ _ _=>a8h) (by omega) (by omega) (b:=W.next) (by omega);simp only[SX,k1,aA];refine⟨l1.trans k2,_,_,rfl,?_⟩;by_cases he:l=[]
   ·exact .inl he
   ·exact .inr ⟨B,rfl,k3,k4,k5 he⟩
  exact a3J main lK
def wE(l:List Sec)(i:Nat):Sec:=l.getD i ⟨[],[],0⟩
theorem zP{l:List Sec}{i:Nat}(h:i<l.length):wE l i=l[i]:=by unfold wE;rw[List.getD_eq_getElem?_getD,List.getElem?_eq_getElem h];rfl
def qE(l:List Sec)(g:Nat->Value)(i:Nat):List Value:=[.string (aJ (wE l i).name),g i,.int .i64 (wE l i).q]
theorem kF(l:List Sec)(g:Nat->Value)(i:Nat):(qE l g i).length=3:=rfl
def a4S(l:List Sec)(g:Nat->Value)(cs:List Value)(p i:Nat):Prop:=(cs.drop p).take 3=qE l g i
theorem Y5{W:AW}{sv:Value}{l:List Sec}(h:Secs W sv l):∃g:Nat->Value,(∀i,Eng.one (g i)=true)/\(∀i,i<l.length->Ints W (g i) (wE l i).rows)/\Row W 3 (a4S l g) sv (List.range l.length):=by
 obtain⟨a,c,rfl,h⟩:=h;have ex:∀i,∃rv:Value,Eng.one rv=true/\(i<l.length->Ints W rv (wE l i).rows/\∀b o cs,a=some ⟨b,o,none⟩->cellsAt W b=some cs->(l=[]\/∀i (h:i<l.length),VZ W cs (o+i*3) l[i])->(cs.drop (o+i*3)).take 3=[.string (aJ (wE l i).name),rv,.int .i64 (wE l i).q]):=λi=>by
  by_cases hi:i<l.length
  ·rcases h with h|⟨b,o,cs,rfl,h2,h3,h4⟩
   ·rw[h]at hi;simp at hi
   ·obtain⟨s1,s2,rv,s3,s4⟩:=h4 i hi;rw[<-zP hi]at s1 s2 s4;refine⟨rv,?_,λ_=>⟨s4,λb' o' cs' e1 e2 _=>?_⟩⟩
    ·obtain⟨a',c',rfl,-⟩:=s4;exact X9 _ _ _
    ·injection e1 with e1;injection e1 with e1 e3;subst e1 e3;rw[h3]at e2;injection e2 with e2;subst e2;exact a1E s1 s3 s2
  ·exact⟨.slice none 0 0,rfl,λx=>absurd x hi⟩
 refine⟨λi=>Classical.choose (ex i),λi=>(Classical.choose_spec (ex i)).1,λi hi=>((Classical.choose_spec (ex i)).2 hi).1,?_⟩;rcases h with h|⟨b,o,cs,rfl,h2,h3,h4⟩
 ·exact⟨a,c,by rw[List.length_range],.inl (by rw[h];rfl)⟩
 ·refine⟨_,c,by rw[List.length_range],.inr ⟨b,o,cs,rfl,h2,h3,λi hi=>?_⟩⟩;rw[List.length_range]at hi;rw[List.getElem_range];exact((Classical.choose_spec (ex i)).2 hi).2 b o cs rfl h3 (.inr h4)
theorem a8i:l8 Tryz.prog #[22,22] 3 48=true:=by kernel_rfl
theorem u22:Tryz.prog.underlying 22=some (.slice 130):=by kernel_rfl
theorem a8w(c d:Bool)(a:Addr)(l k:Nat)(W:AW):aD Tryz.prog .eql 22 c d (.slice (some a) l k) (.slice none 0 0) W=some (.bool false,W):=by unfold aD iV gK;simp only[u22]
theorem a6U(W:AW):aX Tryz.prog 22 0 [] W=some (.slice (some ⟨W.next,0,none⟩) 0 0,W.add (.cells [])):=Eq.trans (by kernel_rfl) rfl
theorem QI{Wb W:AW}{sv:Value}{l:List Sec}(h:SecsC Wb sv l)(hle:Le Wb W)(h0:l≠[])(hn:l.length<=10000):∃B W',∃g:Nat->Value,aL (.func (.func 71) #[] #[]) [sv] W=some (.slice (some ⟨B,0,none⟩) l.length (bQ+3),W')/\Le W W'/\W.next<=B/\B<W'.next/\W'.get B=some (.cells ((List.range l.length).flatMap (qE l g)))/\(∀i,Eng.one (g i)=true)/\∀i,i<l.length->Ints Wb (g i) (wE l i).rows:=by
 obtain⟨g,g1,g2,g3'⟩:=Y5 h.1;have g3:=g3'.mono hle;obtain⟨-,a,c,rfl,-,h4⟩:=h;obtain⟨b,o,rfl⟩:=h4 h0;have main:Ok (bO aL (.slice (some ⟨b,o,none⟩) l.length c) W) λr=>∃B,r.1=.slice (some ⟨B,0,none⟩) l.length (bQ+3)/\Le W r.2/\W.next<=B/\B<r.2.next/\r.2.get B=some (.cells ((List.range l.length).flatMap (qE l g))):=by
  unfold bO;have l1:Le W (W.add (.cells [])):=(Le.refl _).add _;have n1:(W.add (.cells [])).next=W.next+1:=AW.add_next _ _;simp only[SX,a8w,a6U];generalize W.add (.cells [])=W1 at *;obtain⟨a',c',e1,hr⟩:=g3;rw[List.length_range]at e1;injection e1 with e1 e2 e3;subst e1 e3;rcases hr with hr|⟨b',o',cs,e4,q1,q2,q3⟩
  ·rw[List.range_eq_nil]at hr;exact absurd (List.length_eq_zero_iff.1 hr) h0
  injection e4 with e4;injection e4 with e4 e5;subst e4 e5;have e:(List.range l.length).flatMap (qE l g)=(cs.drop o).take (l.length*3):=by
   have:=xR (kF l g) (List.range l.length) cs o λi hi=>q3 i hi
   rw[List.length_range]at this;exact this.symm
  have hall:((List.range l.length).flatMap (qE l g)).all Eng.one=true:=by rw[List.all_flatMap,List.all_eq_true];intro i _;unfold qE;simp only[List.all_cons,List.all_nil,xM,rJ,g1,Bool.and_self]
  have hap:=zH (P:=Tryz.prog) (W:=W1) (ts:=#[22,22]) a8i (b:=b) (o:=o) (n:=l.length) (c:=c) (new:=(List.range l.length).flatMap (qE l g)) (by rw[l1.cellsAt q1];exact q2) e (by rw[aN (kF l g),List.length_range]) (List.length_pos_iff.2 h0) hall (a:=⟨W.next,0,none⟩) (by omega) (by omega);simp only[SX,hap,aA];exact⟨_,rfl,l1.add _,by omega,by rw[AW.add_next];omega,AW.get_add _ _⟩
 obtain⟨⟨r,W'⟩,h1,B,h2,h3,h5,h6,h7⟩:=main;simp only at h2 h3 h6 h7;subst h2;exact⟨B,W',g,by rw[gP h1,fD rfl],h3,h5,h6,h7,g1,g2⟩
theorem a1O{l:List Sec}{g:Nat->Value}{n i:Nat}(hi:i<n)(u:Value):((List.range n).flatMap (qE l g)).set (i*3+1) u=(List.range n).flatMap (qE l λj=>if j=i then u else g j):=by
 have hr:(List.range n)[i]? =some i:=List.getElem?_range hi;obtain⟨e1,e2⟩:=dW (kF l g) hr;obtain⟨e3,-⟩:=dW (kF l λj=>if j=i then u else g j) hr;have t1:∀xs:List Nat,(∀j∈xs,j≠i)->xs.flatMap (qE l λj=>if j=i then u else g j)=xs.flatMap (qE l g):=λxs hx=>by
  rw[List.flatMap_def,List.flatMap_def];congr 1;refine List.map_congr_left λj hj=>?_
  unfold qE;simp only[hx j hj,if_false]
 have h1:∀j∈(List.range n).take i,j≠i:=λj hj e=>by obtain⟨k,hk,rfl⟩:=List.mem_iff_getElem.1 hj;rw[List.length_take,List.length_range]at hk;rw[List.getElem_take,List.getElem_range]at e;omega
 have h2:∀j∈(List.range n).drop (i+1),j≠i:=λj hj e=>by obtain⟨k,hk,rfl⟩:=List.mem_iff_getElem.1 hj;rw[List.getElem_drop,List.getElem_range]at e;omega
 rw[e3,t1 _ h1,t1 _ h2,e1,List.set_append_right _ _ (by rw[e2];omega),e2,Nat.add_sub_cancel_left];unfold qE;simp
theorem a00{l:List Sec}{g:Nat->Value}{n i:Nat}(hi:i<n):((List.range n).flatMap (qE l g))[i*3+1]? =some (g i):=mJ (o:=1) (kF l g) (List.getElem?_range hi) (by omega)
theorem a0c{W:AW}{B:Nat}{l:List Sec}{g:Nat->Value}(hB:W.get B=some (.cells ((List.range l.length).flatMap (qE l g))))(hl:B<W.next)(hg:∀i,i<l.length->Ints W (g i) (wE l i).rows):SecsC W (.slice (some ⟨B,0,none⟩) l.length (bQ+3)) l:=by
 refine⟨⟨_,_,rfl,.inr ⟨B,0,_,rfl,hl,aZ hB,λi hi=>?_⟩⟩,_,_,rfl,.inr rfl,λ_=>⟨B,0,rfl⟩⟩;have hr:(List.range l.length)[i]? =some i:=List.getElem?_range hi;rw[Nat.zero_add];refine⟨?_,?_,g i,mJ (o:=1) (kF l g) hr (by omega),?_⟩
 ·rw[<-zP hi];exact mJ (o:=0) (kF l g) hr (by omega)
 ·rw[<-zP hi];exact mJ (o:=2) (kF l g) hr (by omega)
 ·rw[<-zP hi];exact hg i hi
theorem a2K{k j:Nat}(H:Nat->Nat)(tv:Nat->Value)(hj:j<k)(u:Value):(shC k H tv).set (j*2+1) u=shC k H λi=>if i=j then u else tv i:=by
 have hr:(List.range k)[j]? =some j:=List.getElem?_range hj;obtain⟨e1,e2⟩:=dW (yI H tv) hr;obtain⟨e3,-⟩:=dW (yI H λi=>if i=j then u else tv i) hr;have t1:∀xs:List Nat,(∀i∈xs,i≠j)->xs.flatMap (shE H λi=>if i=j then u else tv i)=xs.flatMap (shE H tv):=λxs hx=>by
  rw[List.flatMap_def,List.flatMap_def];congr 1;refine List.map_congr_left λi hi=>?_
  unfold shE;simp only[hx i hi,if_false]
 have h1:∀i∈(List.range k).take j,i≠j:=λi hi e=>by obtain⟨m,hm,rfl⟩:=List.mem_iff_getElem.1 hi;rw[List.length_take,List.length_range]at hm;rw[List.getElem_take,List.getElem_range]at e;omega
 have h2:∀i∈(List.range k).drop (j+1),i≠j:=λi hi e=>by obtain⟨m,hm,rfl⟩:=List.mem_iff_getElem.1 hi;rw[List.getElem_drop,List.getElem_range]at e;omega
 unfold shC;rw[e3,t1 _ h1,t1 _ h2,e1,List.set_append_right _ _ (by rw[e2];omega),e2,Nat.add_sub_cancel_left];unfold shE;simp
theorem SlS.push{W:AW}{T:Nat}{v:Value}{xs:List SeT}(h:SlS W T v xs){x:SeT}{b c:Nat}(hc:cellsAt W b=some (nI x))(hb:xs.length<=10000):
 ∃v' W',bE Tryz.prog W #[25,25] v (.slice (some ⟨b,0,none⟩) 1 c)=some (v',W')/\SlS W' W.next v' (xs++[x])/\W'.next=W.next+1/\(∀b,b<W.next->(xs≠[]->b≠T)->W'.get b=W.get b)/\v'.cells=#[v']/\Eng.one v'=true:=by
 have hn:nI x=((nI x).drop 0).take (1*5):=rfl;rcases h with⟨rfl,rfl⟩|⟨h0,h1,rfl,h3⟩
 ·refine⟨_,_,xS (b:=b) (o:=0) (c:=c) a4b hc hn rfl (by omega) (MZ x) (by omega) (by omega),.inr ⟨by simp,by rw[AW.add_next];omega,by simp,by rw[AW.get_add];simp⟩,AW.add_next _ _,λb hb _=>AW.get_add_ne _ _ (by omega),rfl,rfl⟩
 ·have hpos:0<xs.length:=List.length_pos_iff.2 h0;refine⟨_,_,MK (b:=b) (o:=0) (c:=c) a4b hc hn rfl (by omega) (MZ x) h3 (aN gN xs) (by omega) (by omega) hpos,.inr ⟨by simp,by rw[AW.add_next,AW.kill_next];omega,by simp[AW.kill_next],?_⟩,by rw[AW.add_next,AW.kill_next],λb hb hT=>?_,rfl,rfl⟩
  ·have:=(W.kill T).get_add (.cells (xs.flatMap nI++nI x));rw[AW.kill_next]at this;rw[this,List.flatMap_append];simp
  ·rw[AW.get_add_ne _ _ (by rw[AW.kill_next];omega),AW.get_kill_ne _ (λe=>hT h0 e.symm)]
def Md.push(d:Md)(j T:Nat)(u:Value):Md:={d with T:=λi=>if i=j then T else d.T i,tv:=λi=>if i=j then u else d.tv i}
section
variable {K:Nat->Prop} {V:AW} {d:Md} {l:List SeT} {e:Nat->List (Int×Int)}
theorem MapP.push(h:MapP K V d l e)(hl:l.length<d.many){x:SeT}{b c:Nat}(hc:cellsAt V b=some (nI x)):
 ∃u V1,∃V2,bE Tryz.prog V #[25,25] (d.tv (l.length % d.k)) (.slice (some ⟨b,0,none⟩) 1 c)=some (u,V1)/\mY 1 (.pointer (some ⟨d.SB,l.length % d.k*2+1,none⟩)) u V1=some (undef,V2)/\MapP K V2 (d.push (l.length % d.k) V.next u) (l++[x]) e/\Gr V V2 K:=by
 have hk:0<d.k:=h.kp.1;have hi:=Nat.mod_lt l.length hk;have hmn:=h.mn;have hcl:(dO l d.k (l.length % d.k)).length<=10000:=by rw[eP];unfold CF;have:=Nat.div_le_self (l.length+d.k-1-l.length % d.k) d.k;have:=h.kp.2;omega
 obtain⟨u,V1,p1,p2,p3,p4,p5,p6⟩:=(h.col _ hi).push (c:=c) hc hcl;have hT:∀(hn:dO l d.k (l.length % d.k)≠[]),K (d.T (l.length % d.k))/\d.T (l.length % d.k)≠d.M/\d.T (l.length % d.k)≠d.SB:=h.tk _ hi;have g1:∀b,b<V.next->(dO l d.k (l.length % d.k)≠[]->b≠d.T (l.length % d.k))->V1.get b=V.get b:=p4;have hsb:V1.get d.SB=some (.cells (shC d.k d.H d.tv)):=(g1 _ h.sl λhn c=>(hT hn).2.2 c.symm).trans h.sc;have hst:=YZ (b:=d.SB) (o:=l.length % d.k*2+1) (v:=u) hsb (by unfold shC;rw[aN (yI d.H d.tv),List.length_range];omega) p5 p6;rw[a2K d.H d.tv hi u]at hst;obtain⟨V2,hV2⟩:∃V2,V2=V1.put d.SB (.cells (shC d.k d.H λi=>if i=l.length % d.k then u else d.tv i)):=⟨_,rfl⟩;rw[<-hV2]at hst;have n2:V2.next=V.next+1:=by rw[hV2];exact p3
 have z1:V2.get d.SB=some (.cells (shC d.k d.H λi=>if i=l.length % d.k then u else d.tv i)):=by rw[hV2];exact AW.get_put _ _ _
 have z0:∀b,b≠d.SB->V2.get b=V1.get b:=λb hb=>by rw[hV2];exact AW.get_put_ne _ _ λx=>hb x.symm
 have g2:∀b,b<V.next->b≠d.SB->(dO l d.k (l.length % d.k)≠[]->b≠d.T (l.length % d.k))->V2.get b=V.get b:=λb hb h1 h2=>(z0 b h1).trans (g1 b hb h2)
 have hcol:∀i,i<d.k->dO (l++[x]) d.k i=if l.length % d.k=i then dO l d.k i++[x]else dO l d.k i:=λi hi'=>WP hi' x
 have hne:∀i,i<d.k->i≠l.length % d.k->dO (l++[x]) d.k i=dO l d.k i:=λi hi' hn=>by rw[hcol i hi',if_neg λc=>hn c.symm]
 have hTi:∀i,(d.push (l.length % d.k) V.next u).T i=if i=l.length % d.k then V.next else d.T i:=λi=>rfl
 have htvi:∀i,(d.push (l.length % d.k) V.next u).tv i=if i=l.length % d.k then u else d.tv i:=λi=>rfl
 have hTc:∀i,i<d.k->dO (l++[x]) d.k i≠[]->(i=l.length % d.k/\(d.push (l.length % d.k) V.next u).T i=V.next)\/(i≠l.length % d.k/\(d.push (l.length % d.k) V.next u).T i=d.T i/\dO l d.k i≠[]/\d.T i<V.next):=λi hi' h0=>by
  by_cases c:i=l.length % d.k
  ·exact .inl ⟨c,by rw[hTi,if_pos c]⟩
  ·rw[hne i hi' c]at h0;exact .inr ⟨c,by rw[hTi,if_neg c],h0,(h.col i hi').lt h0⟩
 refine⟨u,V1,V2,p1,hst,?_,⟨by omega,λb hb hn=>g2 b hb (λc=>hn (by rw[c];exact h.sk)) λhc c=>hn (by rw[c];exact(hT hc).1)⟩⟩;refine{up:=λb hb=>h.up b (by omega),mc:=(g2 _ h.ml (λc=>h.ne c.symm) λhc c=>(hT hc).2.1 c.symm).trans h.mc,ml:=by have:=h.ml;show d.M<V2.next;omega,kM:=h.kM,sc:=z1,sl:=by have:=h.sl;show d.SB<V2.next;omega,sk:=h.sk,ne:=h.ne,vk:=h.vk,kp:=h.kp,mn:=h.mn,ll:=by rw[List.length_append,List.length_singleton];exact hl,col:=?_,tk:=?_,tt:=?_,ho:=?_,al:=λi hi' b hb=>by have:=h.al i hi' b hb;omega,ak:=h.ak,am:=h.am,at_:=?_,aa:=h.aa,es:=h.es,w0:=?_,wk:=h.wk,secs:=h.secs}
 ·intro i hi';by_cases c:i=l.length % d.k
  ·show SlS V2 ((d.push (l.length % d.k) V.next u).T i) ((d.push (l.length % d.k) V.next u).tv i) (dO (l++[x]) d.k i);rw[hTi,htvi,if_pos c,if_pos c,hcol i hi',if_pos c.symm,c];exact p2.keep (by omega) λ_=>z0 _ (by have:=h.sl;omega)
  ·show SlS V2 ((d.push (l.length % d.k) V.next u).T i) ((d.push (l.length % d.k) V.next u).tv i) (dO (l++[x]) d.k i);rw[hTi,htvi,if_neg c,if_neg c,hne i hi' c];exact(h.col i hi').keep (by omega) λh0=>g2 _ ((h.col i hi').lt h0) (h.tk i hi' h0).2.2 λh1 e=>c (h.tt i _ hi' hi h0 h1 e)
 ·intro i hi' h0;rcases hTc i hi' h0 with⟨c,e⟩|⟨c,e,h1,h2⟩
  ·rw[e];exact⟨h.up _ (Nat.le_refl _),by have:=h.ml;show V.next≠d.M;omega,by have:=h.sl;show V.next≠d.SB;omega⟩
  ·rw[e];exact h.tk i hi' h1
 ·intro i j hi' hj h0 h1 ee;rcases hTc i hi' h0 with⟨c,e⟩|⟨c,e,h2,h3⟩<;>rcases hTc j hj h1 with⟨c',e'⟩|⟨c',e',h2',h3'⟩
  ·rw[c,c']
  ·rw[e,e']at ee;omega
  ·rw[e,e']at ee;omega
  ·rw[e,e']at ee;exact h.tt i j hi' hj h2 h2' ee
 ·intro i hi';exact(h.ho i hi').keep (by omega) (λb hb hx=>g2 b hb (h.am i hi' b hx).2 λh1 c=>h.at_ i _ hi' hi h1 (by rw[<-c];exact hx)) (λb _ hx=>hx)
 ·intro i j hi' hj h0 hb;rcases hTc j hj h0 with⟨c,e⟩|⟨c,e,h2,h3⟩
  ·rw[e]at hb;have:=h.al i hi' _ hb;omega
  ·rw[e]at hb;exact h.at_ i j hi' hj h2 hb
 ·refine⟨by have:=h.w0.next;show d.W0.next<=V2.next;omega,λb hb=>(g2 b (Nat.lt_of_lt_of_le hb h.w0.next) (λc=>?_) λhc c=>?_).trans (h.w0.get b hb)⟩
  ·exact absurd (h.wk _ h.sk) (by rw[<-c];exact Nat.not_le.2 hb)
  ·exact absurd (h.wk _ (hT hc).1) (by rw[<-c];exact Nat.not_le.2 hb)
end
theorem I7:∀{l:List Int},(∀n∈l,1<=n)->0<=iY l/\(l≠[]->1<=iY l)
 |[],_=>⟨Int.le_refl _,λh=>absurd rfl h⟩
 |a::l,h=>by have h1:=(I7 (l:=l) λn hn=>h n (List.mem_cons_of_mem _ hn)).1;have h2:=h a (List.mem_cons_self ..);have e:iY (a::l)=a+iY l:=rfl;rw[e];exact⟨by omega,λ_=>by omega⟩
theorem XK{v:Ven}(h:(sI v).2=0):1<=bW v.secs:=by
 obtain⟨g,-,h0,-⟩:=vK h;unfold bW;refine(I7 (l:=v.secs.map λs=>iY s.rows) λn hn=>?_).2 λc=>?_
 ·obtain⟨s,hs,rfl⟩:=List.mem_map.1 hn;obtain⟨r1,r2,r3⟩:=g.rows s hs;exact(I7 λn hn=>(r3 n hn).1).2 λc=>r1 (by rw[c];rfl)
 ·rw[List.map_eq_nil_iff]at c;rw[c]at h0;simp at h0
def NI(k:Nat)(hv:Nat->Value):List Value:=(List.range k).flatMap λi=>[hv i,.slice none 0 0]
theorem a15(hv:Nat->Value)(i:Nat):([hv i,.slice none 0 0]:List Value).length=2:=rfl
theorem a2z{k j:Nat}(hv:Nat->Value)(hj:j<k)(u:Value):(NI k hv).set (j*2) u=NI k λi=>if i=j then u else hv i:=by
 have hr:(List.range k)[j]? =some j:=List.getElem?_range hj;obtain⟨e1,e2⟩:=dW (f:=λi=>[hv i,.slice none 0 0]) (λi=>a15 hv i) hr;obtain⟨e3,-⟩:=dW (f:=λi=>[if i=j then u else hv i,.slice none 0 0]) (λi=>rfl) hr;have t1:∀xs:List Nat,(∀i∈xs,i≠j)->xs.flatMap (λi=>[if i=j then u else hv i,.slice none 0 0])=xs.flatMap λi=>[hv i,.slice none 0 0]:=λxs hx=>by
  rw[List.flatMap_def,List.flatMap_def];congr 1;refine List.map_congr_left λi hi=>?_
  simp only[hx i hi,if_false]
 have h1:∀i∈(List.range k).take j,i≠j:=λi hi e=>by obtain⟨m,hm,rfl⟩:=List.mem_iff_getElem.1 hi;rw[List.length_take,List.length_range]at hm;rw[List.getElem_take,List.getElem_range]at e;omega
 have h2:∀i∈(List.range k).drop (j+1),i≠j:=λi hi e=>by obtain⟨m,hm,rfl⟩:=List.mem_iff_getElem.1 hi;rw[List.getElem_drop,List.getElem_range]at e;omega
 unfold NI;rw[e3,t1 _ h1,t1 _ h2,e1,List.set_append_right _ _ (by rw[e2];omega),e2,Nat.sub_self];simp
theorem a7T:(Tryz.prog.info? 144).map (·.bytes)=some 32:=by kernel_rfl
theorem a6T:Tryz.prog.underlying 137=some (.slice 144):=by kernel_rfl
theorem a8B:lC Tryz.prog 144=some 2:=by kernel_rfl
theorem a7E:kK Tryz.prog 144=some (.agg #[.pointer none,.slice none 0 0]):=by kernel_rfl
theorem WJ:∀n:Nat,AL [.pointer none,.slice none 0 0] n=(List.replicate n ()).flatMap λ_=>[.pointer none,.slice none 0 0]
 |0=>rfl
 |n+1=>by show [.pointer none,.slice none 0 0]++AL [.pointer none,.slice none 0 0] n=_;rw[WJ n,List.replicate_succ,List.flatMap_cons]
theorem NN(n:Nat):AL [.pointer none,.slice none 0 0] n=NI n λ_=>.pointer none:=by
 rw[WJ];unfold NI;rw[List.flatMap_def,List.flatMap_def];congr 1;apply List.ext_getElem?;intro i;by_cases h:i<n
 ·simp[h]
 ·rw[List.getElem?_eq_none (by simp;omega),List.getElem?_eq_none (by simp;omega)]
theorem a6l{n:Nat}(h:n<=10000)(W:AW):p8 Tryz.prog 137 (.int .i64 (n:Int)) (.int .i64 (n:Int)) W=some (.slice (some ⟨W.next,0,none⟩) n n,W.add (.cells (NI n λ_=>.pointer none))):=by
 show p8 Tryz.prog 137 (.int .i64 (Int.ofNat n)) (.int .i64 (Int.ofNat n)) W=_;unfold p8;have e:=Q7 (z:=.agg #[.pointer none,.slice none 0 0]) (len:=n) (n:=2) rfl;have e2:(jD (.agg #[.pointer none,.slice none 0 0]) (n*2)).toList=NI n λ_=>.pointer none:=by rw[e];exact NN n
 have e3:(NI n λ_=>.pointer none).all bS=true:=by rw[<-NN];exact GU _ _ rfl n
 simp only[a6T,a8B,a7E,a7T];rw[e2,if_pos ⟨Nat.le_refl _,by omega,by omega,e3⟩]
theorem a6F(v:Ven)(B n c k b:Nat)(m:Int)(W:AW):iO Tryz.prog 139 [(0,tL v (.slice (some ⟨B,0,none⟩) n c)),(1,.int .i64 m),(2,.slice (some ⟨b,0,none⟩) k k)] W=some (.agg #[.int .i64 v.sh,.int .i64 v.ttl,.int .i64 v.ses,.slice (some ⟨B,0,none⟩) n c,.int .i64 m,.slice (some ⟨b,0,none⟩) k k],W):=Eq.trans (by kernel_rfl) rfl
theorem a7l{Wa W:AW}{v:Ven}{b B:Nat}{g:Nat->Value}{R:PlanTab.Fr}{K:LT->Option (Value×AW)}{G:Value×AW->Prop}(hn:v.secs.length<1000)(hr:∀s∈v.secs,s.rows.length<1000)(hle:Le Wa W)(hBa:Wa.next<=B)(hbl:b<W.next)(hne:b≠B)(hBl:B<W.next)
 (hb:W.get b=some (.cells [.int .i64 v.sh,.int .i64 v.ttl,.int .i64 v.ses,.slice (some ⟨B,0,none⟩) v.secs.length (bQ+3)]))(hB:W.get B=some (.cells ((List.range v.secs.length).flatMap (qE v.secs g))))(g2:∀i,i<v.secs.length->Ints Wa (g i) (wE v.secs i).rows)
 (r2:R 2=.pointer (some ⟨b,0,none⟩))(r40:R 40=.int .i64 (v.secs.length:Int))(r41:R 41=.int .i64 0)
 (hk:∀(R':PlanTab.Fr) (U:AW) (g':Nat->Value),R' 1=R 1->R' 2=.pointer (some ⟨b,0,none⟩)->R' 6=R 6->Le Wa U->W.next<=U.next->(∀c,c≠B->c<W.next->U.get c=W.get c)->U.get B=some (.cells ((List.range v.secs.length).flatMap (qE v.secs g')))->(∀i,i<v.secs.length->Ints U (g' i) (wE v.secs i).rows)->Ok (K (X.exit 1,R',U)) G):
 Ok (aB (cO (kG aL) R W) K) G:=by
 have g0:∀U:AW,(∀c,c≠B->c<W.next->U.get c=W.get c)->W.next<=U.next->Le Wa U:=λU h1 h2=>⟨by have:=hle.next;omega,λc hc=>(h1 c (by omega) (by have:=hle.next;omega)).trans (hle.get c hc)⟩
 refine bR v.secs.length (by omega) (λi Q U=>Q 1=R 1/\Q 2=.pointer (some ⟨b,0,none⟩)/\Q 6=R 6/\Q 40=.int .i64 (v.secs.length:Int)/\Q 41=.int .i64 (i:Int)/\W.next<=U.next/\(∀c,c≠B->c<W.next->U.get c=W.get c)/\
  ∃g':Nat->Value,U.get B=some (.cells ((List.range v.secs.length).flatMap (qE v.secs g')))/\(∀j,j<i->FI W.next U (g' j) (wE v.secs j).rows)/\∀j,i<=j->g' j=g j)
  (λr=>r.1=.exit 1/\r.2.1 1=R 1/\r.2.1 2=.pointer (some ⟨b,0,none⟩)/\r.2.1 6=R 6/\W.next<=r.2.2.next/\(∀c,c≠B->c<W.next->r.2.2.get c=W.get c)/\∃g':Nat->Value,r.2.2.get B=some (.cells ((List.range v.secs.length).flatMap (qE v.secs g')))/\∀j,j<v.secs.length->Ints r.2.2 (g' j) (wE v.secs j).rows)
  ⟨rfl,r2,rfl,r40,r41,Nat.le_refl _,λ_ _ _=>rfl,g,hB,λj hj=>by omega,λj _=>rfl⟩ ?_ ?_ ?_
 ·rintro i Q U hi ⟨q1,q2,q6,q40,q41,u1,u2,g',u3,u4,u5⟩;unfold kG;have t1:((i:Int)<(v.secs.length:Int)):=by omega
  have t2:=λW'=>bA (P:=Tryz.prog) (W:=W') (t:=3) (c:=false) (d:=true) (a:=(i:Int)) (b:=1) (by omega) (by omega)
  have e3:((i+1:Nat):Int)=(i:Int)+1:=by omega
  have ub:=(u2 b hne hbl).trans hb;have hl3:aR (.pointer (some ⟨b,3,none⟩)) U=some (.slice (some ⟨B,0,none⟩) v.secs.length (bQ+3),U):=lJ (dB ub) rfl;have ix:=λW' q=>nM (W:=W') (z:=3) (b:=B) (o:=0) (l:=v.secs.length) (c:=bQ+3) (i:=i) (k:=q) hi
  have lr:aR (.pointer (some ⟨B,i*3+1,none⟩)) U=some (g' i,U):=lJ (dB u3) (a00 hi);have hrow:Ints U (g' i) (wE v.secs i).rows:=by rw[u5 i (Nat.le_refl _)];exact(g2 i hi).mono (g0 U u2 u1)
  have hlr:(wE v.secs i).rows.length<=10000:=by rw[zP hi];have:=hr _ (List.getElem_mem hi);omega
  obtain⟨u,U1,k1,k2,k3⟩:=NZ hrow hlr;have n1:=k2.next;have hl3':aR (.pointer (some ⟨b,3,none⟩)) U1=some (.slice (some ⟨B,0,none⟩) v.secs.length (bQ+3),U1):=lJ (dB ((k2.get b (by omega)).trans ub)) rfl;have hB1:U1.get B=some (.cells ((List.range v.secs.length).flatMap (qE v.secs g'))):=(k2.get B (by omega)).trans u3;have hst:=YZ (b:=B) (o:=i*3+1) (v:=u) hB1 (by rw[aN (kF v.secs g'),List.length_range];omega) k3.one.1 k3.one.2;rw[a1O hi]at hst;simp only[SX,q2,q40,q41,t1,decide_true,Nat.zero_add,hl3,ix,lr,k1,hl3',IB,CY,Bool.and_true,hst,t2,aA];refine .inl ⟨trivial,q1,q2,q6,q40,by rw[e3];rfl,by rw[AW.put_next];omega,λc hc hcl=>by rw[AW.get_put_ne _ _ (λx=>hc x.symm),k2.get c (by omega)];exact u2 c hc hcl,_,AW.get_put _ _ _,λj hj=>?_,λj hj=>?_⟩
  ·by_cases c:j=i
   ·subst c;simp only[if_true];exact(FI.keep (W':=U1.put B _) k3 (Nat.le_refl _) λb' h1 h2=>AW.get_put_ne _ _ (by omega))|>λh=>by
     obtain⟨a,cc,e,hr⟩:=h;refine⟨a,cc,e,?_⟩;rcases hr with hr|⟨X,e1,e2,e3,e4⟩
     ·exact .inl hr
     ·exact .inr ⟨X,e1,by omega,e3,e4⟩
   ·simp only[c,if_false];exact(u4 j (by omega)).keep (by rw[AW.put_next];omega) λb' h1 h2=>by rw[AW.get_put_ne _ _ (by omega)];exact k2.get b' h2
  ·have:j≠i:=by omega
   simp only[this,if_false];exact u5 j (by omega)
 ·rintro Q U ⟨q1,q2,q6,q40,q41,u1,u2,g',u3,u4,u5⟩;unfold kG;have t1:¬((v.secs.length:Int)<(v.secs.length:Int)):=by omega
  simp only[SX,q40,q41,t1,decide_false,aA];exact⟨by simp,trivial,q1,q2,q6,u1,u2,g',u3,λj hj=>(u4 j hj).ints⟩
 ·rintro⟨q,Q,U⟩ ⟨rfl,q1,q2,q6,u1,u2,g',u3,u4⟩;exact hk Q U g' q1 q2 q6 (g0 U u2 u1) u1 u2 u3 u4
theorem a6y{W:AW}{M B k many:Nat}{R:PlanTab.Fr}{K:LT->Option (Value×AW)}{G:Value×AW->Prop}(hk16:k<=16)(hm:1<=many/\many<=4096)(hMl:M<W.next)(hBl:B<W.next)(hM:aR (.pointer (some ⟨M,5,none⟩)) W=some (.slice (some ⟨B,0,none⟩) k k,W))(hMg:∀U:AW,U.get M=W.get M->aR (.pointer (some ⟨M,5,none⟩)) U=some (.slice (some ⟨B,0,none⟩) k k,U))(hne:B≠M)(hB:W.get B=some (.cells (NI k λ_=>.pointer none)))
 (r6:R 6=.int .i64 (many:Int))(r9:R 9=mV M)(r68:R 68=.int .i64 (k:Int))(r69:R 69=.int .i64 0)
 (hk:∀(R':PlanTab.Fr) (U:AW) (H:Nat->Nat) (A:Nat->Nat->Prop) (s:Nat->St),R' 1=R 1->R' 2=R 2->R' 9=mV M->W.next<=U.next->(∀c,c≠B->c<W.next->U.get c=W.get c)->U.get B=some (.cells (NI k λi=>hP (H i)))->(∀i,i<k->HT U (A i) (H i) many (s i)/\(s i).es=[]/\(s i).nx=1/\∀b,A i b->W.next<=b/\b<U.next)->(∀i j,i<k->j<k->∀b,A i b->A j b->i=j)->Ok (K (X.exit 3,R',U)) G):
 Ok (aB (cO (kQ aL) R W) K) G:=by
 refine bR k (by omega) (λi Q U=>Q 1=R 1/\Q 2=R 2/\Q 6=.int .i64 (many:Int)/\Q 9=mV M/\Q 68=.int .i64 (k:Int)/\Q 69=.int .i64 (i:Int)/\W.next<=U.next/\(∀c,c≠B->c<W.next->U.get c=W.get c)/\
  ∃(H:Nat->Nat) (A:Nat->Nat->Prop) (s:Nat->St),U.get B=some (.cells (NI k λj=>if j<i then hP (H j)else .pointer none))/\(∀j,j<i->HT U (A j) (H j) many (s j)/\(s j).es=[]/\(s j).nx=1/\∀b,A j b->W.next<=b/\b<U.next)/\∀j m,j<i->m<i->∀b,A j b->A m b->j=m)
  (λr=>r.1=.exit 3/\r.2.1 1=R 1/\r.2.1 2=R 2/\r.2.1 9=mV M/\W.next<=r.2.2.next/\(∀c,c≠B->c<W.next->r.2.2.get c=W.get c)/\
    ∃(H:Nat->Nat) (A:Nat->Nat->Prop) (s:Nat->St),r.2.2.get B=some (.cells (NI k λi=>hP (H i)))/\(∀i,i<k->HT r.2.2 (A i) (H i) many (s i)/\(s i).es=[]/\(s i).nx=1/\∀b,A i b->W.next<=b/\b<r.2.2.next)/\∀i j,i<k->j<k->∀b,A i b->A j b->i=j)
  ⟨rfl,rfl,r6,r9,r68,r69,Nat.le_refl _,λ_ _ _=>rfl,λ_=>0,λ_ _=>False,λ_=>⟨0,0,0,0,0,λ_=>⟨0,0,(0,0)⟩⟩,by simpa using hB,λj hj=>by omega,λj m hj=>by omega⟩ ?_ ?_ ?_
 ·rintro i Q U hi ⟨q1,q2,q6,q9,q68,q69,u1,u2,H,A,s,u3,u4,u5⟩;unfold kQ;have t1:((i:Int)<(k:Int)):=by omega
  have t2:=λW'=>bA (P:=Tryz.prog) (W:=W') (t:=3) (c:=false) (d:=true) (a:=(i:Int)) (b:=1) (by omega) (by omega)
  have e3:((i+1:Nat):Int)=(i:Int)+1:=by omega
  obtain⟨U1,H1,q,mh,hm',f,k1,k2,k3⟩:=a3m (W:=U) (In:=λb=>U.next<=b) (s:=(many:Int)) ⟨by omega,by omega⟩ (λb hb=>hb);have n1:=k3.next;have hM1:aR (.pointer (some ⟨M,5,none⟩)) U1=some (.slice (some ⟨B,0,none⟩) k k,U1):=hMg U1 (by rw[k3.get M (by omega) (by omega)];exact u2 M (λc=>hne c.symm) hMl);have hB1:U1.get B=some (.cells (NI k λj=>if j<i then hP (H j)else .pointer none)):=(k3.get B (by omega) (by omega)).trans u3;have hst:=YZ (b:=B) (o:=i*2) (v:=hP H1) hB1 (by unfold NI;rw[aN (f:=λj=>[if j<i then hP (H j)else .pointer none,.slice none 0 0]) (z:=2) (λj=>rfl),List.length_range];omega) rfl rfl;rw[a2z _ hi]at hst;simp only[SX,q6,q9,q68,q69,t1,decide_true,k1,aI,Nat.zero_add,Nat.add_zero,hM1,a1a hi,hst,t2,aA];refine .inl ⟨trivial,q1,q2,q6,q9,q68,by rw[e3];rfl,by rw[AW.put_next];omega,λc hc hcl=>by rw[AW.get_put_ne _ _ (λx=>hc x.symm),k3.get c (by omega) (by omega)];exact u2 c hc hcl,λj=>if j=i then H1 else H j,λj b=>if j=i then U.next<=b/\b<U1.next else A j b,λj=>if j=i then⟨q,mh,hm',1,0,f⟩else s j,?_,λj hj=>?_,λj m hj hm b hb hb2=>?_⟩
  ·rw[AW.get_put];congr 3;funext j;by_cases c:j=i
   ·simp[c]
   ·by_cases c2:j<i
    ·simp[c,c2,show j<i+1 by omega]
    ·simp[c,c2,show¬j<i+1 by omega]
  ·by_cases c:j=i
   ·subst c;simp only[if_true];refine⟨k2.keep (Nat.le_refl _) (λb hb hx=>AW.get_put_ne _ _ (by omega)) (λb hb hx=>⟨hx,hb⟩),rfl,trivial,λb hb=>⟨by omega,hb.2⟩⟩
   ·simp only[c,if_false];obtain⟨x1,x2,x3,x4⟩:=u4 j (by omega);refine⟨x1.keep (by rw[AW.put_next];omega) (λb hb hx=>?_) (λb _ hx=>hx),x2,x3,λb hb=>⟨(x4 b hb).1,by have:=(x4 b hb).2;rw[AW.put_next];omega⟩⟩;have:=(x4 b hx).1;rw[AW.get_put_ne _ _ (by omega)];exact k3.get b hb (by omega)
  ·by_cases c:j=i<;>by_cases c2:m=i
   ·rw[c,c2]
   ·simp only[c,c2,if_true,if_false]at hb hb2;have:=(u4 m (by omega)).2.2.2 b hb2;omega
   ·simp only[c,c2,if_true,if_false]at hb hb2;have:=(u4 j (by omega)).2.2.2 b hb;omega
   ·simp only[c,c2,if_false]at hb hb2;exact u5 j m (by omega) (by omega) b hb hb2
 ·rintro Q U ⟨q1,q2,q6,q9,q68,q69,u1,u2,H,A,s,u3,u4,u5⟩;unfold kQ;have t1:¬((k:Int)<(k:Int)):=by omega
  simp only[SX,q68,q69,t1,decide_false,aA];refine⟨by simp,trivial,q1,q2,q9,u1,u2,H,A,s,?_,u4,u5⟩;rw[u3];congr 2;unfold NI;rw[List.flatMap_def,List.flatMap_def];congr 1;refine List.map_congr_left λj hj=>?_
  simp only[List.mem_range.1 hj,if_true]
 ·rintro⟨q,Q,U⟩ ⟨rfl,q1,q2,q9,u1,u2,H,A,s,u3,u4,u5⟩;exact hk Q U H A s q1 q2 q9 u1 u2 u3 u4 u5
theorem KG{l:List SeT}{x:SeT}{k:Nat}(i:Nat):fK (l++[x]) (pO k i)=fK l (pO k i)++(if l.length % k=i/\x.st=1 then [((l.length:Int),x.dl)]else []):=by
 rw[Y4];congr 1;by_cases c:l.length % k=i/\x.st=1
 ·rw[if_pos c,if_pos ⟨by simp[c.1],c.2⟩]
 ·rw[if_neg c,if_neg λh=>c ⟨by simpa using h.1,h.2⟩]
def Ld(K:Nat->Prop)(U:AW)(d:Md)(l:List SeT)(N:Int):Prop:=(∀i,i<d.k->(d.s i).nx<=N)/\MapP K U d l λi=>fK l (pO d.k i)
theorem X8{K:Nat->Prop}{U:AW}{d:Md}{l:List SeT}{N:Int}(h:Ld K U d l N)(hl:l.length<d.many)(hN:N<1000000){x:SeT}(hx:NL x=0){sv rv:Value}{b:Nat}
 (hrow:∃p,(∀W' q,jS 5 rv (.int q (l.length:Int)) W'=some (p,W'))/\jV 5 p U=some (GX x,U))(hb:∀W',Le U W'->aR (.pointer (some ⟨b,0,none⟩)) W'=some (.int .i64 (d.k:Int),W'))
 {R:PlanTab.Fr}{n:Nat}(hn:l.length<n)(r2:R 2=.pointer (some ⟨b,0,none⟩))(r9:R 9=mV d.M)(r86:R 86=rv)(r87:R 87=.int .i64 (n:Int))(r88:R 88=.int .i64 (l.length:Int)){G:LT->Prop}
 (hk:∀(R':PlanTab.Fr) (U':AW) (d':Md),R' 2=R 2->R' 9=R 9->R' 86=R 86->R' 87=R 87->R' 88=.int .i64 ((l.length+1:Nat):Int)->d'.M=d.M->d'.k=d.k->d'.many=d.many->d'.v=d.v->d'.W0=d.W0->Ld K U' d' (l++[x]) (N+1)->Gr U U' K->G (X.normal,R',U')):
 Ok (kY aL R U) G:=by
 obtain⟨hnx,hP'⟩:=h;have hmn:=hP'.mn;have hk0:0<d.k:=hP'.kp.1;have hi:=Nat.mod_lt l.length hk0;obtain⟨p,i1,i2⟩:=hrow;obtain⟨U0,U1,a1,a2,a3,a4,a5⟩:=a7O U x;have l2:Le U1 (U1.add (.cells (nI x))):=(Le.refl _).add _;have n2:(U1.add (.cells (nI x))).next=U1.next+1:=AW.add_next _ _;have g2:(U1.add (.cells (nI x))).get U1.next=some (.cells (nI x)):=AW.get_add _ _;have t1:((l.length:Int)<(n:Int)):=by omega
 have t2:=λW'=>bA (P:=Tryz.prog) (W:=W') (t:=3) (c:=false) (d:=true) (a:=(l.length:Int)) (b:=1) (by omega) (by omega)
 have e6:((l.length+1:Nat):Int)=(l.length:Int)+1:=by omega
 have p1:=hP'.le a3;have h1:=p1.h1 hi;unfold kY;simp only[SX,r86,r87,r88,t1,decide_true,i1,i2,a1,a2,r9,aI,Nat.zero_add,Nat.add_zero,p1.l5,r2,hb U1 a3,a6K l.length d.k hk0,a1a hi,h1,WC a5,a8F];generalize U1.add (.cells (nI x))=U2 at *;have p2:=hP'.shift (a3.trans l2);obtain⟨K1,hK1⟩:∃K1:Nat->Prop,K1=λb=>K b/\b<U.next\/U2.next<=b:=⟨_,rfl⟩
 rw[<-hK1]at p2;have hK:∀b,K1 b->K b:=λb hb=>by
  rw[hK1]at hb;rcases hb with hb|hb
  ·exact hb.1
  ·exact hP'.up b (by omega)
 have hKn:¬K1 U.next:=λhb=>by rw[hK1]at hb;rcases hb with hb|hb<;>omega
 obtain⟨u,V1,V2,q1,q2,q3,q4⟩:=p2.push hl (b:=U1.next) (c:=1) (aZ g2);have bx:V2.get U.next=some (.cells (nI x)):=by rw[q4.get _ (by omega) hKn,l2.get _ (by omega)];exact a5
 have gr0:Gr U U2 K:=Le.gr (a3.trans l2) K;have hpush_s:∀i,(d.push (l.length % d.k) U2.next u).s i=d.s i:=λi=>rfl
 by_cases c:x.st=1;case neg=>have dc:=decide_eq_false c;simp only[SX,q1,q2,qI bx,dc,t2,aA];refine hk _ V2 (d.push (l.length % d.k) U2.next u) rfl rfl rfl rfl (by rw[e6];rfl) rfl rfl rfl rfl rfl ⟨λi hi'=>by rw[hpush_s];have:=hnx i hi';omega,?_⟩ (gr0.trans (q4.mono hK));refine(q3.ent λi hi'=>?_).weak hK hP'.wk;rw[KG,if_neg (λh=>c h.2),List.append_nil];exact .refl _
 have dc:=decide_eq_true c;have hdl:0<=x.dl:=by rw[a1H c]at hx;split at hx<;>omega
 obtain⟨V3,s',w1,w2,w3,f1,f2,f3,f4,f5⟩:=XL (p:=((l.length:Int),x.dl)) q3 (i:=l.length % d.k) hi (λz hz=>by obtain⟨j,j1,-,-,rfl⟩:=nG.1 hz;show((j:Nat):Int)≠(l.length:Int);omega) ⟨by show(0:Int)<=(l.length:Int);omega,by show(l.length:Int)<(d.many:Int);omega,hdl⟩ (Nat.le_trans (qJ _ _) (by omega)) (by rw[hpush_s];have:=hnx _ hi;omega);have h02:aR (.pointer (some ⟨d.SB,l.length % d.k*2,none⟩)) V2=some (hP (d.H (l.length % d.k)),V2):=q3.h0 hi;have w1':aL (.func (.func 74) #[] #[]) [hP (d.H (l.length % d.k)),.int .i64 (l.length:Int),.int .i64 x.dl] V2=some (.int .i64 0,V3):=w1;simp only[SX,q1,q2,qI bx,dc,h02,rM bx,w1',t2,aA];refine hk _ V3 ((d.push (l.length % d.k) U2.next u).on (l.length % d.k) V2 V3 s') rfl rfl rfl rfl (by rw[e6];rfl) rfl rfl rfl rfl rfl ⟨λi hi'=>?_,?_⟩ (gr0.trans ((q4.mono hK).trans (w3.mono hK)))
 ·rw[a8G];split
  ·rw[f4,hpush_s];have:=hnx _ hi;omega
  ·rw[hpush_s];have:=hnx i hi';omega
 ·refine(w2.ent λi hi'=>?_).weak hK hP'.wk;rw[KG];by_cases ci:i=l.length % d.k
  ·rw[if_pos ci,if_pos ⟨ci.symm,c⟩,ci];exact(List.perm_append_singleton _ _).symm
  ·rw[if_neg ci,if_neg (λh=>ci h.1.symm),List.append_nil];exact .refl _
section
variable {W:AW} {v:Ven} {sv rv:Value} {l:List SeT}
theorem ZB(hs:SecsC W sv v.secs)(hv:v.secs.length<1000)(hrow:SeL W rv l)(hl:l.length<=10000):
 (oH v l≠0->aL (.func (.func 17) #[] #[]) [tL v sv,rv] W=some (.tuple #[.pointer none,.int .i64 (oH v l)],W))/\(oH v l=0->∃M W',∃W0:AW,∃k:Nat,aL (.func (.func 17) #[] #[]) [tL v sv,rv] W=some (.tuple #[mV M,.int .i64 0],W')/\Le W W0/\Le W W'/\v.sh=(k:Int)/\MapS (λb=>W0.next<=b) W' M k l.length v W0 10001 l):=by
 obtain⟨W1,k1,k2,k3,k4⟩:=L8 v sv W;have hse:=a0e (hs.mono k2) hv;have hco:=PG (hrow.mono k2) hl;by_cases c1:(jB v).2=0;case neg=>
  have e:oH v l=(jB v).2:=by unfold oH;rw[if_pos c1]
  have d1:=decide_eq_false c1;refine⟨λ_=>aT rfl ?_ kJ,λx=>by rw[e]at x;exact absurd x c1⟩;unfold jQ;simp only[SX,k1,D8 k4,hse,d1,aA];exact⟨by rw[e],k2⟩
 have d1:=decide_eq_true c1;by_cases c2:(l.length:Int)=(jB v).1;case neg=>
  have e:oH v l=6:=by unfold oH;rw[if_neg (λx=>x c1),if_pos c2]
  have d2:=decide_eq_false c2;refine⟨λ_=>aT rfl ?_ kJ,λx=>by omega⟩;unfold jQ;simp only[SX,IQ,IM,k1,D8 k4,hse,d1,hrow.len uE,d2,aA];exact⟨by rw[e],k2⟩
 have d2:=decide_eq_true c2;have e0:oH v l=if UH l=true then 6 else 0:=by unfold oH;rw[if_neg (λx=>x c1),if_neg (λx=>x c2)]
 cases hbd:UH l with
 |true=>
  have e:oH v l=6:=by rw[e0,if_pos hbd]
  rw[hbd]at hco;refine⟨λ_=>aT rfl ?_ kJ,λx=>by omega⟩;unfold jQ;simp only[SX,IQ,IM,k1,D8 k4,hse,d1,hrow.len uE,d2,hco,aA];exact⟨by rw[e],k2⟩
 |false=>
  have e:oH v l=0:=by rw[e0,hbd];rfl
  rw[hbd]at hco;refine⟨λx=>absurd e x,λ_=>?_⟩;obtain⟨hve,htot,hok,hl4,hsh⟩:=a1l e;have htp:=XK hve;obtain⟨gd,-,hse0,-⟩:=vK hve;have hne:v.secs≠[]:=λc=>by rw[c]at hse0;simp at hse0
  have hr:∀s∈v.secs,s.rows.length<1000:=λs hs'=>by have:=(gd.rows s hs').2.1;omega
  obtain⟨k,hk⟩:∃k:Nat,v.sh=(k:Int):=⟨v.sh.toNat,by omega⟩;have hse':(jB v).1=(l.length:Int):=c2.symm;obtain⟨B,W2,g,a1,a2,a3,a4,a5,a6,a7⟩:=QI hs k2 hne (by omega);have g2:W2.get W.next=some (.cells [.int .i64 v.sh,.int .i64 v.ttl,.int .i64 v.ses,sv]):=(a2.get _ (by omega)).trans k4;have hl3:aR (.pointer (some ⟨W.next,3,none⟩)) W1=some (sv,W1):=lJ (dB k4) rfl;have hst3:=YZ (b:=W.next) (o:=3) (v:=.slice (some ⟨B,0,none⟩) v.secs.length (bQ+3)) g2 (by show 3<4;omega) rfl rfl;have hst3':mY 1 (.pointer (some ⟨W.next,3,none⟩)) (.slice (some ⟨B,0,none⟩) v.secs.length (bQ+3)) W2=some (undef,W2.put W.next (.cells [.int .i64 v.sh,.int .i64 v.ttl,.int .i64 v.ses,.slice (some ⟨B,0,none⟩) v.secs.length (bQ+3)])):=hst3;have main:Ok (jQ aL (tL v sv) rv W) λr=>∃M,∃W0:AW,r.1=.tuple #[mV M,.int .i64 0]/\Le W W0/\Le W r.2/\MapS (λb=>W0.next<=b) r.2 M k l.length v W0 10001 l:=by
   unfold jQ;obtain⟨W3,hW3⟩:∃W3,W3=W2.put W.next (.cells [.int .i64 v.sh,.int .i64 v.ttl,.int .i64 v.ses,.slice (some ⟨B,0,none⟩) v.secs.length (bQ+3)]):=⟨_,rfl⟩;rw[<-hW3]at hst3';have n2:=a2.next;have z1:W3.get W.next=some (.cells [.int .i64 v.sh,.int .i64 v.ttl,.int .i64 v.ses,.slice (some ⟨B,0,none⟩) v.secs.length (bQ+3)]):=by rw[hW3];exact AW.get_put _ _ _
   have z0:∀b,b≠W.next->W3.get b=W2.get b:=λb hb=>by rw[hW3];exact AW.get_put_ne _ _ λx=>hb x.symm
   have n3:W3.next=W2.next:=by rw[hW3];rfl
   have hl33:aR (.pointer (some ⟨W.next,3,none⟩)) W3=some (.slice (some ⟨B,0,none⟩) v.secs.length (bQ+3),W3):=lJ (dB z1) rfl;have l03:Le W W3:=⟨by omega,λb hb=>by rw[z0 b (by omega),a2.get b (by omega)];exact k2.get b hb⟩;simp only[SX,IQ,IM,k1,D8 k4,hse,d1,hrow.len uE,d2,hco,Nat.zero_add,hl3,a1,hst3',hl33,iA CB];refine a7l (Wa:=W) (W:=W3) (b:=W.next) (B:=B) (g:=g) hv hr l03 (by omega) (by omega) (by omega) (by omega) z1 ((z0 B (by omega)).trans a5) a7 rfl rfl rfl λR' U g' r1 r2 r6 u0 u1 u2 u3 u4=>?_
   have ub:=(u2 W.next (by omega) (by omega)).trans z1;have l0k:∀Z:AW,Le U Z->aR (.pointer (some ⟨W.next,0,none⟩)) Z=some (.int .i64 (k:Int),Z):=λZ hZ=>by rw[<-hk];exact lJ (dB ((hZ.get _ (by omega)).trans ub)) rfl
   have r1':R' 1=rv:=r1;have r6':R' 6=.int .i64 (l.length:Int):=by rw[r6,<-hse'];rfl
   have hk16:k<=16:=by omega
   have hsecs:=a0c u3 (by omega) u4;simp only[SX,r2,D8 ub,r6',l0k U (Le.refl _),a6l (show k<=10000 by omega),a6F,fH];obtain⟨U2,hU2⟩:∃U2,U2=(U.add (.cells (NI k λ_=>.pointer none))).add (.cells [.int .i64 v.sh,.int .i64 v.ttl,.int .i64 v.ses,.slice (some ⟨B,0,none⟩) v.secs.length (bQ+3),.int .i64 (l.length:Int),.slice (some ⟨U.next,0,none⟩) k k]):=⟨_,rfl⟩;have m1:(U.add (.cells (NI k λ_=>.pointer none))).next=U.next+1:=AW.add_next _ _;have m2:U2.next=U.next+2:=by rw[hU2,AW.add_next,m1]
   have y1:U2.get (U.next+1)=some (.cells [.int .i64 v.sh,.int .i64 v.ttl,.int .i64 v.ses,.slice (some ⟨B,0,none⟩) v.secs.length (bQ+3),.int .i64 (l.length:Int),.slice (some ⟨U.next,0,none⟩) k k]):=by rw[hU2,<-m1];exact AW.get_add _ _
   have y0:U2.get U.next=some (.cells (NI k λ_=>.pointer none)):=by rw[hU2,AW.get_add_ne _ _ (by rw[m1];omega)];exact AW.get_add _ _
   have leU:Le U U2:=by rw[hU2];exact((Le.refl _).add _).add _
   have hM5:∀Z:AW,Z.get (U.next+1)=U2.get (U.next+1)->aR (.pointer (some ⟨U.next+1,5,none⟩)) Z=some (.slice (some ⟨U.next,0,none⟩) k k,Z):=λZ hZ=>lJ (dB (hZ.trans y1)) rfl
   have hva:(#[.int .i64 v.sh,.int .i64 v.ttl,.int .i64 v.ses,.slice (some ⟨B,0,none⟩) v.secs.length (bQ+3),.int .i64 (l.length:Int),.slice (some ⟨U.next,0,none⟩) k k]:Array Value).toList=[.int .i64 v.sh,.int .i64 v.ttl,.int .i64 v.ses,.slice (some ⟨B,0,none⟩) v.secs.length (bQ+3),.int .i64 (l.length:Int),.slice (some ⟨U.next,0,none⟩) k k]:=rfl;simp only[SX,hva,<-hU2,m1,aI,Nat.zero_add,hM5 U2 rfl,KU];refine a6y (W:=U2) (M:=U.next+1) (B:=U.next) (k:=k) (many:=l.length) hk16 ⟨by omega,by omega⟩ (by omega) (by omega) (hM5 U2 rfl) (λZ hZ=>hM5 Z hZ) (by omega) y0 (by exact r6') (by rfl) (by rfl) (by rfl) λQ U3 H A s q1 q2 q9 v1 v2 v3 v4 v5=>?_
   have q1':Q 1=rv:=q1.trans r1';have q2':Q 2=.pointer (some ⟨W.next,0,none⟩):=q2.trans r2;simp only[SX,q1',hrow.len uE];have le3:Le U U3:=⟨by omega,λb hb=>(v2 b (by omega) (by omega)).trans (leU.get b hb)⟩;have cnil:∀i,i<k->dO [] k i=[]:=λi hi=>by apply List.eq_nil_of_length_eq_zero;rw[eP];show(0+k-1-i)/k=0;exact Nat.div_eq_of_lt (by omega)
   let d0:Md:=⟨U.next+1,U.next,k,l.length,v,.slice (some ⟨B,0,none⟩) v.secs.length (bQ+3),U,λ_=>0,H,λ_=>.slice none 0 0,A,s⟩;have hp0:MapP (λb=>U.next<=b) U3 d0 [] (λi=>fK [] (pO k i)):=
    {up:=λb hb=>by show U.next<=b;omega,mc:=(v2 (U.next+1) (by omega) (by omega)).trans y1,ml:=by show U.next+1<U3.next;omega,kM:=by show U.next<=U.next+1;omega,sc:=v3,sl:=by show U.next<U3.next;omega,sk:=Nat.le_refl _,ne:=by show U.next≠U.next+1;omega,vk:=hk,kp:=⟨by show 1<=k;omega,hk16⟩,mn:=hl4,ll:=by show 0<=l.length;omega
     col:=λi hi=>.inl ⟨cnil i hi,rfl⟩,tk:=λi hi h0=>absurd (cnil i hi) h0,tt:=λi j hi hj h0=>absurd (cnil i hi) h0,ho:=λi hi=>(v4 i hi).1,al:=λi hi b hb=>((v4 i hi).2.2.2 b hb).2,ak:=λi hi b hb=>by show U.next<=b;have:=((v4 i hi).2.2.2 b hb).1;omega,am:=λi hi b hb=>by have:=((v4 i hi).2.2.2 b hb).1;exact⟨by show b≠U.next+1;omega,by show b≠U.next;omega⟩
     at_:=λi j hi hj h0=>absurd (cnil j hj) h0,aa:=λi j hi hj b h1 h2=>v5 i j hi hj b h1 h2,es:=λi hi=>by rw[show(d0.s i).es=[]from(v4 i hi).2.1];exact .refl _,w0:=le3,wk:=λb hb=>hb,secs:=hsecs}
   refine bR l.length (by omega) (λi Q Z=>Q 2=.pointer (some ⟨W.next,0,none⟩)/\Q 9=mV (U.next+1)/\Q 86=rv/\Q 87=.int .i64 (l.length:Int)/\Q 88=.int .i64 (i:Int)/\∃d:Md,d.M=U.next+1/\d.k=k/\d.many=l.length/\d.v=v/\d.W0=U/\Ld (λb=>U.next<=b) Z d (l.take i) (1+(i:Int)))
    (λr=>r.1=.exit 5/\r.2.1 9=mV (U.next+1)/\∃d:Md,d.M=U.next+1/\d.k=k/\d.many=l.length/\d.v=v/\d.W0=U/\Ld (λb=>U.next<=b) r.2.2 d l (1+(l.length:Int)))
    ⟨q2',q9,rfl,rfl,rfl,d0,rfl,rfl,rfl,rfl,rfl,λi hi=>by rw[show(d0.s i).nx=1 from(v4 i hi).2.2.1];decide,by rw[List.take_zero];exact hp0⟩ ?_ ?_ ?_
   ·rintro i Q' Z hi ⟨w2,w9,w86,w87,w88,d,x1,x2,x3,x4,x5,x6⟩;have hti:(l.take i).length=i:=by rw[List.length_take];omega
    have hZ:Le U Z:=by have:=x6.2.w0;rw[x5]at this;exact this
    obtain⟨b,o,-,i1,i3,-⟩:=SeL.get hrow (List.getElem?_eq_getElem hi);refine X8 (K:=λb=>U.next<=b) (sv:=sv) (rv:=rv) (b:=W.next) (x:=l[i]) (n:=l.length) x6 (by omega) (by omega) (hok _ (List.getElem_mem hi)) ⟨_,by rw[hti];exact i1,i3 Z (u0.trans hZ)⟩ (λW' hW'=>by rw[x2];exact l0k W' (hZ.trans hW')) (by omega) w2 (by rw[x1];exact w9) w86 w87 (by rw[hti];exact w88) λQ2 Z2 d2 e2 e9 e86 e87 e88 y1 y2 y3 y4 y5 y6 y7=>?_
    refine .inl ⟨rfl,e2.trans w2,e9.trans w9,e86.trans w86,e87.trans w87,by show Q2 88=_;rw[e88,hti],d2,y1.trans x1,y2.trans x2,y3.trans x3,y4.trans x4,y5.trans x5,?_⟩;rw[List.take_succ_eq_append_getElem hi,show((i+1:Nat):Int)=(i:Int)+1 by omega,<-Int.add_assoc];exact y6
   ·rintro Q' Z ⟨w2,w9,w86,w87,w88,d,x1,x2,x3,x4,x5,x6⟩;unfold kY;have t1:¬((l.length:Int)<(l.length:Int)):=by omega
    rw[List.take_length]at x6;simp only[SX,w87,w88,t1,decide_false,aA];exact⟨by simp,trivial,w9,d,x1,x2,x3,x4,x5,x6⟩
   ·rintro⟨q,Q',Z⟩ ⟨rfl,w9,d,x1,x2,x3,x4,x5,x6⟩;simp only at w9 x6;simp only[SX,w9,aA];have hZ:Le U Z:=by have:=x6.2.w0;rw[x5]at this;exact this
    refine⟨U.next+1,U,rfl,u0,u0.trans hZ,d,x1,x2,x3,x4,x5,λi hi=>?_,rfl,hok,?_⟩
    ·have:=x6.1 i (by rw[x2];exact hi);omega
    ·have:=x6.2;rw[x2]at this;exact this
  obtain⟨⟨r,W'⟩,h1,M,W0,h2,h3,h4,h5⟩:=main;simp only at h2 h4 h5;subst h2;exact⟨M,W',W0,k,by rw[kJ h1,fD rfl],h3,h4,hk,h5⟩
end
theorem MapP.keep{K:Nat->Prop}{V V':AW}{d:Md}{l:List SeT}{e:Nat->List (Int×Int)}(h:MapP K V d l e)(hn:V.next<=V'.next)(g:∀b,b<V.next->K b->V'.get b=V.get b)(hw:Le d.W0 V'):MapP K V' d l e:=
 {h with up:=λb hb=>h.up b (by omega),mc:=(g _ h.ml h.kM).trans h.mc,ml:=by have:=h.ml;omega,sc:=(g _ h.sl h.sk).trans h.sc,sl:=by have:=h.sl;omega
         col:=λi hi=>(h.col i hi).keep hn λh0=>g _ ((h.col i hi).lt h0) (h.tk i hi h0).1,ho:=λi hi=>(h.ho i hi).keep hn (λb hb hx=>g b hb (h.ak i hi b hx)) (λb _ hx=>hx)
         al:=λi hi b hb=>by have:=h.al i hi b hb;omega
         w0:=hw}
theorem MapS.keep{K:Nat->Prop}{V V':AW}{M k many:Nat}{v:Ven}{W0:AW}{N:Int}{l:List SeT}(h:MapS K V M k many v W0 N l)(hn:V.next<=V'.next)(g:∀b,b<V.next->K b->V'.get b=V.get b)(hw:Le W0 V'):MapS K V' M k many v W0 N l:=by obtain⟨d,a,b,c,e,rfl,f,i,j,p⟩:=h;exact⟨d,a,b,c,e,rfl,f,i,j,p.keep hn g hw⟩
theorem MapS.w0{K:Nat->Prop}{V:AW}{M k many:Nat}{v:Ven}{W0:AW}{N:Int}{l:List SeT}(h:MapS K V M k many v W0 N l):Le W0 V:=by obtain⟨d,a,b,c,e,rfl,f,i,j,p⟩:=h;exact p.w0
theorem a5K(a b:Int)(W:AW):aF Tryz.prog .max #[3,3] 3 #[false,true] [.int .i64 a,.int .i64 b] W=some (.int .i64 (max a b),W):=by
 have e:aF Tryz.prog .max #[3,3] 3 #[false,true] [.int .i64 a,.int .i64 b] W=(lM Tryz.prog ([Value.int .i64 a,.int .i64 b].all aU) (builtin .max #[3,3] 3 #[false,true] #[.int .i64 a,.int .i64 b])).map λv=>(v,W):=by unfold aF;rfl
 rw[e];have e2:builtin .max #[3,3] 3 #[false,true] #[.int .i64 a,.int .i64 b]=(do pure (.value (<-Builtin.max_ #[3,3] 3 #[.int .i64 a,.int .i64 b]))):=rfl;rw[e2];refine K8 ?_ rfl _ rfl;unfold Builtin.max_;simp only[List.foldlM_cons,List.foldlM_nil,dH,Builtin.max2,eB,Option.bind_some];congr 2;split<;>omega
theorem a5L(a b:Int)(W:AW):aF Tryz.prog .min #[3,3] 3 #[false,true] [.int .i64 a,.int .i64 b] W=some (.int .i64 (min a b),W):=by
 have e:aF Tryz.prog .min #[3,3] 3 #[false,true] [.int .i64 a,.int .i64 b] W=(lM Tryz.prog ([Value.int .i64 a,.int .i64 b].all aU) (builtin .min #[3,3] 3 #[false,true] #[.int .i64 a,.int .i64 b])).map λv=>(v,W):=by unfold aF;rfl
 rw[e];have e2:builtin .min #[3,3] 3 #[false,true] #[.int .i64 a,.int .i64 b]=(do pure (.value (<-Builtin.min_ #[3,3] 3 #[.int .i64 a,.int .i64 b]))):=rfl;rw[e2];refine K8 ?_ rfl _ rfl;unfold Builtin.min_;simp only[List.foldlM_cons,List.foldlM_nil,dH,Builtin.min2,eB,Option.bind_some];congr 2;split<;>omega
theorem a2J(s:ByteArray)(W:AW):∃n:Int,aF Tryz.prog .len #[9] 3 #[false] [.string s] W=some (.int .i64 n,W):=⟨_,rfl⟩
theorem FC:((#[69]:Array TypeId)[0]?).bind Tryz.prog.underlying=some (.slice 3):=by kernel_rfl
theorem a5Q(W:AW):∃V,dP Tryz.prog 130 W=some (.pointer (some ⟨W.next,0,none⟩),V)/\Le W V/\V.next=W.next+1/\V.get W.next=some (.cells [.string (aJ []),.slice none 0 0,.int .i64 0]):=⟨_,a4l W,(Le.refl _).add _,AW.add_next _ _,AW.get_add _ _⟩
def a3u(v:Ven)(l:List SeT):Prop:=v.secs.length<=10/\l.length<=100/\∀s∈v.secs,s.rows.length<=20
theorem a4o{W:AW}{v:Ven}{sv rv:Value}{l:List SeT}(hs:Secs W sv v.secs)(hr:SeL W rv l):∃c:Bool,aL (.func (.func 15) #[] #[]) [tL v sv,rv] W=some (.bool c,W)/\(c=false->a3u v l):=by
 have main:Ok (C9 aL (tL v sv) rv W) λr=>∃c:Bool,r.1=.bool c/\Le W r.2/\(c=false->a3u v l):=by
  unfold C9;obtain⟨W1,k1,k2,k3,k4⟩:=L8 v sv W;have c3:∀U,Le W1 U->aR (.pointer (some ⟨W.next,3,none⟩)) U=some (sv,U):=λU hU=>lJ (dB ((hU.get _ (by omega)).trans k4)) rfl
  by_cases h10:10<(v.secs.length:Int)
  ·have d1:=decide_eq_true h10;simp only[SX,IQ,IM,k1,c3 W1 (Le.refl _),hs.len CB,d1,aA];exact⟨_,rfl,k2,λx=>by cases x⟩
  have d1:=decide_eq_false h10;by_cases h100:100<(l.length:Int)
  ·have d2:=decide_eq_true h100;simp only[SX,IQ,IM,k1,Nat.zero_add,c3 W1 (Le.refl _),hs.len CB,d1,hr.len uE,d2,aA];exact⟨_,rfl,k2,λx=>by cases x⟩
  have d2:=decide_eq_false h100;simp only[SX,IQ,IM,k1,Nat.zero_add,c3 W1 (Le.refl _),hs.len CB,d1,hr.len uE,d2];refine bR v.secs.length (by omega) (λi R U=>Le W1 U/\R 2=.pointer (some ⟨W.next,0,none⟩)/\R 6=.int .i64 (i:Int)/\(∀j (hj:j<v.secs.length),j<i->v.secs[j].rows.length<=20)/\∃n:Int,R 5=.int .i64 n/\0<=n/\n<=(i:Int)*2000)
   (λr=>Le W1 r.2.2/\((r.1=.exit 0/\(∀s∈v.secs,s.rows.length<=20)/\∃n:Int,r.2.1 5=.int .i64 n)\/(r.1=.ret/\r.2.1 4=.bool true))) ⟨Le.refl _,rfl,rfl,λj hj hx=>by omega,0,rfl,by omega,by omega⟩ ?_ ?_ ?_
  ·rintro i R U hi ⟨u1,r2,r6,hsm,n,r5,n0,n1⟩;unfold rR;have t1:((i:Int)<(v.secs.length:Int)):=by omega
   have t2:=λW'=>bA (P:=Tryz.prog) (W:=W') (t:=3) (c:=false) (d:=true) (a:=(i:Int)) (b:=1) (by omega) (by omega)
   have e3:((i+1:Nat):Int)=(i:Int)+1:=by omega
   obtain⟨b,o,rv',i1,i2,i3,-⟩:=Secs.get hs hi;obtain⟨U1,a1,a2,a3,a4⟩:=a5Q U;have hst:=H5 (n:=3) (o:=0) (v:=QB v.secs[i] rv') a4 rfl (Nat.le_refl _) (by show(true&&(Eng.one rv'&&(true&&true)))=true;obtain⟨a,c,rfl,-⟩:=i2;rfl);have hst':mY 3 (.pointer (some ⟨U.next,0,none⟩)) (QB v.secs[i] rv') U1=some (undef,U1.put U.next (.cells [.string (aJ v.secs[i].name),rv',.int .i64 v.secs[i].q])):=hst;obtain⟨U2,hU2⟩:∃U2,U2=U1.put U.next (.cells [.string (aJ v.secs[i].name),rv',.int .i64 v.secs[i].q]):=⟨_,rfl⟩;rw[<-hU2]at hst';have l2:Le U U2:=by rw[hU2];exact a2.put (Nat.le_refl _) _
   have n2:U2.next=U.next+1:=by rw[hU2];exact a3
   have g2:U2.get U.next=some (.cells [.string (aJ v.secs[i].name),rv',.int .i64 v.secs[i].q]):=by rw[hU2];exact AW.get_put _ _ _
   have x0:aR (.pointer (some ⟨U.next,0,none⟩)) U2=some (.string (aJ v.secs[i].name),U2):=lJ (dB g2) rfl;have x1:∀Z,Le U2 Z->aR (.pointer (some ⟨U.next,1,none⟩)) Z=some (rv',Z):=λZ hZ=>lJ (dB ((hZ.get _ (by omega)).trans g2)) rfl
   obtain⟨m,hm⟩:=a2J (aJ v.secs[i].name) U2;have hWU:=k2.trans u1;by_cases c20:20<(v.secs[i].rows.length:Int)
   ·have d3:=decide_eq_true c20;simp only[SX,IQ,IM,r2,r6,Nat.zero_add,c3 U u1,hs.len CB,t1,decide_true,i1,i3 U hWU,a1,hst',x1 U2 (Le.refl _),i2.len FC,d3,aA];exact .inr ⟨by simp,u1.trans l2,.inr ⟨trivial,rfl⟩⟩
   have d3:=decide_eq_false c20;cases d4:decide (100<m)with
   |true=>simp only[SX,IQ,IM,r2,r6,Nat.zero_add,c3 U u1,hs.len CB,t1,decide_true,i1,i3 U hWU,a1,hst',x1 U2 (Le.refl _),i2.len FC,d3,x0,hm,d4,aA];exact .inr ⟨by simp,u1.trans l2,.inr ⟨trivial,rfl⟩⟩
   |false=>
    simp only[SX,IQ,IM,r2,r6,Nat.zero_add,c3 U u1,hs.len CB,t1,decide_true,i1,i3 U hWU,a1,hst',x1 U2 (Le.refl _),i2.len FC,d3,x0,hm,d4];refine bR v.secs[i].rows.length (by omega) (λj Q Z=>Z=U2/\Q 2=.pointer (some ⟨W.next,0,none⟩)/\Q 6=.int .i64 (i:Int)/\Q 7=.pointer (some ⟨U.next,0,none⟩)/\Q 8=.int .i64 (j:Int)/\∃n:Int,Q 5=.int .i64 n/\0<=n/\n<=(i:Int)*2000+(j:Int)*100)
     (λr=>r.1=.exit 2/\r.2.2=U2/\r.2.1 2=.pointer (some ⟨W.next,0,none⟩)/\r.2.1 6=.int .i64 (i:Int)/\∃n:Int,r.2.1 5=.int .i64 n/\0<=n/\n<=(i:Int)*2000+2000) ⟨rfl,r2,r6,rfl,rfl,n,r5,n0,by omega⟩ ?_ ?_ ?_
    ·rintro j Q Z hj ⟨rfl,q2,q6,q7,q8,n',q5,m0,m1⟩;unfold nK;have t3:((j:Int)<(v.secs[i].rows.length:Int)):=by omega
     have t4:=λW'=>bA (P:=Tryz.prog) (W:=W') (t:=3) (c:=false) (d:=true) (a:=(j:Int)) (b:=1) (by omega) (by omega)
     have e4:((j+1:Nat):Int)=(j:Int)+1:=by omega
     obtain⟨p0,y1,y2⟩:=i2.get hj;generalize v.secs[i].rows[j]=y at *;have hz:0<=min (max y 0) 100/\min (max y 0) 100<=100:=by omega
     have t5:=λW'=>bA (P:=Tryz.prog) (W:=W') (t:=3) (c:=false) (d:=false) (a:=n') (b:=min (max y 0) 100) (by omega) (by omega)
     simp only[SX,q5,q7,q8,x1 Z (Le.refl _),Nat.zero_add,i2.len FC,t3,decide_true,y1,y2 Z (hWU.trans l2),a5K,a5L,t5,t4,aA];exact .inl ⟨trivial,trivial,q2,q6,q7,by rw[e4];rfl,_,rfl,by omega,by omega⟩
    ·rintro Q Z ⟨rfl,q2,q6,q7,q8,n',q5,m0,m1⟩;unfold nK;have t3:¬((v.secs[i].rows.length:Int)<(v.secs[i].rows.length:Int)):=by omega
     simp only[SX,q7,q8,x1 Z (Le.refl _),Nat.zero_add,i2.len FC,t3,decide_false,aA];exact⟨by simp,trivial,trivial,q2,q6,n',q5,m0,by omega⟩
    ·rintro⟨q,Q,Z⟩ ⟨rfl,rfl,q2,q6,n',q5,m0,m1⟩;simp only at q2 q6 q5;simp only[SX,q6,t2,aA];refine .inl ⟨trivial,u1.trans l2,q2,by rw[e3];rfl,λj hj hx=>?_,n',q5,m0,by omega⟩;by_cases c:j=i
     ·subst c;omega
     ·exact hsm j hj (by omega)
  ·rintro R U ⟨u1,r2,r6,hsm,n,r5,n0,n1⟩;unfold rR;have t1:¬((v.secs.length:Int)<(v.secs.length:Int)):=by omega
   simp only[SX,r2,r6,Nat.zero_add,c3 U u1,hs.len CB,t1,decide_false,aA];refine⟨by simp,u1,.inl ⟨trivial,λs hs'=>?_,n,r5⟩⟩;obtain⟨j,hj,rfl⟩:=List.mem_iff_getElem.1 hs';exact hsm j hj hj
  ·rintro⟨q,R,U⟩ ⟨u1,hq⟩;simp only at u1 hq;rcases hq with⟨rfl,hsm,n,r5⟩|⟨rfl,r4⟩
   ·simp only[SX,r5,aA];exact⟨_,rfl,k2.trans u1,λ_=>⟨by omega,by omega,hsm⟩⟩
   ·simp only[SX,r4,aA];exact⟨true,rfl,k2.trans u1,λx=>by cases x⟩
 obtain⟨⟨r,W'⟩,h1,c,h2,h3,h4⟩:=main;simp only at h2 h3;subst h2;exact⟨c,aT rfl ⟨_,h1,rfl,h3⟩ M0,h4⟩
def a7y(n:Nat):List SeT:=List.replicate n se0
section
variable {W:AW} {v:Ven} {sv rv:Value} {l:List SeT}
end
structure Both (K:Nat->Prop) (V:AW) (Wa:AW) (M k:Nat) (v:Ven) (sv rv:Value) (W0:AW) (N:Int) (l:List SeT):Prop where
 map:MapS K V M k l.length v W0 N l
 low:Le Wa W0
 secs:SecsC Wa sv v.secs
 s1:Sl sv
 r1:Sl rv
 np:∃a n c,rv=.slice (some a) n c
 row:∀V',Gr V V' K->SeL V' rv l
 i64:a14 l
 ve:(sI v).2=0
 tot:(l.length:Int)=bW v.secs
section
variable {K:Nat->Prop} {V Wa:AW} {M k:Nat} {v:Ven} {sv rv:Value} {W0:AW} {N:Int} {l:List SeT}
theorem Both.vk(h:Both K V Wa M k v sv rv W0 N l):v.sh=(k:Int):=h.map.vk
theorem Both.le(h:Both K V Wa M k v sv rv W0 N l){V':AW}(hl:Le V V'):Both (λb=>K b/\b<V.next\/V'.next<=b) V' Wa M k v sv rv W0 N l:=
 {h with map:=h.map.shift hl,row:=λV2 g=>h.row V2 ⟨Nat.le_trans hl.next g.next,λb hb hn=>by
   rw[g.get b (Nat.lt_of_lt_of_le hb hl.next) λc=>by
    rcases c with c|c
    ·exact hn c.1
    ·have:=hl.next;omega];exact hl.get b hb⟩}
theorem Both.out(h:Both K V Wa M k v sv rv W0 N l){b:Nat}(hb:¬K b)(hw:V.next<=b->False)(hlo:W0.next<=b)(o:AObj)(hr:∀V',Gr (V.put b o) V' K->SeL V' rv l):Both K (V.put b o) Wa M k v sv rv W0 N l:=
 {h with map:=h.map.keep (Nat.le_refl _) (λc _ hc=>AW.get_put_ne _ _ λe=>hb (by rw[e];exact hc)) (h.map.w0.put hlo o),row:=hr}
end
structure CaT where
 what:Int
 at_:Int
 now:Int
 s:SeT
abbrev caC(x:CaT):List Value:=.int .u8 x.what::.int .i64 x.at_::.int .i64 x.now::nI x.s
abbrev caV(x:CaT):Value:=.agg #[.int .u8 x.what,.int .i64 x.at_,.int .i64 x.now,.int .i64 x.s.st,.int .u32 x.s.ow,.int .i64 x.s.dl,.int .u64 x.s.se,.int .u64 x.s.ep]
section
variable {K:Nat->Prop} {V Wa:AW} {M k:Nat} {v:Ven} {sv rv:Value} {W0:AW} {N:Int} {l:List SeT}
theorem Both.stay(h:Both K V Wa M k v sv rv W0 N l){V1 V2:AW}{rv':Value}{l':List SeT}(l1:Le V V1)(l2:Le V1 V2)(hc:(rv'=rv/\l'=l)\/BlS V1.next V2 rv' l'){V':AW}(hn:V2.next<=V'.next)(g:∀b,b<V2.next->(b<V.next/\¬K b\/V1.next<=b)->V'.get b=V2.get b):SeL V' rv' l':=by
 rcases hc with⟨rfl,rfl⟩|hc
 ·refine h.row V' ⟨Nat.le_trans (l1.trans l2).next hn,λb hb hk=>?_⟩;rw[g b (Nat.lt_of_lt_of_le hb (l1.trans l2).next) (.inl ⟨hb,hk⟩)];exact(l1.trans l2).get b hb
 ·exact(hc.keep hn λb h1 h2=>g b h2 (.inr h1)).row
end
def a8Y(l:List SeT)(k:Nat)(x:CaT)(d:List (Int×Int)):List SeT:=if x.what.tmod 8=0\/x.what.tmod 8=1\/x.what.tmod 8=2 then a6Q l x.at_ x.s else if x.what.tmod 8=6 then a8t l x.now d else l
section
variable {K:Nat->Prop} {V Wa:AW} {M k:Nat} {v:Ven} {sv rv:Value} {W0:AW} {N:Int} {l:List SeT}
theorem Both.done(h:Both K V Wa M k v sv rv W0 N l){V1 V2 V3 V4:AW}{rv':Value}{l':List SeT}{N':Int}(l1:Le V V1)(l2:Le V1 V2)(l3:Le V2 V3)(hc:(rv'=rv/\l'=l)\/BlS V1.next V2 rv' l')(hr:Sl rv')(hnp:∃a n c,rv'=.slice (some a) n c)(hlen:l'.length=l.length)(h64:a14 l')
 (hm:MapS (λb=>K b/\b<V.next\/V3.next<=b) V4 M k l.length v W0 N' l')(g:Gr V3 V4 λb=>K b/\b<V.next\/V3.next<=b){r:Nat}(hr1:V.next<=r)(hr2:r<V1.next)(o:AObj):
 Both (λb=>K b/\b<V.next\/V3.next<=b) (V4.put r o) Wa M k v sv rv' W0 N' l'/\Gr V (V4.put r o) K/\∀b,b<V.next->(K b/\b<V.next\/V3.next<=b)->K b:=by
 have n1:=l1.next;have n2:=l2.next;have n3:=l3.next;have n4:=g.next;have hw0:=h.map.w0.next;have keep:∀b,b<V3.next->(b<V.next/\¬K b\/V.next<=b)->V4.get b=V3.get b:=λb hb hk=>g.get b hb λc=>by
  rcases c with c|c
  ·rcases hk with hk|hk
   ·exact hk.2 c.1
   ·omega
  ·omega
 refine⟨{map:=?_,low:=h.low,secs:=h.secs,s1:=h.s1,r1:=hr,np:=hnp,row:=?_,i64:=h64,ve:=h.ve,tot:=by rw[hlen];exact h.tot},?_,?_⟩
 ·rw[hlen];exact hm.keep (Nat.le_refl _) (λb hb hk=>AW.get_put_ne _ _ λe=>by subst e;rcases hk with hk|hk<;>omega) (hm.w0.put (by omega) o)
 ·intro V' g';have hn':=g'.next;rw[AW.put_next]at hn';refine h.stay l1 l2 hc (by omega) λb hb hk=>?_
  have hnk:¬(K b/\b<V.next\/V3.next<=b):=λc=>by
   rcases c with c|c
   ·rcases hk with hk|hk
    ·exact hk.2 c.1
    ·omega
   ·omega
  have hbr:b≠r\/b<V.next:=by
   rcases hk with hk|hk
   ·exact .inr hk.1
   ·exact .inl (by omega)
  rw[g'.get b (by rw[AW.put_next];omega) hnk,AW.get_put_ne _ _ (by omega),keep b (by omega) (by
   rcases hk with hk|hk
   ·exact .inl hk
   ·exact .inr (by omega))];exact l3.get b hb
 ·refine⟨by rw[AW.put_next];omega,λb hb hk=>?_⟩;rw[AW.get_put_ne _ _ (by omega),keep b (by omega) (.inl ⟨hb,hk⟩)];exact((l1.trans l2).trans l3).get b hb
 ·intro b hb hk;rcases hk with hk|hk
  ·exact hk.1
  ·omega
end
def a7f(cs:List Value)(p:Nat)(x:CaT):Prop:=(cs.drop p).take 8=caC x
abbrev CaL(W:AW)(v:Value)(l:List CaT):Prop:=Row W 8 a7f v l
theorem CaL.get{W:AW}{v:Value}{l:List CaT}(h:CaL W v l){i:Nat}(hi:i<l.length):∃p,(∀W' k,jS 8 v (.int k (i:Int)) W'=some (p,W'))/\∀W',Le W W'->jV 8 p W'=some (caV l[i],W'):=by obtain⟨b,o,cs,h1,h2,h3,h4⟩:=h.elem hi;refine⟨_,h1,λW' hle=>?_⟩;have h5:(cs.drop o).take 8=caC l[i]:=h4;rw[xA,hle.cellsAt h2,h3];simp only[Option.bind_some,h5];rfl
def a9L(v:Value):Prop:=∃a n c,v=.slice a n c
section
variable {K:Nat->Prop} {V Wa:AW} {M k:Nat} {v:Ven} {sv rv:Value} {W0:AW} {N:Int} {l:List SeT}
end
end Go.Proofs.YtnigceddndemkaaGreatDoor.Ho
namespace Go.Proofs.YtnigceddndemkaaGreatDoor.Ho
open Go Go.Eng Go.RowKit
set_option maxRecDepth 100000
theorem a4d{W:AW}{n:Nat}{c:List Value}(h:DR Tryz.prog W (n+3) 130 c):∃s:Sec,∀pre post,VZ W (pre++(c++post)) pre.length s:=by
 obtain⟨c1,c2,rfl,h1,h2⟩:=(h.struct Tryz.underlying130).cons;obtain⟨c3,c4,rfl,h3,h4⟩:=h2.cons;obtain⟨c5,c6,rfl,h5,h6⟩:=h4.cons;obtain rfl:=h6.nil;obtain⟨s,rfl,_⟩:=h1.str Tryz.underlying9;obtain⟨rv,zs,rfl,hz,_⟩:=h3.ints Tryz.underlying69 Tryz.underlying3 (by kernel_rfl);obtain⟨q,rfl⟩:=h5.int Tryz.underlying3;refine⟨⟨s.data.toList,zs,q⟩,λpre post=>⟨?_,?_,rv,?_,hz⟩⟩
 ·rw[List.getElem?_append_right (by omega),OY];simp
 ·rw[List.getElem?_append_right (by omega),Nat.add_sub_cancel_left];rfl
 ·rw[List.getElem?_append_right (by omega),Nat.add_sub_cancel_left];rfl
theorem a3V{W:AW}{n:Nat}{c:List Value}(h:DR Tryz.prog W (n+5) 24 c):∃(v:Ven) (sv:Value),c=[.int .i64 v.sh,.int .i64 v.ttl,.int .i64 v.ses,sv]/\SecsC W sv v.secs:=by obtain⟨c1,c2,rfl,h1,h2⟩:=(h.struct Tryz.underlying24).cons;obtain⟨c3,c4,rfl,h3,h4⟩:=h2.cons;obtain⟨c5,c6,rfl,h5,h6⟩:=h4.cons;obtain⟨c7,c8,rfl,h7,h8⟩:=h6.cons;obtain rfl:=h8.nil;obtain⟨a,rfl⟩:=h1.int Tryz.underlying3;obtain⟨b,rfl⟩:=h3.int Tryz.underlying2;obtain⟨d,rfl⟩:=h5.int Tryz.underlying2;obtain⟨sv,l,rfl,r1,a',c',r2,r3,r4,r5⟩:=h7.row Tryz.underlying22 (at_:=VZ W) (λc _ hc=>a4d hc);exact⟨⟨a,b,d,l⟩,sv,rfl,r1,a',c',r2,.inl ⟨r3,r4⟩,r5⟩
theorem a6z{W:AW}{n:Nat}{c:List Value}(h:DR Tryz.prog W (n+2) 38 c):∃x:SeT,c=nI x/\x.dl<=9223372036854775807:=by obtain⟨c1,r1,rfl,h1,h⟩:=(h.struct Tryz.underlying38).cons;obtain⟨c2,r2,rfl,h2,h⟩:=h.cons;obtain⟨c3,r3,rfl,h3,h⟩:=h.cons;obtain⟨c4,r4,rfl,h4,h⟩:=h.cons;obtain⟨c5,r5,rfl,h5,h⟩:=h.cons;obtain rfl:=h.nil;obtain⟨x1,rfl⟩:=h1.int Tryz.underlying3;obtain⟨x2,rfl⟩:=h2.int Tryz.underlying35;obtain⟨x3,rfl,-,hb⟩:=h3.intB Tryz.underlying2;obtain⟨x4,rfl⟩:=h4.int Tryz.underlying36;obtain⟨x5,rfl⟩:=h5.int Tryz.underlying36;exact⟨⟨x1,x2,x3,x4,x5⟩,rfl,hb⟩
theorem XQ{α:Type}{W:AW}{z:Nat}{f:List Value->Nat->α->Prop}{p:α->Prop}{v:Value}{l:List α}(h:Row W z (λcs q x=>f cs q x/\p x) v l):Row W z f v l/\∀x∈l,p x:=by
 obtain⟨a,c,rfl,hr⟩:=h;rcases hr with rfl|⟨b,o,cs,h1,h2,h3,h4⟩
 ·exact⟨⟨a,c,rfl,.inl rfl⟩,λx hx=>by simp at hx⟩
 ·refine⟨⟨a,c,rfl,.inr ⟨b,o,cs,h1,h2,h3,λi hi=>(h4 i hi).1⟩⟩,λx hx=>?_⟩;obtain⟨i,hi,rfl⟩:=List.mem_iff_getElem.1 hx;exact(h4 i hi).2
theorem a8o:Tryz.prog.cellsOf 38=5:=by kernel_rfl
theorem a1q{W:AW}{n:Nat}{c:List Value}(h:DR Tryz.prog W (n+3) 25 c):∃(v:Value) (l:List SeT),c=[v]/\SeL W v l/\a14 l:=by obtain⟨v,l,rfl,hr,-⟩:=h.row Tryz.underlying25 (at_:=λcs q x=>a2m cs q x/\x.dl<=9223372036854775807) (λc _ hc=>by obtain⟨x,rfl,hb⟩:=a6z hc;exact⟨x,λpre post=>⟨LF x pre post,hb⟩⟩);rw[a8o]at hr;obtain⟨h1,h2⟩:=XQ hr;exact⟨v,l,rfl,h1,h2⟩
section
variable {H:Type} {enc:TypeId×Value->H} {w:World} {σ:bM} {W:AW} {v0:Value} {d:DataW H} {p:List MemPlace} {r:Reach} {b0:Nat}
theorem a4t{t:TypeId}{fs:Array Field}(ht:Tryz.prog.underlying t=some (.struct fs))(hv:Value.okWide Tryz.prog w r b0 t v0):∃cs,v0=.agg cs:=by unfold Value.okWide at hv;rw[ht]at hv;obtain⟨cs,h,_⟩:=hv;exact⟨cs,h⟩
theorem Z7{t e:TypeId}(ht:Tryz.prog.underlying t=some (.slice e))(hv:Value.okWide Tryz.prog w r b0 t v0):∃a n c,v0=.slice a n c:=by
 unfold Value.okWide at hv;rw[ht]at hv;simp only at hv;unfold Cell.okWide at hv;rw[ht]at hv;cases v0 with
 |slice a l c=>exact⟨a,l,c,rfl⟩
 |_=>simp only[Cell.ok,ht]at hv
theorem a5H:WZ Tryz.prog 6 24=true:=by kernel_rfl
theorem a7d:WZ Tryz.prog 6 25=true:=by kernel_rfl
theorem openVen(ho:Opened σ W w)(hv:Value.okWide Tryz.prog w r b0 24 v0)(h:DataW.Trod enc Tryz.prog w 0 (λ_=>true) true 24 v0 d p):
 ∃(σ2:bM) (W2:AW) (v:Ven) (sv:Value),Opened σ2 W2 w/\Sub σ σ2/\Le W W2/\VR σ2 (tL v sv) v0/\SecsC W2 sv v.secs:=by
 obtain⟨cs,rfl⟩:=a4t Tryz.underlying24 hv;obtain⟨m,hm⟩:=h;obtain⟨σ2,W2,cs2,o2,s2,l2,r2,a2⟩:=IG a5H hm σ W ho;obtain⟨v,sv,rfl,hs⟩:=a3V a2;exact⟨σ2,W2,v,sv,o2,s2,l2,.agg' (a:=#[.int .i64 v.sh,.int .i64 v.ttl,.int .i64 v.ses,sv]) r2,hs⟩
theorem openSeats(ho:Opened σ W w)(hv:Value.okWide Tryz.prog w r b0 25 v0)(h:DataW.Trod enc Tryz.prog w 0 (λ_=>true) true 25 v0 d p):
 ∃(σ2:bM) (W2:AW) (l:List SeT) (u:Value),Opened σ2 W2 w/\Sub σ σ2/\Le W W2/\VR σ2 u v0/\SeL W2 u l/\a14 l:=by
 obtain⟨a,n,c,rfl⟩:=Z7 Tryz.underlying25 hv;obtain⟨m,hm⟩:=h;obtain⟨σ2,W2,cs2,o2,s2,l2,r2,a2⟩:=IG a7d hm σ W ho;obtain⟨u,l,rfl,hr,hb⟩:=a1q a2;exact⟨σ2,W2,l,u,o2,s2,l2,r2.2 0 _ _ rfl rfl,hr,hb⟩
end
theorem liftV{σ σ':bM}(hs:Sub σ σ'){v v':Value}(h:VR σ v v'):VR σ' v v':=h.mono hs
theorem kidsT:Kids Tryz.prog (· <Tryz.prog.types.size):=kids_rows (by kernel_rfl) (by kernel_rfl)
theorem fullT:∀t e,t<Tryz.prog.types.size->Tryz.prog.underlying t=some (.slice e)->0<Tryz.prog.cellsOf e:=slices_full_of Tryz.prog (by kernel_rfl)
noncomputable def globW:List (Nat×List Value):=[(5,[])]
theorem openG{w:World}(hl:K5 globW w.heap):Opened (σG globW) (WG globW 6) w:=⟨a3F rfl hl,a2u,5,_,rfl⟩
theorem open_calls(hok:aO Tryz.prog PlanTab.ng aL){w:World}{σ:bM}{W:AW}(ho:Opened σ W w){i:Nat}{args args':List Value}(hr:LR σ args args')(h:aL (.func (.func i) #[] #[]) args W=some (.bool true,W)):
 Calls Tryz.prog i args'.toArray w λe w'=>e=.returned (.bool true)/\Quiet w w':=
 a1A hok ho.rel (λg hg=>by cases hg) ho.ro hr rfl h
end Go.Proofs.YtnigceddndemkaaGreatDoor.Ho
namespace Go.Proofs.YtnigceddndemkaaGreatDoor.Ho
open Go Go.Eng Go.Hp
set_option maxRecDepth 100000
theorem RV(l:List SeT)(p:Nat->Bool):((fK l p).map (·.1)).Nodup:=by unfold fK;rw[List.map_map];refine List.Pairwise.map (R:=λa b:Nat=>a≠b) _ ?_ (List.nodup_range.filter _);intro a b h e;have:(a:Int)=(b:Int):=e;omega
theorem YC{l:List SeT}{p:Nat->Bool}{now:Int}{d:List (Int×Int)}(h:wJ (fK l p) now d):(d.map (·.1)).Nodup:=
 ((h.2.map (·.1)).nodup_iff).2 ((RV l p).sublist (List.filter_sublist.map _))
section
variable {l:List SeT} {p:Nat->Bool} {now:Int} {d:List (Int×Int)}
end
theorem M9{n k i c:Nat}(hi:i<k)(h:∀j,j<c<->i+j*k<n):CF n k i=c:=by have h1:=iX (n:=n) (j:=c) hi;have h2:=h (CF n k i);have h3:=iX (n:=n) (j:=CF n k i) hi;have h4:=h c;omega
theorem a0E{k i:Nat}(hi:i<k):CF 0 k i=0:=M9 hi λj=>by omega
theorem ZF{n k i:Nat}(hi:i<k):CF (n+1) k i=CF n k i+if n % k=i then 1 else 0:=by
 by_cases h:n % k=i
 ·rw[if_pos h];have e:n=i+n/k*k:=by have:=vU n k;omega
  have c:CF n k i=n/k:=M9 hi λj=>by have h1:j*k<n/k*k<->j<n/k:=Nat.mul_lt_mul_right (by omega);omega
  rw[c];refine M9 hi λj=>?_
  have h1:n/k*k<j*k<->n/k<j:=Nat.mul_lt_mul_right (by omega);omega
 ·rw[if_neg h];refine M9 hi λj=>?_
  have h1:=iX (n:=n) (j:=j) hi;have h2:i+j*k≠n:=λe=>h (by rw[<-e,Nat.add_mul_mod_self_right,Nat.mod_eq_of_lt hi])
  omega
def zA(n k:Nat):Nat->Nat
 |0=>0
 |i+1=>zA n k i+CF n k i
theorem KL(k:Nat):∀i,i<=k->zA 0 k i=0
 |0,_=>rfl
 |i+1,h=>by rw[zA,KL k i (by omega),a0E (by omega)]
theorem KI(n k:Nat):∀i,i<=k->zA (n+1) k i=zA n k i+if n % k<i then 1 else 0
 |0,_=>by simp[zA]
 |i+1,h=>by rw[zA,zA,KI n k i (by omega),ZF (by omega)];split<;>split<;>split<;>omega
theorem ET{k:Nat}(hk:0<k):∀n,zA n k k=n
 |0=>KL k k (Nat.le_refl _)
 |n+1=>by rw[KI n k k (Nat.le_refl _),ET hk n,if_pos (Nat.mod_lt _ hk)]
theorem a3d(n k:Nat){i j:Nat}(h:i<=j):zA n k i<=zA n k j:=by
 induction h with
 |refl=>exact Nat.le_refl _
 |step _ ih=>exact Nat.le_trans ih (Nat.le_add_right _ _)
def upD(l:List SeT)(k:Nat)(now:Int)(i:Nat):List (Int×Int):=if now<0 then []else((List.range i).flatMap λi=>fK l (pO k i)).filter (dN now)
theorem ZR(l:List SeT)(k:Nat)(now:Int)(i:Nat):upD l k now (i+1)=upD l k now i++if now<0 then []else(fK l (pO k i)).filter (dN now):=by
 unfold upD;split
 ·rfl
 ·rw[List.range_succ,List.flatMap_append,List.filter_append];simp only[List.flatMap_cons,List.flatMap_nil,List.append_nil]
theorem VF(l:List SeT){k:Nat}(now:Int){i:Nat}(hk:0<k)(hi:i<=k):(upD l k now i).length<=l.length:=by
 unfold upD;split
 ·exact Nat.zero_le _
 ·have h2:=List.length_filter_le (dN now) ((List.range i).flatMap λi=>fK l (pO k i));have h3:((List.range i).flatMap λi=>fK l (pO k i)).length<=((List.range k).flatMap λi=>fK l (pO k i)).length:=by
   have e:List.range k=List.range i++(List.range (k-i)).map (i+ ·):=by rw[<-List.range_add];congr 1;omega
   rw[e,List.flatMap_append,List.length_append];omega
  have h4:=(zM l hk).length_eq;have h5:=qJ l λ_=>true
  omega
theorem a3e{l:List SeT}{k:Nat}{now:Int}{d:List (Int×Int)}(hk:0<k)(h1:now<0->d=[])(h2:0<=now->wJ (fK l λ_=>true) now d):d.Perm (upD l k now k):=by
 unfold upD;split
 ·rename_i c;rw[h1 c]
 ·rename_i c;exact(h2 (by omega)).2.trans ((zM l hk).filter _).symm
section
variable {ρ:Type} {V:AW} {R:PlanTab.Fr} {K:LT->Option ρ} {G:ρ->Prop} {l:List SeT} {k i:Nat} {bk:Nat}
theorem PL{U:AW}{uv rv:Value}{s:Nat}(hi:i<k)(hk:k<=16)(hl:l.length<=10000)(hs:s<=10000)(hu:SeL U uv (dO l k i))(hr:SeL U rv l)(hsh:aR (.pointer (some ⟨bk,0,none⟩)) U=some (.int .i64 (k:Int),U))
 (e1:R 1=rv)(e3:R 3=.pointer (some ⟨bk,0,none⟩))(e9:R 9=.int .i64 (s:Int))(e11:R 11=.int .i64 (i:Int))(e12:R 12=uv)(e14:R 14=.int .i64 0)
 (hk':∀R':PlanTab.Fr,R' 1=rv->R' 2=R 2->R' 3=.pointer (some ⟨bk,0,none⟩)->R' 7=R 7->R' 9=.int .i64 ((s+CF l.length k i:Nat):Int)->R' 10=R 10->R' 11=.int .i64 (i:Int)->Ok (K (X.exit 2,R',U)) G):
 Ok (aB (cO (dV aL) R U) K) G:=by
 have hc1:CF l.length k i<=11000:=by unfold CF;have:=Nat.div_le_self (l.length+k-1-i) k;omega
 refine bR (CF l.length k i) (by omega) (λj Q U'=>U'=U/\Q 1=rv/\Q 2=R 2/\Q 3=.pointer (some ⟨bk,0,none⟩)/\Q 7=R 7/\Q 9=.int .i64 ((s+j:Nat):Int)/\Q 10=R 10/\Q 11=.int .i64 (i:Int)/\Q 12=uv/\Q 14=.int .i64 (j:Int))
  (λr=>r.1=.exit 2/\r.2.2=U/\r.2.1 1=rv/\r.2.1 2=R 2/\r.2.1 3=.pointer (some ⟨bk,0,none⟩)/\r.2.1 7=R 7/\r.2.1 9=.int .i64 ((s+CF l.length k i:Nat):Int)/\r.2.1 10=R 10/\r.2.1 11=.int .i64 (i:Int))
  ⟨rfl,e1,rfl,e3,rfl,e9,rfl,e11,e12,e14⟩ ?_ ?_ ?_
 ·rintro j Q U' hj ⟨rfl,q1,q2,q3,q7,q9,q10,q11,q12,q14⟩;unfold dV;have hs':=(iX hi).1 hj;have t1:((j:Int)<((dO l k i).length:Int)):=by rw[eP];omega
  have t2:∀W',aD Tryz.prog .mul 3 false false (.int .i64 (j:Int)) (.int .i64 (k:Int)) W'=some (.int .i64 ((j*k:Nat):Int),W'):=λW'=>by have h1:=ZG (P:=Tryz.prog) (W:=W') (t:=3) (c:=false) (d:=false) (a:=(j:Int)) (b:=(k:Int)) (by rw[<-Int.natCast_mul];omega) (by rw[<-Int.natCast_mul];omega);rw[h1,Int.natCast_mul]
  have t3:∀W',aD Tryz.prog .add 3 false false (.int .i64 (i:Int)) (.int .i64 ((j*k:Nat):Int)) W'=some (.int .i64 ((i+j*k:Nat):Int),W'):=λW'=>by have h1:=bA (P:=Tryz.prog) (W:=W') (t:=3) (c:=false) (d:=false) (a:=(i:Int)) (b:=((j*k:Nat):Int)) (by omega) (by omega);rw[h1,Int.natCast_add]
  have t4:decide ((l.length:Int)<=((i+j*k:Nat):Int))=false:=decide_eq_false (by omega);have t5:=λW'=>bA (P:=Tryz.prog) (W:=W') (t:=3) (c:=false) (d:=true) (a:=((s+j:Nat):Int)) (b:=1) (by omega) (by omega)
  have t6:=λW'=>bA (P:=Tryz.prog) (W:=W') (t:=3) (c:=false) (d:=true) (a:=(j:Int)) (b:=1) (by omega) (by omega)
  have e5:((s+(j+1):Nat):Int)=((s+j:Nat):Int)+1:=by omega
  have e6:((j+1:Nat):Int)=(j:Int)+1:=by omega
  obtain⟨b,o,-,x1,x2,-⟩:=hu.get (kL hi hs');obtain⟨b',o',-,y1,y2,-⟩:=hr.get (MR hs');generalize IP l (i+j*k)=x at *;have dx:(!decide (x=x))=false:=by simp
  simp only[SX,IQ,IM,q1,q3,q9,q11,q12,q14,hu.len uE,hr.len uE,t1,decide_true,hsh,Nat.zero_add,t2,t3,t4,x1,x2 _ (Le.refl _),y1,y2 _ (Le.refl _),a5Z,dx,t5,t6,aA];exact .inl ⟨trivial,trivial,q1,q2,q3,q7,by rw[e5];rfl,q10,q11,q12,by rw[e6];rfl⟩
 ·rintro Q U' ⟨rfl,q1,q2,q3,q7,q9,q10,q11,q12,q14⟩;unfold dV;have t1:¬((CF l.length k i:Int)<((dO l k i).length:Int)):=by rw[eP];omega
  simp only[SX,q12,q14,hu.len uE,t1,decide_false,aA];exact⟨by simp,trivial,trivial,q1,q2,q3,q7,q9,q10,q11⟩
 ·rintro⟨q,Q,U'⟩ ⟨rfl,rfl,q1,q2,q3,q7,q9,q10,q11⟩;exact hk' Q q1 q2 q3 q7 q9 q10 q11
theorem QN{U:AW}{uv:Value}{d:List (Int×Int)}(hi:i<k)(hk:k<=16)(hd:d.length<=10000)(hu:HoL U uv d)(hin:∀x,x∈d->∃s:Nat,x.1=(s:Int)/\s % k=i)(hsh:aR (.pointer (some ⟨bk,0,none⟩)) U=some (.int .i64 (k:Int),U))
 (e3:R 3=.pointer (some ⟨bk,0,none⟩))(e11:R 11=.int .i64 (i:Int))(e16:R 16=uv)(e17:R 17=.int .i64 0)
 (hk':∀R':PlanTab.Fr,R' 1=R 1->R' 2=R 2->R' 3=.pointer (some ⟨bk,0,none⟩)->R' 7=R 7->R' 9=R 9->R' 10=R 10->R' 11=.int .i64 (i:Int)->R' 16=uv->Ok (K (X.exit 4,R',U)) G):
 Ok (aB (cO (dS aL) R U) K) G:=by
 refine bR d.length (by omega) (λj Q U'=>U'=U/\Q 1=R 1/\Q 2=R 2/\Q 3=.pointer (some ⟨bk,0,none⟩)/\Q 7=R 7/\Q 9=R 9/\Q 10=R 10/\Q 11=.int .i64 (i:Int)/\Q 16=uv/\Q 17=.int .i64 (j:Int))
  (λr=>r.1=.exit 4/\r.2.2=U/\r.2.1 1=R 1/\r.2.1 2=R 2/\r.2.1 3=.pointer (some ⟨bk,0,none⟩)/\r.2.1 7=R 7/\r.2.1 9=R 9/\r.2.1 10=R 10/\r.2.1 11=.int .i64 (i:Int)/\r.2.1 16=uv)
  ⟨rfl,rfl,rfl,e3,rfl,rfl,rfl,e11,e16,e17⟩ ?_ ?_ ?_
 ·rintro j Q U' hj ⟨rfl,q1,q2,q3,q7,q9,q10,q11,q16,q17⟩;unfold dS;have t1:((j:Int)<(d.length:Int)):=by omega
  have t6:=λW'=>bA (P:=Tryz.prog) (W:=W') (t:=3) (c:=false) (d:=true) (a:=(j:Int)) (b:=1) (by omega) (by omega)
  have e6:((j+1:Nat):Int)=(j:Int)+1:=by omega
  obtain⟨b,o,x1,-,x2⟩:=HoL.get hu hj;obtain⟨s,s1,s2⟩:=hin _ (List.getElem_mem hj);have x3:=(x2 U' rfl).2.1;rw[s1]at x3;have dx:(!decide (((s % k:Nat):Int)=(i:Int)))=false:=by rw[s2];simp
  simp only[SX,q3,q11,q16,q17,hu.len p9,t1,decide_true,hsh,Nat.zero_add,Nat.add_zero,x1,x3,a6K s k (by omega),dx,t6,aA];exact .inl ⟨trivial,trivial,q1,q2,q3,q7,q9,q10,q11,q16,by rw[e6];rfl⟩
 ·rintro Q U' ⟨rfl,q1,q2,q3,q7,q9,q10,q11,q16,q17⟩;unfold dS;have t1:¬((d.length:Int)<(d.length:Int)):=by omega
  simp only[SX,q16,q17,hu.len p9,t1,decide_false,aA];exact⟨by simp,trivial,trivial,q1,q2,q3,q7,q9,q10,q11,q16⟩
 ·rintro⟨q,Q,U'⟩ ⟨rfl,rfl,q1,q2,q3,q7,q9,q10,q11,q16⟩;exact hk' Q q1 q2 q3 q7 q9 q10 q11 q16
theorem a7Y(x y:Int×Int)(c d:Bool)(W:AW):aD Tryz.prog .eql 42 c d (lG x) (lG y) W=some (.bool (decide (x=y)),W):=by refine MS g43 ((q43 ..).trans ?_);rw[EP];congr 1;simp only[List.all_cons,List.all_nil,Bool.and_true];rw[Bool.eq_iff_iff];obtain⟨x1,x2⟩:=x;obtain⟨y1,y2⟩:=y;simp
theorem uJ{U:AW}{uv av:Value}{d m:List (Int×Int)}{x:Int×Int}{n:Nat}(hd:d.length<=10000)(hu:HoL U uv d)(ha:HoL U av m)(hn:m[n]? =some x)
 (e10:R 10=uv)(e18:R 18=av)(e19:R 19=.int .i64 (n:Int))(e20:R 20=.bool false)(e21:R 21=.int .i64 0)
 (hk':∀R':PlanTab.Fr,R' 10=uv->R' 18=av->R' 19=.int .i64 (n:Int)->R' 20=.bool (decide (x∈d))->Ok (K (X.exit 8,R',U)) G):
 Ok (aB (cO (dU aL) R U) K) G:=by
 refine bR d.length (by omega) (λj Q U'=>U'=U/\Q 10=uv/\Q 18=av/\Q 19=.int .i64 (n:Int)/\Q 20=.bool (decide (x∈d.take j))/\Q 21=.int .i64 (j:Int))
  (λr=>r.1=.exit 8/\r.2.2=U/\r.2.1 10=uv/\r.2.1 18=av/\r.2.1 19=.int .i64 (n:Int)/\r.2.1 20=.bool (decide (x∈d)))
  ⟨rfl,e10,e18,e19,by rw[List.take_zero,decide_eq_false List.not_mem_nil];exact e20,e21⟩ ?_ ?_ ?_
 ·rintro j Q U' hj ⟨rfl,q10,q18,q19,q20,q21⟩;unfold dU;have t1:((j:Int)<(d.length:Int)):=by omega
  have t6:=λW'=>bA (P:=Tryz.prog) (W:=W') (t:=3) (c:=false) (d:=true) (a:=(j:Int)) (b:=1) (by omega) (by omega)
  have e6:((j+1:Nat):Int)=(j:Int)+1:=by omega
  have et:decide (x∈d.take (j+1))=(decide (x∈d.take j)||decide (d[j]=x)):=by rw[List.take_succ_eq_append_getElem hj,<-Bool.decide_or];congr 1;rw[List.mem_append,List.mem_singleton];exact propext (or_congr Iff.rfl eq_comm)
  cases hb:decide (x∈d.take j)with
  |true=>rw[hb]at q20 et;simp only[SX,IQ,IM,q10,q18,q19,q20,q21,hu.len p9,t1,decide_true,t6,aA];exact .inl ⟨trivial,trivial,q10,q18,q19,by rw[et];rfl,by rw[e6];rfl⟩
  |false=>rw[hb]at q20 et;obtain⟨hn',hx⟩:=List.getElem?_eq_some_iff.1 hn;obtain⟨b,o,x1,-,x2⟩:=HoL.get hu hj;obtain⟨b',o',y1,-,y2⟩:=HoL.get ha hn';have y3:=(y2 U' rfl).1;rw[hx]at y3;simp only[SX,IQ,IM,q10,q18,q19,q20,q21,hu.len p9,t1,decide_true,x1,(x2 U' rfl).1,y1,y3,a7Y,t6,aA];exact .inl ⟨trivial,trivial,q10,q18,q19,by rw[et];rfl,by rw[e6];rfl⟩
 ·rintro Q U' ⟨rfl,q10,q18,q19,q20,q21⟩;unfold dU;have t1:¬((d.length:Int)<(d.length:Int)):=by omega
  rw[List.take_length]at q20;simp only[SX,q10,q21,hu.len p9,t1,decide_false,aA];exact⟨by simp,trivial,trivial,q10,q18,q19,q20⟩
 ·rintro⟨q,Q,U'⟩ ⟨rfl,rfl,q10,q18,q19,q20⟩;exact hk' Q q10 q18 q19 q20
theorem QD{U:AW}{uv av:Value}{d m:List (Int×Int)}(hd:d.length<=10000)(hu:HoL U uv d)(ha:HoL U av m)(hp:m.Perm d)(hm:Asc m)(hn:(m.map (·.1)).Nodup)
 (e10:R 10=uv)(e18:R 18=av)(e19:R 19=.int .i64 0)
 (hk':∀R':PlanTab.Fr,Ok (K (X.exit 6,R',U)) G):
 Ok (aB (cO (fI aL) R U) K) G:=by
 have hlen:=hp.length_eq;refine bR m.length (by omega) (λj Q U'=>U'=U/\Q 10=uv/\Q 18=av/\Q 19=.int .i64 (j:Int))
  (λr=>r.1=.exit 6/\r.2.2=U) ⟨rfl,e10,e18,e19⟩ ?_ ?_ ?_
 ·rintro j Q U' hj ⟨rfl,q10,q18,q19⟩;unfold fI;have t1:((j:Int)<(m.length:Int)):=by omega
  have t6:=λW'=>bA (P:=Tryz.prog) (W:=W') (t:=3) (c:=false) (d:=true) (a:=(j:Int)) (b:=1) (by omega) (by omega)
  have e6:((j+1:Nat):Int)=(j:Int)+1:=by omega
  have hx:=List.getElem?_eq_getElem hj;have hin:decide (m[j]∈d)=true:=decide_eq_true (hp.mem_iff.1 (List.getElem_mem hj));cases j with
  |zero=>
   have z:decide ((0:Int)<((0:Nat):Int))=false:=rfl;simp only[SX,IQ,IM,q10,q18,q19,ha.len p9,t1,decide_true,z];refine uJ (d:=d) hd hu ha hx ?_ ?_ ?_ ?_ ?_ λR' r10 r18 r19 r20=>?_
   ·exact q10
   ·exact q18
   ·exact q19
   ·rfl
   ·rfl
   simp only[SX,r19,r20,hin,t6,aA];exact .inl ⟨trivial,trivial,r10,r18,by rw[e6];rfl⟩
  |succ n=>
   have z:decide ((0:Int)<((n+1:Nat):Int))=true:=decide_eq_true (by omega);have hn1:n<m.length:=by omega
   have t7:∀W',aD Tryz.prog .sub 3 false true (.int .i64 ((n+1:Nat):Int)) (.int .i64 1) W'=some (.int .i64 (n:Int),W'):=λW'=>by rw[zR (by omega) (by omega)];congr 3;omega
   obtain⟨b,o,x1,-,x2⟩:=HoL.get ha hj;obtain⟨b',o',y1,-,y2⟩:=HoL.get ha hn1;have hAs:=List.pairwise_iff_getElem.1 hm n (n+1) hn1 hj (by omega);have nd:=List.pairwise_iff_getElem.1 hn n (n+1) (by rw[List.length_map];exact hn1) (by rw[List.length_map];exact hj) (by omega);rw[List.getElem_map,List.getElem_map]at nd;unfold lQ at hAs;simp only[Bool.or_eq_false_iff,Bool.and_eq_false_iff,decide_eq_false_iff_not]at hAs;have f1:decide (m[n+1].2<m[n].2)=false:=decide_eq_false hAs.1;by_cases c:m[n+1].2=m[n].2
   ·have f2:=decide_eq_true c;have f3:decide (m[n+1].1<=m[n].1)=false:=decide_eq_false (by omega);simp only[SX,IQ,IM,q10,q18,q19,ha.len p9,t1,decide_true,z,t7,x1,y1,(x2 U' rfl).2.1,(x2 U' rfl).2.2,(y2 U' rfl).2.1,(y2 U' rfl).2.2,Nat.zero_add,Nat.add_zero,f1,f2,f3];refine uJ (d:=d) hd hu ha hx ?_ ?_ ?_ ?_ ?_ λR' r10 r18 r19 r20=>?_
    ·exact q10
    ·exact q18
    ·exact q19
    ·rfl
    ·rfl
    simp only[SX,r19,r20,hin,t6,aA];exact .inl ⟨trivial,trivial,r10,r18,by rw[e6];rfl⟩
   ·have f2:=decide_eq_false c;simp only[SX,IQ,IM,q10,q18,q19,ha.len p9,t1,decide_true,z,t7,x1,y1,(x2 U' rfl).2.1,(x2 U' rfl).2.2,(y2 U' rfl).2.1,(y2 U' rfl).2.2,Nat.zero_add,Nat.add_zero,f1,f2];refine uJ (d:=d) hd hu ha hx ?_ ?_ ?_ ?_ ?_ λR' r10 r18 r19 r20=>?_
    ·exact q10
    ·exact q18
    ·exact q19
    ·rfl
    ·rfl
    simp only[SX,r19,r20,hin,t6,aA];exact .inl ⟨trivial,trivial,r10,r18,by rw[e6];rfl⟩
 ·rintro Q U' ⟨rfl,q10,q18,q19⟩;unfold fI;have t1:¬((m.length:Int)<(m.length:Int)):=by omega
  simp only[SX,q18,q19,ha.len p9,t1,decide_false,aA];exact⟨by simp,trivial,trivial⟩
 ·rintro⟨q,Q,U'⟩ ⟨rfl,rfl⟩;exact hk' Q
end
theorem shardsParts_om{W:AW}{v:Ven}{sv rv:Value}{l:List SeT}{now:Int}(hs:SecsC W sv v.secs)(hr:SeL W rv l):aL (.func (.func 3) #[] #[]) [tL v sv,rv,.int .i64 now] W=some (.bool true,W):=by
 refine aT rfl ?_ uD;unfold pU;obtain⟨W1,k1,k2,k3,k4⟩:=L8 v sv W;simp only[SX,k1];have gv:=k4;have hs2:=hs.mono k2;have hr2:=hr.mono k2;obtain⟨c,hf,hsm⟩:=a4o (hs2.1) hr2;cases c with
 |true=>simp only[SX,D8 gv,hf,wT,aA];exact⟨trivial,k2⟩
 |false=>
 obtain⟨sm1,sm2,sm3⟩:=hsm rfl;obtain⟨p1,p2⟩:=ZB hs2 (by omega) hr2 (by omega);by_cases ce:oH v l=0;case neg=>
  have m1:=p1 ce;have t2:(!decide (oH v l=0))=true:=by rw[decide_eq_false ce];rfl
  simp only[SX,D8 gv,hf,m1,t2,wT,aA];exact⟨trivial,k2⟩
 obtain⟨M,V0,W0,k,m1,m2,m3,m4,m5⟩:=p2 ce;have hkp:=m5.kp;have hw0:=m5.w0.next;have gvV:∀U,Le W1 U->aR (.pointer (some ⟨W.next,0,none⟩)) U=some (.int .i64 (k:Int),U):=λU hU=>by rw[<-m4];exact lJ (dB ((hU.get _ (by omega)).trans gv)) rfl
 have d1:decide ((k:Int)<1)=false:=decide_eq_false (by omega);have d2:decide ((16:Int)<(k:Int))=false:=decide_eq_false (by omega);have z0:(!decide ((0:Int)=0))=false:=rfl;have b4:∀(b:Bool) (W':AW),aD Tryz.prog .neq 4 false false (.bool b) (.bool b) W'=some (.bool false,W'):=λb W'=>by rw[EQ (by kernel_rfl)];simp
 have hE:∀i:Nat,i<k->pM (i:Int) k now=if now<0 then 7 else 0:=λi hi=>by unfold pM;rw[if_neg (by omega)]
 have hE0:∀i:Nat,i<k->pM (i:Int) k 0=0:=λi hi=>by unfold pM;rw[if_neg (by omega),if_neg (by omega)]
 have hD:decide ((if now<0 then(7:Int)else 0)=0)=decide (0<=now):=by congr 1;apply propext;split<;>omega
 simp only[SX,IQ,IM,D8 gv,hf,m1,z0,Nat.zero_add,gvV V0 m3,d1,d2];refine bR k (by omega) (λi Q U=>Le V0 U/\Q 1=rv/\Q 2=.int .i64 now/\Q 3=.pointer (some ⟨W.next,0,none⟩)/\Q 7=mV M/\Q 9=.int .i64 (zA l.length k i:Int)/\Q 11=.int .i64 (i:Int)/\∃m,Lst V0.next U 2 oK (Q 10) m/\m.Perm (upD l k now i))
  (λr=>r.1=.exit 0/\Le V0 r.2.2/\r.2.1 1=rv/\r.2.1 2=.int .i64 now/\r.2.1 7=mV M/\r.2.1 9=.int .i64 (l.length:Int)/\∃m,Lst V0.next r.2.2 2 oK (r.2.1 10) m/\m.Perm (upD l k now k))
  ⟨Le.refl _,rfl,rfl,rfl,rfl,rfl,rfl,[],Lst.nil _ _ _ _,by unfold upD;split<;>exact .refl _⟩ ?_ ?_ ?_
 ·rintro i Q U hi ⟨u0,q1,q2,q3,q7,q9,q11,m,n1,n2⟩;unfold iI;have t1:((i:Int)<(k:Int)):=by omega
  have t6:=λW'=>bA (P:=Tryz.prog) (W:=W') (t:=3) (c:=false) (d:=true) (a:=(i:Int)) (b:=1) (by omega) (by omega)
  have e6:((i+1:Nat):Int)=(i:Int)+1:=by omega
  have hM:=m5.le u0;obtain⟨ua,Ua,a1,a2,a3⟩:=XC hM (i:Int);rw[hE0 i hi]at a1;have a3':SeL Ua ua (dO l k i):=by
   have:shL l k (i:Int)=dO l k i:=by unfold shL;rw[if_pos (hE0 i hi)];rfl
   rw[<-this];exact a3
  have hsum:zA l.length k i+CF l.length k i<=l.length:=by have h1:=a3d l.length k (show i+1<=k by omega);rw[ET (by omega)]at h1;exact h1
  have lV:Le W1 U:=m3.trans u0;simp only[SX,IQ,IM,q1,q2,q3,q7,q9,q11,gvV U lV,Nat.zero_add,t1,decide_true,a1,z0];refine PL (s:=zA l.length k i) hi (by omega) (by omega) (by omega) a3' (hr2.mono (lV.trans a2)) (gvV Ua (lV.trans a2)) ?_ ?_ ?_ ?_ ?_ ?_ λR' r1 r2 r3 r7 r9 r10 r11=>?_
  ·exact q1
  ·exact q3
  ·exact q9
  ·exact q11
  ·rfl
  ·rfl
  obtain⟨ub,Ub,d,b1,b2,b3,b5,b6⟩:=a2d (hM.le a2) (i:Int) now;rw[hE i hi]at b1 b5 b6;have hdp:d.Perm (if now<0 then []else(fK l (pO k i)).filter (dN now)):=by
   split
   ·rename_i c;rw[b5 (by rw[if_pos c];omega)]
   ·rename_i c;exact(b6 (by rw[if_neg c])).2
  have hdl:d.length<=100:=by
   have h1:=hdp.length_eq;have h2:=List.length_filter_le (dN now) (fK l (pO k i));have h3:=qJ l (pO k i);split at h1
   ·simp only[List.length_nil]at h1;omega
   ·omega
  have hin:∀x,x∈d->∃s:Nat,x.1=(s:Int)/\s % k=i:=λx hx=>by
   have h1:=hdp.mem_iff.1 hx;split at h1
   ·exact absurd h1 List.not_mem_nil
   ·obtain⟨j,-,j2,-,rfl⟩:=nG.1 (List.mem_filter.1 h1).1;exact⟨j,rfl,by simpa[pO]using j2⟩
  have r2':R' 2=.int .i64 now:=r2.trans q2;have r7':R' 7=mV M:=r7.trans q7;simp only[SX,r11,r2',r7',b1,hD,b4];refine QN hi (by omega) (by omega) b3.row hin (gvV Ub ((lV.trans a2).trans b2)) ?_ ?_ ?_ ?_ λR'' s1 s2 s3 s7 s9 s10 s11 s16=>?_
  ·exact r3
  ·exact r11
  ·rfl
  ·rfl
  have hml:m.length<=100:=by have h1:=n2.length_eq;have h2:=VF l now (show 0<k by omega) (show i<=k by omega);omega
  have s10':R'' 10=Q 10:=s10.trans r10;have s9':=s9.trans r9;obtain⟨v',Uc,y1,y2,y3,y4⟩:=Lst.cat a3T kX LY (n1.mono (a2.trans b2)) b3.row (λ_ _ _=>hoT) (by omega) (by omega) (by have:=u0.next;have:=a2.next;have:=b2.next;omega);simp only[SX,s10',s16,s11,y1,t6,aA];refine .inl ⟨trivial,y4 V0 (u0.trans (a2.trans b2)) (Nat.le_refl _),s1.trans r1,s2.trans r2',s3,s7.trans r7',s9',by rw[e6];rfl,m++d,y2,?_⟩;rw[ZR];exact n2.append hdp
 ·rintro Q U ⟨u0,q1,q2,q3,q7,q9,q11,m,n1,n2⟩;unfold iI;have t1:¬((k:Int)<(k:Int)):=by omega
  have lV:Le W1 U:=m3.trans u0;rw[ET (by omega)]at q9;simp only[SX,q3,q11,gvV U lV,Nat.zero_add,t1,decide_false,aA];exact⟨by simp,trivial,u0,q1,q2,q7,q9,m,n1,n2⟩
 ·rintro⟨q,Q,U⟩ ⟨rfl,u0,q1,q2,q7,q9,m,n1,n2⟩;simp only at u0 q1 q2 q7 q9 n1;obtain⟨uc,Uc,all,c1,c2,c3,c5,c6⟩:=XO (m5.le u0) now;have hap:=a3e (show 0<k by omega) c5 c6;have hma:all.Perm m:=hap.trans n2.symm;have hdr:HoL Uc (Q 10) m:=(n1.mono c2).row kX LC;have hmlen:m.length<=100:=by have h1:=n2.length_eq;have h2:=VF l now (show 0<k by omega) (show k<=k by omega);omega
  have hAs:Asc all:=by
   by_cases c:now<0
   ·rw[c5 c];exact List.Pairwise.nil
   ·exact(c6 (by omega)).1
  have nd:(all.map (·.1)).Nodup:=by
   by_cases c:now<0
   ·rw[c5 c];exact List.nodup_nil
   ·exact YC (c6 (by omega))
  have t2:(!decide ((all.length:Int)=(m.length:Int)))=false:=by rw[hma.length_eq];simp
  have t3:(!decide ((l.length:Int)=(l.length:Int)))=false:=by simp
  have lU:Le W1 Uc:=(m3.trans u0).trans c2;simp only[SX,IQ,IM,q1,q2,q7,q9,c1,hD,b4,c3.row.len p9,hdr.len p9,t2,(hr2.mono lU).len uE,t3];refine QD (by omega) hdr c3.row hma hAs nd ?_ ?_ ?_ λR'=>?_
  ·exact rfl
  ·rfl
  ·rfl
  simp only[SX,wT,aA];exact⟨trivial,k2.trans lU⟩
end Go.Proofs.YtnigceddndemkaaGreatDoor.Ho
