/- Contracts of functions, and their laws. -/
import Derived.Test.YtnigceddndemkaaGreatDoorPlainA
import Derived.Test.YtnigceddndemkaaGreatDoorOpnA
import Derived.Test.YtnigceddndemkaaGreatDoorSDec
import Derived.KernelRfl
set_option linter.unusedVariables false
set_option linter.unusedSimpArgs false
set_option linter.unusedSectionVars false
namespace Go.Proofs.YtnigceddndemkaaGreatDoor
open Go Go.Eng
set_option maxRecDepth 100000
theorem KE(a b c d:Value)(W:AW):cO (.agg #[a,b,c,d]) W=some (.pointer (some ⟨W.next,0,none⟩),W.add (.cells [a,b,c,d])):=dN _
theorem nX(W:AW)(cs ds:List Value):(W.add (.cells cs)).put W.next (.cells ds)=W.add (.cells ds):=FT W _ _
theorem a15{b:Nat}{a c d x y z:Value}{W:AW}(h:rwCells W b=some [x,y,z])(h1:Eng.one a=true)(h2:Eng.one c=true)(h3:Eng.one d=true):eY 3 (.pointer (some ⟨b,0,none⟩)) (.agg #[a,c,d]) W=some (undef,W.put b (.cells [a,c,d])):=by
 rw[wO,h];have e:(#[a,c,d]:Array Value).toList.all Eng.one=true:=by simp[h1,h2,h3]
 simp only[Option.bind_some,e,and_true];rfl
theorem Row.one{α:Type}{W:AW}{z:Nat}{f:List Value->Nat->α->Prop}{v:Value}{l:List α}(h:Row W z f v l):Eng.one v=true:=by obtain⟨a,c,rfl,_⟩:=h;rfl
theorem yU{s:Sec}{b:List Sec}(h:wE s b=0):zJ s.name=true/\(b.any λx=>x.name==s.name)=false/\s.rows.length≠0/\s.rows.length<=16/\(∀n∈s.rows,1<=n/\n<=64)/\0<=s.q/\s.q<=64:=by
 unfold wE at h;split at h
 ·exact absurd h (by decide)
 rename_i h1;split at h
 ·exact absurd h (by decide)
 rename_i h2;split at h
 ·exact absurd h (by decide)
 rename_i h3;split at h
 ·exact absurd h (by decide)
 rename_i h4;split at h
 ·exact absurd h (by decide)
 rename_i h5;split at h
 ·exact absurd h (by decide)
 rename_i h6;refine⟨by simpa using h1,by simpa using h2,h3,by omega,?_,?_⟩
 ·intro n hn;have:nD n 1 64=false:=by
   cases ho:nD n 1 64
   ·rfl
   ·exact absurd (List.any_eq_true.2 ⟨n,hn,ho⟩) h5
  unfold nD at this;simp only[Bool.or_eq_false_iff,decide_eq_false_iff_not]at this;omega
 ·unfold nD at h6;simp only[Bool.or_eq_true,decide_eq_true_iff]at h6;omega
theorem mL{l:List Int}{k:Nat}(hk:k<l.length):gN (l.take (k+1))=gN (l.take k)+l[k]:=by rw[<-List.take_append_getElem hk,W6]
theorem mP{l:List Sec}{k:Nat}(hk:k<l.length):c9 (l.take (k+1))=c9 (l.take k)+gN l[k].rows:=by unfold c9;rw[List.map_take,List.map_take,mL (by rw[List.length_map];exact hk),List.getElem_map]
theorem pR{l:List Int}(h:∀n∈l,1<=n/\n<=64)(k:Nat):(0<=gN (l.take k)/\gN (l.take k)<=64*k)/\(min k l.length:Int)<=gN (l.take k):=by
 induction k with
 |zero=>simp[gN];omega
 |succ k ih=>
  by_cases hk:k<l.length
  ·rw[mL hk];have:=h _ (List.getElem_mem hk);omega
  ·rw[List.take_of_length_le (by omega)]at ih|-;omega
theorem EJ{l:List Sec}{k:Nat}(h:mE l k=none)(hk:k<l.length):mE l (k+1)=if wE l[k] (l.take k)=0 then none else some (k,wE l[k] (l.take k)):=by show(match mE l k with|some r=>some r|none=>match l[k]? with|some s=>if wE s (l.take k)=0 then none else some (k,wE s (l.take k))|none=>none)=_;rw[h,List.getElem?_eq_getElem hk]
theorem EZ{l:List Sec}{k:Nat}(h:mE l k=none):∀i (hi:i<k) (hl:i<l.length),wE l[i] (l.take i)=0:=by
 induction k with
 |zero=>intro i hi;omega
 |succ k ih=>
  have h1:mE l k=none:=by
   cases hb:mE l k with
   |none=>rfl
   |some r=>rw[xD hb (Nat.le_succ k)]at h;cases h
  intro i hi hl;by_cases e:i=k
  ·subst e;rw[EJ h1 hl]at h;split at h
   ·assumption
   ·cases h
  ·exact ih h1 i (by omega) hl
theorem IZ{l:List Sec}{k:Nat}(h:mE l k=none)(hk:k<=l.length):0<=c9 (l.take k)/\c9 (l.take k)<=1024*k:=by
 induction k with
 |zero=>simp[c9,gN]
 |succ k ih=>
  have h1:mE l k=none:=by
   cases hb:mE l k with
   |none=>rfl
   |some r=>rw[xD hb (Nat.le_succ k)]at h;cases h
  have h2:=ih h1 (by omega);have hk':k<l.length:=by omega
  obtain⟨_,_,_,h3,h4,_⟩:=yU (EZ h k (by omega) hk');rw[mP hk'];have h5:=(pR h4 l[k].rows.length).1;rw[List.take_length]at h5;omega
theorem I9{v:Ven}{sv:Value}{W:AW}(hs:SecsC W sv v.secs)(hv:v.secs.length<1000):aK (.func (.func 129) #[] #[]) [qO v sv] W=some (.tuple #[.int .i64 (pD v).1,.int .i64 (pD v).2],W):=by
 refine aM rfl ?_ BL;unfold zO;have hle:Le W (W.add (.cells [.int .i64 v.sh,.int .i64 v.ttl,.int .i64 v.ses,sv])):=(Le.refl W).add _;have hc:cellsAt (W.add (.cells [.int .i64 v.sh,.int .i64 v.ttl,.int .i64 v.ses,sv])) W.next=some [.int .i64 v.sh,.int .i64 v.ttl,.int .i64 v.ses,sv]:=cM;have hn:W.next<(W.add (.cells [.int .i64 v.sh,.int .i64 v.ttl,.int .i64 v.ses,sv])).next:=by rw[AW.add_next];omega
 simp only[SX,KE,Nat.zero_add];generalize hW1:W.add (.cells [.int .i64 v.sh,.int .i64 v.ttl,.int .i64 v.ses,sv])=W1 at *;have c0:aN (.pointer (some ⟨W.next,0,none⟩)) W1=some (.int .i64 v.sh,W1):=bS hc rfl;have c1:aN (.pointer (some ⟨W.next,1,none⟩)) W1=some (.int .i64 v.ttl,W1):=bS hc rfl;have c2:aN (.pointer (some ⟨W.next,2,none⟩)) W1=some (.int .i64 v.ses,W1):=bS hc rfl;have c3:∀W',Le W1 W'->aN (.pointer (some ⟨W.next,3,none⟩)) W'=some (sv,W'):=λW' k=>bS (by rw[k.cellsAt hn];exact hc) rfl
 simp only[SX,c0,kX];unfold pD AA;cases n1:nD v.sh 1 16;case true=>simp only[SX,Bool.true_or,if_true,aA];exact⟨trivial,hle⟩
 simp only[SX,Nat.zero_add,c1,qE];cases n2:nD v.ttl 1 1000000000;case true=>simp only[SX,Bool.true_or,Bool.or_true,if_true,aA];exact⟨trivial,hle⟩
 simp only[SX,Nat.zero_add,c2,qE];cases n3:nD v.ses 1 1000000000;case true=>simp only[SX,Bool.true_or,Bool.or_true,if_true,aA];exact⟨trivial,hle⟩
 simp only[SX,Nat.zero_add,c3 _ (.refl _),hs.1.len yE,Bool.or_self,Bool.false_eq_true,if_false];by_cases n4:v.secs.length=0;case pos=>
  have e:((v.secs.length:Int)=0):=by omega
  simp only[SX,e,if_pos n4,aA];exact⟨trivial,hle⟩
 have e4:¬((v.secs.length:Int)=0):=by omega
 simp only[SX,e4,if_neg n4,Nat.zero_add,c3 _ (.refl _),hs.1.len yE];by_cases n5:8<v.secs.length;case pos=>
  have e:((8:Int)<(v.secs.length:Int)):=by omega
  simp only[SX,e,if_pos n5,aA];exact⟨trivial,hle⟩
 have e5:¬((8:Int)<(v.secs.length:Int)):=by omega
 simp only[SX,e5,if_neg n5,Nat.zero_add,c3 _ (.refl _),hs.1.len yE];refine bI v.secs.length (by omega) (λk R W'=>Le W1 W'/\R 1=.pointer (some ⟨W.next,0,none⟩)/\R 4=.int .i64 (c9 (v.secs.take k))/\R 35=sv/\R 36=.int .i64 (v.secs.length:Int)/\R 37=.int .i64 (k:Int)/\mE v.secs k=none)
  (λr=>Le W1 r.2.2/\((r.1=.exit 1/\r.2.1 4=.int .i64 (c9 v.secs)/\mE v.secs v.secs.length=none)\/(r.1=.ret/\∃i e,r.2.1 2=.int .i64 ((i:Nat):Int)/\r.2.1 3=.int .i64 e/\mE v.secs v.secs.length=some (i,e)))) ⟨.refl _,rfl,rfl,rfl,rfl,rfl,rfl⟩ ?_ ?_ ?_
 ·rintro k R W' hk ⟨hl,h1,h4,h35,h36,h37,hb⟩;unfold mT;obtain⟨b,o,rv,g1,g2,g3,_⟩:=hs.1.get hk;obtain⟨u,u1,u2⟩:=hs.pre hk;have e1:((k:Int)<(v.secs.length:Int)):=by omega
  simp only[SX,h35,h36,h37,e1,g1,g3 _ (hle.trans hl),a0X,a15 eC (tS _) (Row.one g2) (pU _ _),nX];have hl2:Le W1 (W'.add (.cells [.string (aJ v.secs[k].name),rv,.int .i64 v.secs[k].q])):=hl.add _;have hc2:cellsAt (W'.add (.cells [.string (aJ v.secs[k].name),rv,.int .i64 v.secs[k].q])) W'.next=some [.string (aJ v.secs[k].name),rv,.int .i64 v.secs[k].q]:=cM;generalize hW2:W'.add (.cells [.string (aJ v.secs[k].name),rv,.int .i64 v.secs[k].q])=W2 at *;have d3:dS 3 (.pointer (some ⟨W'.next,0,none⟩)) W2=some (K4 v.secs[k] rv,W2):=sF hc2 rfl;have d1:aN (.pointer (some ⟨W'.next,1,none⟩)) W2=some (rv,W2):=bS hc2 rfl;have hlr:=(g2.mono (hle.trans hl2)).len (P:=Tryz.prog) HB;simp only[SX,d3,h1,Nat.zero_add,c3 _ hl2,u1,PM (g2.mono (hle.trans hl2)) (u2.mono (hle.trans hl2)) (by rw[List.length_take];omega)];have hbs:=EJ hb hk;by_cases hz:wE v.secs[k] (v.secs.take k)=0
  ·rw[if_pos hz]at hbs;obtain⟨_,_,_,hr1,hr2,_⟩:=yU hz;have htb:=IZ hb (by omega);simp only[SX,hz,d1,hlr];refine bI v.secs[k].rows.length (by omega) (λj R' W3=>W3=W2/\R' 1=.pointer (some ⟨W.next,0,none⟩)/\R' 4=.int .i64 (c9 (v.secs.take k)+gN (v.secs[k].rows.take j))/\R' 35=sv/\R' 36=.int .i64 (v.secs.length:Int)/\R' 37=.int .i64 (k:Int)/\R' 53=rv/\R' 54=.int .i64 (v.secs[k].rows.length:Int)/\R' 55=.int .i64 (j:Int))
    (λr=>r.2.2=W2/\r.1=.exit 3/\r.2.1 1=.pointer (some ⟨W.next,0,none⟩)/\r.2.1 4=.int .i64 (c9 (v.secs.take (k+1)))/\r.2.1 35=sv/\r.2.1 36=.int .i64 (v.secs.length:Int)/\r.2.1 37=.int .i64 (k:Int)) ⟨rfl,h1,by rw[List.take_zero,show gN []=0 from rfl,Int.add_zero];exact h4,h35,h36,h37,rfl,rfl,rfl⟩ ?_ ?_ ?_
   ·rintro j R' W3 hj ⟨rfl,h1,h4,h35,h36,h37,h53,h54,h55⟩;unfold jI;obtain⟨p,p1,p2⟩:=g2.get hj;have e1:((j:Int)<(v.secs[k].rows.length:Int)):=by omega
    have e2:(j:Int)+1=((j+1:Nat):Int):=by omega
    have ea:=aX (P:=Tryz.prog) (W:=W3) (t:=3) (c:=false) (d:=true) (a:=(j:Int)) (b:=1) (by omega) (by omega);have hsb:=(pR hr2 j).1;have hsn:=hr2 _ (List.getElem_mem hj);have eb:=aX (P:=Tryz.prog) (W:=W3) (t:=3) (c:=false) (d:=false) (a:=c9 (v.secs.take k)+gN (v.secs[k].rows.take j)) (b:=v.secs[k].rows[j]) (by omega) (by omega);simp only[SX,h4,h53,h54,h55,e1,p1,p2 _ (hle.trans hl2),ea,eb,aA];refine .inl ⟨trivial,trivial,h1,?_,h35,h36,h37,h53,h54,by rw[<-e2];rfl⟩;rw[mL hj,<-Int.add_assoc];rfl
   ·rintro R' W3 ⟨rfl,h1,h4,h35,h36,h37,h53,h54,h55⟩;unfold jI;have e1:¬((v.secs[k].rows.length:Int)<(v.secs[k].rows.length:Int)):=by omega
    simp only[SX,h54,h55,e1,aA];refine⟨by simp,trivial,trivial,h1,?_,h35,h36,h37⟩;rw[mP hk];rw[List.take_length]at h4;exact h4
   ·rintro⟨x,R',W3⟩ ⟨hW,rfl,h1,h4,h35,h36,h37⟩;simp only at hW h1 h4 h35 h36 h37;subst hW;have e2:(k:Int)+1=((k+1:Nat):Int):=by omega
    have ea:=aX (P:=Tryz.prog) (W:=W3) (t:=3) (c:=false) (d:=true) (a:=(k:Int)) (b:=1) (by omega) (by omega);simp only[SX,h37,ea,aA];exact .inl ⟨trivial,hl2,h1,h4,h35,h36,by rw[<-e2];rfl,hbs⟩
  ·rw[if_neg hz]at hbs;simp only[SX,hz,aA];exact .inr ⟨by simp,hl2,.inr ⟨trivial,k,_,rfl,rfl,xD hbs (by omega)⟩⟩
 ·rintro R W' ⟨hl,h1,h4,h35,h36,h37,hb⟩;unfold mT;have e1:¬((v.secs.length:Int)<(v.secs.length:Int)):=by omega
  rw[List.take_length]at h4;simp only[SX,h36,h37,e1,aA];exact⟨by simp,hl,.inl ⟨trivial,h4,hb⟩⟩
 ·rintro⟨x,R,W'⟩ ⟨hl,hq⟩;simp only at hl hq;rcases hq with⟨rfl,h4,hb⟩|⟨rfl,i,e,h2,h3,hb⟩
  ·rw[hb];by_cases n6:4096<c9 v.secs
   ·simp only[SX,h4,n6,if_true,aA];exact⟨trivial,hle.trans hl⟩
   ·simp only[SX,h4,n6,if_false,aA];exact⟨trivial,hle.trans hl⟩
  ·rw[hb];simp only[SX,h2,h3,aA];exact⟨trivial,hle.trans hl⟩
abbrev Q1:=Nat×Nat×Nat
def RT(i k m:Nat):List Q1:=(List.range m).map λj=>(i,k,j)
def MH(i:Nat)(rows:List Int)(k:Nat):List Q1:=(List.range k).flatMap λj=>RT i j (rows.getD j 0).toNat
def MD(l:List Sec)(n:Nat):List Q1:=(List.range n).flatMap λi=>match l[i]? with
 |some s=>MH i s.rows s.rows.length
 |none=>[]
def tV(l:List Sec):List Q1:=MD l l.length
theorem QF(i:Nat)(rows:List Int){k:Nat}(hk:k<rows.length):MH i rows (k+1)=MH i rows k++RT i k rows[k].toNat:=by unfold MH;rw[List.range_succ,List.flatMap_append,List.flatMap_cons,List.flatMap_nil,List.append_nil,List.getD_eq_getElem?_getD,List.getElem?_eq_getElem hk,Option.getD_some]
theorem QL(l:List Sec){n:Nat}(hn:n<l.length):MD l (n+1)=MD l n++MH n l[n].rows l[n].rows.length:=by unfold MD;rw[List.range_succ,List.flatMap_append,List.flatMap_cons,List.flatMap_nil,List.append_nil,List.getElem?_eq_getElem hn]
structure Good (l:List Sec):Prop where
 len:l.length<=8
 rows:∀s∈l,s.rows.length≠0/\s.rows.length<=16/\∀n∈s.rows,1<=n/\n<=64
theorem Good.of{l:List Sec}(h:l.length<=8)(hb:mE l l.length=none):Good l:=
 ⟨h,λs hs=>by obtain⟨i,hi,rfl⟩:=List.getElem_of_mem hs;obtain⟨_,_,h3,h4,h5,_⟩:=yU (EZ hb i hi hi);exact⟨h3,h4,h5⟩⟩
theorem UE(i k m:Nat):(RT i k m).length=m:=by simp[RT]
theorem HY{i:Nat}{rows:List Int}(h:∀n∈rows,1<=n/\n<=64):∀{k:Nat},k<=rows.length->((MH i rows k).length:Int)=gN (rows.take k)
 |0,_=>by simp[MH,gN]
 |k+1,hk=>by
  have hk':k<rows.length:=by omega
  rw[QF i rows hk',List.length_append,UE,mL hk',<-HY (i:=i) h (by omega:k<=rows.length)];have:=h _ (List.getElem_mem hk');omega
theorem D8{l:List Sec}(h:Good l):∀{n:Nat},n<=l.length->((MD l n).length:Int)=c9 (l.take n)/\(MD l n).length<=1024*n
 |0,_=>by simp[MD,c9,gN]
 |n+1,hn=>by
  have hn':n<l.length:=by omega
  obtain⟨h1,h2,h3⟩:=h.rows _ (List.getElem_mem hn');have ih:=D8 h (by omega:n<=l.length);have hl:=HY (i:=n) h3 (Nat.le_refl _);have hb:=(pR h3 l[n].rows.length).1;rw[List.take_length]at hl hb;rw[QL l hn',List.length_append,mP hn'];omega
def a4E(p:Q1):List Value:=[.int .i64 (p.1:Int),.int .i64 (p.2.1:Int),.int .i64 (p.2.2:Int)]
def a1U(cs:List Value)(p:Nat)(a:Q1):Prop:=cs[p]? =some (.int .i64 (a.1:Int))/\cs[p+1]? =some (.int .i64 (a.2.1:Int))/\cs[p+2]? =some (.int .i64 (a.2.2:Int))
abbrev Plcs(W:AW)(v:Value)(l:List Q1):Prop:=Row W 3 a1U v l
theorem sO{v:Ven}(h:(pD v).2=0):Good v.secs/\AA v=false/\0<v.secs.length/\mE v.secs v.secs.length=none/\c9 v.secs<=4096/\(pD v).1=0:=by
 unfold pD at h|-;split at h
 ·exact absurd h (by decide)
 rename_i h1;split at h
 ·exact absurd h (by decide)
 rename_i h2;split at h
 ·exact absurd h (by decide)
 rename_i h3;cases hb:mE v.secs v.secs.length with
 |some r=>
  obtain⟨i,e⟩:=r;rw[hb]at h;simp only at h;subst h;exfalso;have:∀n,mE v.secs n≠some (i,0):=by
   intro n;induction n with
   |zero=>simp[mE]
   |succ n ih=>
    intro hn;have hn':(match mE v.secs n with|some r=>some r|none=>match v.secs[n]? with|some s=>if wE s (v.secs.take n)=0 then none else some (n,wE s (v.secs.take n))|none=>none)=some (i,0):=hn;cases hbn:mE v.secs n with
    |some r=>rw[hbn]at hn';simp only at hn';rw[hn']at hbn;exact ih hbn
    |none=>
     rw[hbn]at hn';simp only at hn';split at hn'
     ·split at hn'
      ·cases hn'
      ·rename_i hz;injection hn' with hn';injection hn' with _ e;exact hz e
     ·cases hn'
  exact this _ hb
 |none=>
  rw[hb]at h;simp only at h|-;split at h
  ·exact absurd h (by decide)
  rename_i h4;rw[if_neg h4,if_neg h1,if_neg h2,if_neg h3];exact⟨Good.of (by omega) hb,by simpa using h1,by omega,trivial,by omega,rfl⟩
theorem SJ(v:Ven)(sv:Value)(W:AW):∃W1,cO (qO v sv) W=some (.pointer (some ⟨W.next,0,none⟩),W1)/\Le W W1/\W.next<W1.next/\
 (∀W',Le W1 W'->dS 4 (.pointer (some ⟨W.next,0,none⟩)) W'=some (qO v sv,W'))/\(∀W',Le W1 W'->aN (.pointer (some ⟨W.next,0,none⟩)) W'=some (.int .i64 v.sh,W'))/\(∀W',Le W1 W'->aN (.pointer (some ⟨W.next,3,none⟩)) W'=some (sv,W')):=by
 have hc:cellsAt (W.add (.cells [.int .i64 v.sh,.int .i64 v.ttl,.int .i64 v.ses,sv])) W.next=some [.int .i64 v.sh,.int .i64 v.ttl,.int .i64 v.ses,sv]:=cM;have hn:W.next<(W.add (.cells [.int .i64 v.sh,.int .i64 v.ttl,.int .i64 v.ses,sv])).next:=by rw[AW.add_next];omega
 exact⟨_,KE _ _ _ _ W,(Le.refl W).add _,hn,λW' k=>sF (by rw[k.cellsAt hn];exact hc) rfl,λW' k=>bS (by rw[k.cellsAt hn];exact hc) rfl,λW' k=>bS (by rw[k.cellsAt hn];exact hc) rfl⟩
def hY(v:Ven):Int×Int:=if(pD v).2=0 then(c9 v.secs,0)else(0,(pD v).2)
structure RowT where
 sec:Nat
 row:Nat
 first:Int
 many:Int
abbrev LV(r:RowT):Value:=.agg #[.int .i64 (r.sec:Int),.int .i64 (r.row:Int),.int .i64 r.first,.int .i64 r.many]
def y9(l:List Sec)(i:Nat)(rows:List Int)(k:Nat):List RowT:=(List.range k).map λj=>⟨i,j,c9 (l.take i)+gN (rows.take j),rows.getD j 0⟩
def oE(l:List Sec)(n:Nat):List RowT:=(List.range n).flatMap λi=>match l[i]? with
 |some s=>y9 l i s.rows s.rows.length
 |none=>[]
def i9(l:List Sec):List RowT:=oE l l.length
theorem oI(l:List Sec)(i:Nat)(rows:List Int){k:Nat}(hk:k<rows.length):y9 l i rows (k+1)=y9 l i rows k++[⟨i,k,c9 (l.take i)+gN (rows.take k),rows[k]⟩]:=by unfold y9;rw[List.range_succ,List.map_append,List.map_cons,List.map_nil,List.getD_eq_getElem?_getD,List.getElem?_eq_getElem hk,Option.getD_some]
theorem nJ(l:List Sec){n:Nat}(hn:n<l.length):oE l (n+1)=oE l n++y9 l n l[n].rows l[n].rows.length:=by unfold oE;rw[List.range_succ,List.flatMap_append,List.flatMap_cons,List.flatMap_nil,List.append_nil,List.getElem?_eq_getElem hn]
theorem T7{l:List Sec}{i:Nat}{rows:List Int}{k n:Nat}(h:k<=n)(hn:n<=rows.length):y9 l i rows k<+:y9 l i rows n:=by
 induction n with
 |zero=>obtain rfl:k=0:=by omega
        exact List.prefix_refl _
 |succ n ih=>
  by_cases e:k=n+1
  ·subst e;exact List.prefix_refl _
  ·rw[oI l i rows (by omega)];exact(ih (by omega) (by omega)).trans (List.prefix_append _ _)
theorem P7{l:List Sec}{k n:Nat}(h:k<=n)(hn:n<=l.length):oE l k<+:oE l n:=by
 induction n with
 |zero=>obtain rfl:k=0:=by omega
        exact List.prefix_refl _
 |succ n ih=>
  by_cases e:k=n+1
  ·subst e;exact List.prefix_refl _
  ·rw[nJ l (by omega)];exact(ih (by omega) (by omega)).trans (List.prefix_append _ _)
theorem RU{l:List Sec}{i k:Nat}(hi:i<l.length)(hk:k<l[i].rows.length):(oE l i++y9 l i l[i].rows k)++[⟨i,k,c9 (l.take i)+gN (l[i].rows.take k),l[i].rows[k]⟩]<+:i9 l:=by rw[List.append_assoc,<-oI l i _ hk];refine List.IsPrefix.trans ?_ (P7 (k:=i+1) (by omega) (Nat.le_refl _));rw[nJ l hi];exact(List.prefix_append_right_inj _).2 (T7 (by omega) (Nat.le_refl _))
theorem a3t(a b c d:Int)(W:AW):dR Tryz.prog 210 [(0,.int .i64 a),(1,.int .i64 b),(2,.int .i64 c),(3,.int .i64 d)] W=some (.agg #[.int .i64 a,.int .i64 b,.int .i64 c,.int .i64 d],W):=Eq.trans (by kernel_rfl) rfl
theorem WH{v:Ven}{sv f:Value}{bx:Nat}{W0 W:AW}(hs:Secs W0 sv v.secs)(hg:Good v.secs)(hb:aN (.pointer (some ⟨bx,3,none⟩)) W=some (sv,W))(I:List RowT->AW->Prop)(Q:AW->Prop)
 (hI:I [] W)(hS:∀pre W',I pre W'->Le W0 W')(hA:∀pre W' cs,I pre W'->I pre (W'.add (.cells cs)))
 (step:∀pre r W',pre++[r]<+:i9 v.secs->I pre W'->∃b W2,aK f [LV r] W'=some (.bool b,W2)/\(b=true->I (pre++[r]) W2)/\(b=false->Q W2)):
 ∃W2,aK (.func (.func 190) #[] #[.pointer (some ⟨bx,0,none⟩)]) [f] W=some (.tuple #[],W2)/\(I (i9 v.secs) W2\/Q W2):=by
 have main:Ok (pE aK f (.pointer (some ⟨bx,0,none⟩)) W) λr=>r.1=.tuple #[]/\(I (i9 v.secs) r.2\/Q r.2):=by
  unfold pE;have hlen:=hg.len;have add1:∀(k:Nat) (W':AW),k<1000000->aG Tryz.prog .add 3 false true (.int .i64 (k:Int)) (.int .i64 1) W'=some (.int .i64 ((k+1:Nat):Int),W'):=λk W' hk=>aX (by omega) (by omega)
  simp only[SX,Nat.zero_add,hb,hs.len yE];refine bI v.secs.length (by omega) (λi R W'=>R 0=f/\R 3=.int .i64 (c9 (v.secs.take i))/\R 9=sv/\R 10=.int .i64 (v.secs.length:Int)/\R 11=.int .i64 (i:Int)/\I (oE v.secs i) W')
   (λr=>(r.1=.exit 0/\I (i9 v.secs) r.2.2)\/(r.1=.ret/\Q r.2.2)) ⟨rfl,rfl,rfl,rfl,rfl,hI⟩ ?_ ?_ ?_
  ·rintro i R W' hi ⟨h0,h3,h9,h10,h11,hi'⟩;unfold lR;have e1:((i:Int)<(v.secs.length:Int)):=by omega
   obtain⟨b,o,rv,g1,g2,g3,_⟩:=hs.get hi;obtain⟨r1,r2,r3⟩:=hg.rows _ (List.getElem_mem hi);have htb:0<=c9 (v.secs.take i)/\c9 (v.secs.take i)<=1024*i:=by have:=D8 hg (by omega:i<=v.secs.length);omega
   have hI2:=hA _ _ [.string (aJ v.secs[i].name),rv,.int .i64 v.secs[i].q] hi';have hc2:cellsAt (W'.add (.cells [.string (aJ v.secs[i].name),rv,.int .i64 v.secs[i].q])) W'.next=some [.string (aJ v.secs[i].name),rv,.int .i64 v.secs[i].q]:=cM;simp only[SX,h9,h10,h11,e1,g1,g3 _ (hS _ _ hi'),a0X,a15 eC (tS _) (Row.one g2) (pU _ _),nX,Nat.zero_add];generalize hW2:W'.add (.cells [.string (aJ v.secs[i].name),rv,.int .i64 v.secs[i].q])=W2 at *;have d1:aN (.pointer (some ⟨W'.next,1,none⟩)) W2=some (rv,W2):=bS hc2 rfl;simp only[SX,d1,g2.len HB];refine bI v.secs[i].rows.length (by omega) (λk R W'=>R 0=f/\R 3=.int .i64 (c9 (v.secs.take i)+gN (v.secs[i].rows.take k))/\R 4=.int .i64 (i:Int)/\R 9=sv/\R 10=.int .i64 (v.secs.length:Int)/\R 11=.int .i64 (i:Int)/\R 17=rv/\R 18=.int .i64 (v.secs[i].rows.length:Int)/\R 19=.int .i64 (k:Int)/\I (oE v.secs i++y9 v.secs i v.secs[i].rows k) W')
    (λr=>(r.1=.exit 2/\r.2.1 0=f/\r.2.1 3=.int .i64 (c9 (v.secs.take (i+1)))/\r.2.1 9=sv/\r.2.1 10=.int .i64 (v.secs.length:Int)/\r.2.1 11=.int .i64 (i:Int)/\I (oE v.secs (i+1)) r.2.2)\/(r.1=.ret/\Q r.2.2))
    ⟨h0,by rw[List.take_zero,show gN []=0 from rfl,Int.add_zero];exact h3,rfl,h9,h10,h11,rfl,rfl,rfl,by rw[show y9 v.secs i v.secs[i].rows 0=[]from rfl,List.append_nil];exact hI2⟩ ?_ ?_ ?_
   ·rintro k R W' hk ⟨h0,h3,h4,h9,h10,h11,h17,h18,h19,hi'⟩;unfold iK;have e1:((k:Int)<(v.secs[i].rows.length:Int)):=by omega
    obtain⟨p,p1,p2⟩:=g2.get hk;obtain⟨c,W3,s1,s2,s3⟩:=step _ ⟨i,k,c9 (v.secs.take i)+gN (v.secs[i].rows.take k),v.secs[i].rows[k]⟩ W' (RU hi hk) hi';have hsb:=(pR r3 k).1;have hsn:=r3 _ (List.getElem_mem hk);have eb:=aX (P:=Tryz.prog) (W:=W3) (t:=3) (c:=false) (d:=false) (a:=c9 (v.secs.take i)+gN (v.secs[i].rows.take k)) (b:=v.secs[i].rows[k]) (by omega) (by omega);simp only[SX,h0,h3,h4,h17,h18,h19,e1,p1,p2 _ (hS _ _ hi'),a3t,s1];cases c
    ·simp only[SX,aA];exact .inr ⟨by simp,.inr ⟨trivial,s3 rfl⟩⟩
    ·simp only[SX,eb,add1 k _ (by omega),aA];refine .inl ⟨trivial,h0,?_,h4,h9,h10,h11,h17,h18,rfl,?_⟩
     ·rw[mL hk,<-Int.add_assoc];rfl
     ·rw[oI _ _ _ hk,<-List.append_assoc];exact s2 rfl
   ·rintro R W' ⟨h0,h3,h4,h9,h10,h11,h17,h18,h19,hi'⟩;unfold iK;have e1:¬((v.secs[i].rows.length:Int)<(v.secs[i].rows.length:Int)):=by omega
    simp only[SX,h18,h19,e1,aA];refine⟨by simp,.inl ⟨trivial,h0,?_,h9,h10,h11,?_⟩⟩
    ·rw[mP hi];rw[List.take_length]at h3;exact h3
    ·rw[nJ _ hi];exact hi'
   ·rintro⟨x,R,W'⟩ hq;rcases hq with⟨rfl,h0,h3,h9,h10,h11,hi'⟩|⟨rfl,hq⟩
    ·simp only at h0 h3 h9 h10 h11 hi';simp only[SX,h11,add1 i _ (by omega),aA];exact .inl ⟨trivial,h0,h3,h9,h10,rfl,hi'⟩
    ·simp only[SX,aA];exact .inr ⟨by simp,.inr ⟨trivial,hq⟩⟩
  ·rintro R W' ⟨h0,h3,h9,h10,h11,hi'⟩;unfold lR;have e1:¬((v.secs.length:Int)<(v.secs.length:Int)):=by omega
   simp only[SX,h10,h11,e1,aA];exact⟨by simp,.inl ⟨trivial,hi'⟩⟩
  ·rintro⟨x,R,W'⟩ hq;rcases hq with⟨rfl,hi'⟩|⟨rfl,hq⟩
   ·simp only[SX,aA];exact⟨trivial,.inl hi'⟩
   ·simp only[SX,aA];exact⟨trivial,.inr hq⟩
 obtain⟨⟨r,W'⟩,h1,h2,h3⟩:=main;simp only at h2 h3;subst h2;exact⟨W',by rw[A0 h1,cZ rfl],h3⟩
theorem XX{v:Ven}{sv:Value}(W:AW):∃W1,aK (.func (.func 130) #[] #[]) [qO v sv] W=some (.func (.func 190) #[] #[.pointer (some ⟨W.next,0,none⟩)],W1)/\Le W W1/\W.next<W1.next/\(∀W',Le W1 W'->aN (.pointer (some ⟨W.next,3,none⟩)) W'=some (sv,W')):=by
 obtain⟨W1,hB,hle,hn,c4,c0,c3⟩:=SJ v sv W;refine⟨W1,?_,hle,hn,c3⟩;have:uO aK (qO v sv) W=some (.func (.func 190) #[] #[.pointer (some ⟨W.next,0,none⟩)],W1):=by unfold uO;simp only[SX,hB]
 rw[DO this,cZ rfl]
theorem ML{v:Ven}{sv:Value}{W0 W:AW}{bx nt:Nat}{R:Nat->Value}{ps:Array Tmp}{ac bd:Code}(hs:Secs W0 sv v.secs)(hg:Good v.secs)
 (hb:aN (.pointer (some ⟨bx,3,none⟩)) (W.add (.loop .ready none R nt ps ac bd))=some (sv,W.add (.loop .ready none R nt ps ac bd)))(hp:ps.size=1)
 (J:List RowT->AW->Prop)(Q:X->AW->Prop)(h0:J [] (W.add (.loop .ready none R nt ps ac bd)))
 (hS:∀pre W',J pre W'->Le W0 W')(hA:∀pre W' cs,J pre W'->W.next<W'.next->J pre (W'.add (.cells cs)))(hP:∀pre W' o,J pre W'->J pre (W'.put W.next o))(hQ:∀x W' o,Q x W'->Q x (W'.put W.next o))
 (d:Nat)(has:∀r W' R',R'=lN ps.toList [LV r] R->fG Tryz.prog aK false nt ac LT R' W' nK=some (.normal,cU R' (some d) (.pointer (some ⟨W'.next,0,none⟩)),W'.add (.cells [.int .i64 (r.sec:Int),.int .i64 (r.row:Int),.int .i64 r.first,.int .i64 r.many])))
 (step:∀pre r W' b R',R'=cU (lN ps.toList [LV r] R) (some d) (.pointer (some ⟨b,0,none⟩))->pre++[r]<+:i9 v.secs->J pre W'->W.next<W'.next->rwCells W' b=some [.int .i64 (r.sec:Int),.int .i64 (r.row:Int),.int .i64 r.first,.int .i64 r.many]->W.next<b->b<W'.next->
   Ok (fG Tryz.prog aK false nt bd LT R' W' nK) λq=>W'.next<=q.2.2.next/\q.2.2.get W.next=W'.get W.next/\((q.1=.normal/\J (pre++[r]) q.2.2)\/(q.1≠ .normal/\Q q.1 q.2.2))):
 ∃x W2,kL aK (.func (.func 190) #[] #[.pointer (some ⟨bx,0,none⟩)]) (.loop .ready none R nt ps ac bd) W=some (x,W2.kill W.next)/\((x=.normal/\J (i9 v.secs) W2)\/(x≠ .normal/\Q x W2)):=by
 obtain⟨W2,h1,h2⟩:=WH (f:=.func (.yield W.next) #[] #[]) (W:=W.add (.loop .ready none R nt ps ac bd)) hs hg hb
  (λpre W'=>J pre W'/\W.next<W'.next/\W'.get W.next=some (.loop .ready none R nt ps ac bd))
  (λW'=>∃x,x≠ .normal/\Q x W'/\W'.get W.next=some (.loop .done x.jump R nt ps ac bd))
  ⟨h0,by rw[AW.add_next];omega,AW.get_add _ _⟩ (λpre W' h=>hS _ _ h.1)
  (λpre W' cs h=>⟨hA _ _ _ h.1 h.2.1,by rw[AW.add_next];omega,by rw[AW.get_add_ne _ _ (by omega)];exact h.2.2⟩)
  (λpre r W' hpre ⟨hJ,hlt,hget⟩=>by
    have hJ2:=hP _ _ (.loop .busy none R nt ps ac bd) (hA _ _ [.int .i64 (r.sec:Int),.int .i64 (r.row:Int),.int .i64 r.first,.int .i64 r.many] hJ hlt);obtain⟨⟨x,R2,W3⟩,k1,k2,k3,k4⟩:=step pre r _ W'.next _ rfl hpre hJ2 (by rw[AW.put_next,AW.add_next];omega) (by rw[rZ _ (by omega)];exact eC) hlt (by rw[AW.put_next,AW.add_next];omega);simp only at k1 k2 k3 k4;rw[AW.get_put]at k3;have hy:=E4 (P:=Tryz.prog) (args:=[LV r]) hget (by rw[hp];rfl) (has r W' _ rfl) (by rw[AW.get_add_ne _ _ (by omega)];exact hget) k1 k3;have hn3:W.next<W3.next:=by rw[AW.put_next,AW.add_next]at k2;omega
    rcases k4 with⟨rfl,k4⟩|⟨kx,k4⟩
    ·exact⟨true,_,hy,λ_=>⟨hP _ _ _ k4,by rw[AW.put_next];exact hn3,AW.get_put _ _ _⟩,λh=>by cases h⟩
    ·refine⟨false,W3.put W.next (.loop .done x.jump R nt ps ac bd),?_,λh=>by(cases h),λ_=>⟨x,kx,hQ _ _ _ k4,AW.get_put _ _ _⟩⟩;refine hy.trans ?_;cases x with
     |normal=>exact absurd rfl kx
     |exit i=>rfl
     |ret=>rfl)
 rcases h2 with⟨h2,h3,h4⟩|⟨x,h2,h3,h4⟩
 ·exact⟨.normal,W2,wU h1 h4 (by simp),.inl ⟨rfl,h2⟩⟩
 ·exact⟨x,W2,BG h1 h4,.inr ⟨h2,h3⟩⟩
theorem XS{v:Ven}{sv:Value}{W0 W:AW}{bx nt:Nat}{R:Nat->Value}{ps:Array Tmp}{ac bd:Code}{ρ:Type}{K:X×AW->Option ρ}{G:ρ->Prop}(hs:Secs W0 sv v.secs)(hg:Good v.secs)
 (hb:aN (.pointer (some ⟨bx,3,none⟩)) (W.add (.loop .ready none R nt ps ac bd))=some (sv,W.add (.loop .ready none R nt ps ac bd)))(hp:ps.size=1)
 (J:List RowT->AW->Prop)(Q:X->AW->Prop)(h0:J [] (W.add (.loop .ready none R nt ps ac bd)))
 (hS:∀pre W',J pre W'->Le W0 W')(hA:∀pre W' cs,J pre W'->W.next<W'.next->J pre (W'.add (.cells cs)))(hP:∀pre W' o,J pre W'->J pre (W'.put W.next o))(hQ:∀x W' o,Q x W'->Q x (W'.put W.next o))
 (d:Nat)(has:∀r W' R',R'=lN ps.toList [LV r] R->fG Tryz.prog aK false nt ac LT R' W' nK=some (.normal,cU R' (some d) (.pointer (some ⟨W'.next,0,none⟩)),W'.add (.cells [.int .i64 (r.sec:Int),.int .i64 (r.row:Int),.int .i64 r.first,.int .i64 r.many])))
 (step:∀pre r W' b R',R'=cU (lN ps.toList [LV r] R) (some d) (.pointer (some ⟨b,0,none⟩))->pre++[r]<+:i9 v.secs->J pre W'->W.next<W'.next->rwCells W' b=some [.int .i64 (r.sec:Int),.int .i64 (r.row:Int),.int .i64 r.first,.int .i64 r.many]->W.next<b->b<W'.next->
   Ok (fG Tryz.prog aK false nt bd LT R' W' nK) λq=>W'.next<=q.2.2.next/\q.2.2.get W.next=W'.get W.next/\((q.1=.normal/\J (pre++[r]) q.2.2)\/(q.1≠ .normal/\Q q.1 q.2.2)))
 (after:∀x W2,(x=.normal/\J (i9 v.secs) W2)\/(x≠ .normal/\Q x W2)->Ok (K (x,W2.kill W.next)) G):
 Ok (a8 (kL aK (.func (.func 190) #[] #[.pointer (some ⟨bx,0,none⟩)]) (.loop .ready none R nt ps ac bd) W) K) G:=by
 obtain⟨x,W2,h1,h2⟩:=ML hs hg hb hp J Q h0 hS hA hP hQ d has step;rw[h1,oZ];exact after x W2 h2
def fI(l:List RowT):Int:=gN (l.map (·.many))
def Firsts:Int->List RowT->Prop
 |_,[]=>True
 |s,r::l=>r.first=s/\Firsts (s+r.many) l
theorem mO:fI []=0:=rfl
theorem iF(r:RowT)(l:List RowT):fI (r::l)=r.many+fI l:=rfl
theorem mC(a b:List RowT):fI (a++b)=fI a+fI b:=by
 induction a with
 |nil=>simp[mO]
 |cons r a ih=>rw[List.cons_append,iF,iF,ih];omega
theorem Firsts.append:∀{a b:List RowT} {s:Int},Firsts s a->Firsts (s+fI a) b->Firsts s (a++b)
 |[],_,s,_,h=>by rw[mO,Int.add_zero]at h;exact h
 |r::a,b,s,⟨h1,h2⟩,h=>⟨h1,Firsts.append h2 (by rw[iF,<-Int.add_assoc]at h;exact h)⟩
theorem Firsts.at:∀{a b:List RowT} {r:RowT} {s:Int},Firsts s (a++r::b)->r.first=s+fI a
 |[],_,_,s,⟨h,_⟩=>by rw[h,mO,Int.add_zero]
 |x::a,b,r,s,⟨_,h⟩=>by rw[Firsts.at h,iF,Int.add_assoc]
theorem C5(l:List Sec)(i:Nat)(rows:List Int):∀{k:Nat},k<=rows.length->fI (y9 l i rows k)=gN (rows.take k)
 |0,_=>rfl
 |k+1,hk=>by rw[oI l i rows (by omega),mC,C5 l i rows (by omega),mL (by omega),iF,mO,Int.add_zero]
theorem yZ(l:List Sec)(i:Nat)(rows:List Int):∀{k:Nat},k<=rows.length->Firsts (c9 (l.take i)) (y9 l i rows k)
 |0,_=>trivial
 |k+1,hk=>by rw[oI l i rows (by omega)];exact(yZ l i rows (by omega)).append ⟨by rw[C5 l i rows (by omega)],trivial⟩
theorem yP(l:List Sec):∀{n:Nat},n<=l.length->fI (oE l n)=c9 (l.take n)
 |0,_=>rfl
 |n+1,hn=>by rw[nJ l (by omega),mC,yP l (by omega),C5 l n _ (Nat.le_refl _),mP (by omega),List.take_length]
theorem xB(l:List Sec):∀{n:Nat},n<=l.length->Firsts 0 (oE l n)
 |0,_=>trivial
 |n+1,hn=>by rw[nJ l (by omega)];refine(xB l (by omega)).append ?_;rw[yP l (by omega),Int.zero_add];exact yZ l n _ (Nat.le_refl _)
theorem K0(l:List Sec):fI (i9 l)=c9 l:=by have:=yP l (Nat.le_refl l.length);rwa [List.take_length]at this
theorem J9(l:List Sec):Firsts 0 (i9 l):=xB l (Nat.le_refl _)
def RowOf(l:List Sec)(r:RowT):Prop:=∃(hi:r.sec<l.length) (hk:r.row<l[r.sec].rows.length),r.many=l[r.sec].rows[r.row]
theorem C8{l:List Sec}{r:RowT}(h:r∈i9 l):RowOf l r:=by unfold i9 oE at h;obtain⟨i,hi,h⟩:=List.mem_flatMap.1 h;rw[List.mem_range]at hi;rw[List.getElem?_eq_getElem hi]at h;unfold y9 at h;obtain⟨k,hk,rfl⟩:=List.mem_map.1 h;rw[List.mem_range]at hk;exact⟨hi,hk,by simp[List.getD_eq_getElem?_getD,List.getElem?_eq_getElem hk]⟩
theorem RowOf.many{l:List Sec}{r:RowT}(h:RowOf l r)(hg:Good l):1<=r.many/\r.many<=64/\r.sec<8/\r.row<16:=by obtain⟨hi,hk,hm⟩:=h;obtain⟨_,h2,h3⟩:=hg.rows _ (List.getElem_mem hi);have:=h3 _ (List.getElem_mem hk);have:=hg.len;omega
theorem EX{l:List RowT}(h:∀r∈l,1<=r.many):(l.length:Int)<=fI l:=by
 induction l with
 |nil=>simp[mO]
 |cons r l ih=>
  have h1:=h r (by simp);have h2:=ih λx hx=>h x (by simp[hx])
  rw[iF,List.length_cons];omega
theorem EH{a l:List RowT}(h:a<+:l)(hm:∀r∈l,1<=r.many):0<=fI a/\fI a<=fI l:=by
 obtain⟨b,rfl⟩:=h;have h1:=EX (l:=a) λr hr=>hm r (by simp[hr])
 have h2:=EX (l:=b) λr hr=>hm r (by simp[hr])
 rw[mC];omega
theorem PF{l:List Sec}(hg:Good l):0<=c9 l/\c9 l<=8192:=by have h:=(D8 hg (Nat.le_refl l.length));rw[List.take_length]at h;have:=hg.len;omega
theorem TO{l:List Sec}(hg:Good l){pre:List RowT}{r:RowT}(h:pre++[r]<+:i9 l):RowOf l r/\r.first=fI pre/\0<=fI pre/\fI (pre++[r])<=8192/\1<=r.many/\r.many<=64/\fI (pre++[r])=fI pre+r.many:=by
 have hm:∀r∈i9 l,1<=r.many:=λr hr=>((C8 hr).many hg).1
 have hr:r∈i9 l:=h.subset (by simp);have h1:=EH h hm;have h2:=EH ((List.prefix_append pre [r]).trans h) hm;rw[K0]at h1;obtain⟨b,hb⟩:=h;have hf:=J9 l;rw[<-hb,List.append_assoc]at hf;have:=Firsts.at hf;have hx:=(C8 hr).many hg;have:=PF hg;refine⟨C8 hr,by omega,by omega,by omega,by omega,by omega,?_⟩;rw[mC,iF,mO,Int.add_zero]
theorem oL3(x:Value)(W:AW):qU Tryz.prog 3 x W=aN x W:=by kernel_rfl
theorem al3(W:AW):bF Tryz.prog 3 W=some (.pointer (some ⟨W.next,0,none⟩),W.add (.cells [.int .i64 0])):=Eq.trans (by kernel_rfl) rfl
theorem a3n(W:AW):bF Tryz.prog 210 W=some (.pointer (some ⟨W.next,0,none⟩),W.add (.cells [.int .i64 0,.int .i64 0,.int .i64 0,.int .i64 0])):=Eq.trans (by kernel_rfl) rfl
theorem a3Q{b:Nat}{a c d e x y z u:Value}{W:AW}(h:rwCells W b=some [x,y,z,u])(h1:Eng.one a=true)(h2:Eng.one c=true)(h3:Eng.one d=true)(h4:Eng.one e=true):eY 4 (.pointer (some ⟨b,0,none⟩)) (.agg #[a,c,d,e]) W=some (undef,W.put b (.cells [a,c,d,e])):=by rw[LQ,h,Option.bind_some];have hc:(Value.agg #[a,c,d,e]).cells=#[a,c,d,e]:=FP _;rw[hc,if_pos ⟨rfl,by simp,by simp[h1,h2,h3,h4]⟩];rfl
theorem stI{b:Nat}{x:Value}{n:Int}{W:AW}(h:rwCells W b=some [x]):eY 1 (.pointer (some ⟨b,0,none⟩)) (.int .i64 n) W=some (undef,W.put b (.cells [.int .i64 n])):=by rw[XA,h];rfl
theorem ldI{b:Nat}{x:Value}{W:AW}(h:rwCells W b=some [x]):aN (.pointer (some ⟨b,0,none⟩)) W=some (x,W):=bS (d9 h) rfl
theorem UC{v:Ven}{sv:Value}{W:AW}(hs:SecsC W sv v.secs)(hv:v.secs.length<1000):aK (.func (.func 67) #[] #[]) [qO v sv] W=some (.tuple #[.int .i64 (hY v).1,.int .i64 (hY v).2],W):=by
 refine aM rfl ?_ AZ;unfold zG hY;obtain⟨W1,hB,hle,hn,c4,c0,c3⟩:=SJ v sv W;have l2:Le W1 (W1.add (.cells [.int .i64 0])):=(Le.refl W1).add _;have hr:rwCells (W1.add (.cells [.int .i64 0])) W1.next=some [.int .i64 0]:=eC;have hn2:W1.next<(W1.add (.cells [.int .i64 0])).next:=by rw[AW.add_next];omega
 simp only[SX,hB,al3];generalize W1.add (.cells [.int .i64 0])=W2 at *;simp only[SX,c4 _ l2,I9 (hs.mono (hle.trans l2)) hv];by_cases he:(pD v).2=0;case neg=>simp only[SX,he,if_false,stI hr,gI,oL3,ldI (nS _),Option.bind_some,aA];exact⟨trivial,(hle.trans l2).put (by have:=hle.next;omega) _⟩
 obtain⟨hg,-⟩:=sO he;obtain⟨W3,q1,q2,q3,q4⟩:=XX (v:=v) (sv:=sv) W2;have l3:W1.next<W3.next:=by have:=q2.next;omega
 simp only[SX,decide_eq_true he,c4 _ l2,q1,if_pos he];refine XS (hs.mono hle).1 hg (q4 _ ((Le.refl _).add _)) rfl (λpre W'=>Le W1 W'/\rwCells W' W1.next=some [.int .i64 (fI pre)]) (λ_ _=>False) ⟨(l2.trans q2).add _,by rw[zN _ l3,q2.rwCells hn2];exact hr⟩ (λ_ _ h=>h.1)
  (λpre W' cs h hl=>⟨h.1.add _,by rw[zN _ (by omega)];exact h.2⟩) (λpre W' o h=>⟨h.1.put (by omega) _,by rw[rZ _ (by omega)];exact h.2⟩) (λ_ _ _ h=>h) 6 ?_ ?_ ?_
 ·intro r W' R' hR;have r17:R' 17=LV r:=by rw[hR];rfl
  rw[uC];unfold qA;simp only[SX,a3n,r17,a3Q eC (pU _ _) (pU _ _) (pU _ _) (pU _ _),nX]
 ·intro pre r W' b R' hR hpre ⟨h1,h2⟩ hl hb hb1 hb2;have r2:R' 2=.pointer (some ⟨W1.next,0,none⟩):=by rw[hR];rfl
  have r6:R' 6=.pointer (some ⟨b,0,none⟩):=by rw[hR];rfl
  clear hR;rw[uM];unfold qC;obtain⟨k1,k2,k3,k4,k5,k6,k7⟩:=TO hg hpre;have ea:=aX (P:=Tryz.prog) (W:=W') (t:=3) (c:=false) (d:=false) (a:=fI pre) (b:=r.many) (by omega) (by omega);simp only[SX,r2,r6,ldI h2,gY (o:=3) hb rfl,ea,stI h2,Nat.zero_add,aA];exact⟨by rw[AW.put_next];omega,by rw[AW.get_put_ne _ _ (by omega)],.inl ⟨trivial,h1.put (Nat.le_refl _) _,by rw[k7];exact nS _⟩⟩
 ·rintro x W4 (⟨rfl,h1,h2⟩|⟨_,h⟩);case inr=>exact h.elim
  have h3:rwCells (W4.kill W3.next) W1.next=some [.int .i64 (fI (i9 v.secs))]:=by rw[<-h2];unfold rwCells;rw[AW.get_kill_ne _ (by omega)]
  simp only[SX,ldI h3,stI h3,gI,oL3,ldI (nS _),Option.bind_some,K0,aA];exact⟨trivial,(hle.trans (h1.kill (by omega))).put (by have:=hle.next;omega) _⟩
abbrev a4i(r:RowT):List Value:=[.int .i64 (r.sec:Int),.int .i64 (r.row:Int),.int .i64 r.first,.int .i64 r.many]
def a1C(seat:Int)(r:RowT):Bool:=decide (r.first<=seat)&&decide (seat<r.first+r.many)
abbrev zs:List Value:=[.int .i64 0,.int .i64 0,.int .i64 0,.int .i64 0]
abbrev a2r:RowT:=⟨0,0,0,0⟩
def I5(v:Ven)(seat:Int):RowT×Int:=if(pD v).2=0 then(match(i9 v.secs).find? (a1C seat)with
 |some r=>(r,0)
 |none=>(a2r,4))else(a2r,(pD v).2)
def UD(sec:Int)(r:RowT):Bool:=decide ((r.sec:Int)=sec)
def a3P:List RowT->Int
 |[]=>0
 |r::_=>r.first
def ofE(v:Ven)(sec:Int):Int×Int×Int:=if(pD v).2=0 then
 if fI ((i9 v.secs).filter (UD sec))=0 then(0,0,4)else(a3P ((i9 v.secs).filter (UD sec)),fI ((i9 v.secs).filter (UD sec)),0)
 else(0,0,(pD v).2)
def a2Z(v:Ven)(seat:Int):Q1×Int:=if(I5 v seat).2=0 then(((I5 v seat).1.sec,(I5 v seat).1.row,(seat-(I5 v seat).1.first).toNat),0)else((0,0,0),(I5 v seat).2)
abbrev a3G(p:Q1):Value:=.agg #[.int .i64 (p.1:Int),.int .i64 (p.2.1:Int),.int .i64 (p.2.2:Int)]
theorem Plcs.get{W:AW}{v:Value}{l:List Q1}(h:Plcs W v l){i:Nat}(hi:i<l.length):∃b o,(∀W' k,eZ 3 v (.int k (i:Int)) W'=some (.pointer (some ⟨b,o,none⟩),W'))/\
 ∀W',Le W W'->aN (.pointer (some ⟨b,o,none⟩)) W'=some (.int .i64 (l[i].1:Int),W')/\aN (.pointer (some ⟨b,o+1,none⟩)) W'=some (.int .i64 (l[i].2.1:Int),W')/\dS 3 (.pointer (some ⟨b,o,none⟩)) W'=some (a3G l[i],W'):=by
 obtain⟨a,c,rfl,h⟩:=h;rcases h with rfl|⟨b,o,cs,rfl,hb,hc,hat⟩
 ·simp at hi
 ·refine⟨b,o+i*3,λW' k=>jE hi,λW' hle=>?_⟩;have hc':=(hle.cellsAt hb).trans hc;obtain⟨h1,h2,h3⟩:=hat i hi;refine⟨bS hc' h1,bS hc' h2,?_⟩;have:=UJ h1 h2 h3;rw[rY,hc',Option.bind_some,this];rfl
def a3O{α:Type}(p:α->Bool)(l:List α):Nat:=if(l.filter p).length=0 then 0 else l.findIdx p
def LE(sec:Int)(q:Q1):Bool:=decide ((q.1:Int)=sec)
def a3F(v:Ven)(sec:Int):Int×Int×Int:=if(pD v).2=0 then
 if((tV v.secs).filter (LE sec)).length=0 then(0,0,4)else((a3O (LE sec) (tV v.secs):Nat),(((tV v.secs).filter (LE sec)).length:Nat),0)
 else(0,0,(pD v).2)
def a33(r:RowT):List Q1:=RT r.sec r.row r.many.toNat
def a1b(v:Ven)(seat:Int):Q1×Int:=if(hY v).2=0 then(if seat<0\/(hY v).1<=seat then((0,0,0),4)else((tV v.secs).getD seat.toNat (0,0,0),0))else((0,0,0),(hY v).2)
end Go.Proofs.YtnigceddndemkaaGreatDoor
namespace Go.Proofs.YtnigceddndemkaaGreatDoor.Ho
open Go Go.Eng Go.Hp
set_option maxRecDepth 100000
theorem WL{o t:Option (Value×AW)}{v:Value}{W W':AW}(hv:(aU v&& !WA v)=false)(h:Ok t λr=>r=(v,W'))(hom:∀{r},t=some r->o=some (gc W r)):o=some (v,W'):=by obtain⟨r,h1,rfl⟩:=h;rw[hom h1,cZ hv]
theorem Gr.mono{W W':AW}{A B:Nat->Prop}(h:Gr W W' A)(hs:∀b,A b->B b):Gr W W' B:=⟨h.next,λb hb hn=>h.get b hb λha=>hn (hs b ha)⟩
theorem Le.gr{W W':AW}(h:Le W W')(In:Nat->Prop):Gr W W' In:=⟨h.next,λb hb _=>h.get b hb⟩
structure St where
 q:Nat
 mh:Nat
 hm:Nat
 nx:Int
 n:Nat
 f:Nat->En
abbrev St.es(s:St):List (Int×Int):=pZ s.n s.f
abbrev HT(W:AW)(In:Nat->Prop)(H:Nat)(many:Nat)(s:St):Prop:=HS W In H s.q s.mh s.hm (many:Int) s.nx s.n s.f
def SlS(W:AW)(B:Nat)(v:Value)(xs:List SeT):Prop:=(xs=[]/\v=.slice none 0 0)\/(xs≠[]/\B<W.next/\v=.slice (some ⟨B,0,none⟩) xs.length (bV+5)/\W.get B=some (.cells (xs.flatMap dU)))
section
variable {W W':AW} {B:Nat} {v:Value} {xs:List SeT}
theorem SlS.keep(h:SlS W B v xs)(hn:W.next<=W'.next)(hg:xs≠[]->W'.get B=W.get B):SlS W' B v xs:=by
 rcases h with h|⟨h0,h1,h2,h3⟩
 ·exact .inl h
 ·exact .inr ⟨h0,by omega,h2,by rw[hg h0];exact h3⟩
theorem SlS.lt(h:SlS W B v xs)(h0:xs≠[]):B<W.next:=by
 rcases h with⟨h,-⟩|⟨-,h1,-⟩
 ·exact absurd h h0
 ·exact h1
theorem SlS.ix(h:SlS W B v xs){j:Nat}{x:SeT}(hj:xs[j]? =some x)(W':AW)(k:IntKind):eZ 5 v (.int k (j:Int)) W'=some (.pointer (some ⟨B,j*5,none⟩),W'):=by
 obtain⟨hi,-⟩:=List.getElem?_eq_some_iff.1 hj;rcases h with⟨rfl,-⟩|⟨h0,h1,rfl,h3⟩
 ·simp at hi
 ·have:=jE (W:=W') (z:=5) (b:=B) (o:=0) (l:=xs.length) (c:=bV+5) (i:=j) (k:=k) hi;rwa [Nat.zero_add]at this
theorem SlS.cells(h:SlS W B v xs){j:Nat}{x:SeT}(hj:xs[j]? =some x):W.get B=some (.cells (xs.flatMap dU)):=by
 obtain⟨hi,-⟩:=List.getElem?_eq_some_iff.1 hj;rcases h with⟨rfl,-⟩|⟨h0,h1,rfl,h3⟩
 ·simp at hi
 ·exact h3
theorem SlS.all(h:SlS W B v xs){j:Nat}{x:SeT}(hj:xs[j]? =some x):dS 5 (.pointer (some ⟨B,j*5,none⟩)) W=some (mH x,W):=by rw[rY,b9 (h.cells hj)];simp only[Option.bind_some,EA dV hj,dV,if_true]
theorem SlS.st(h:SlS W B v xs){j:Nat}{x:SeT}(hj:xs[j]? =some x):aN (.pointer (some ⟨B,j*5,none⟩)) W=some (.int .i64 x.st,W):=bS (b9 (h.cells hj)) (kJ (o:=0) dV hj (by omega))
theorem SlS.put(h:SlS W B v xs){j:Nat}{x:SeT}(hj:xs[j]? =some x)(y:SeT):eY 5 (.pointer (some ⟨B,j*5,none⟩)) (mH y) W=some (undef,W.put B (.cells ((xs.set j y).flatMap dU)))/\SlS (W.put B (.cells ((xs.set j y).flatMap dU))) B v (xs.set j y):=by
 obtain⟨hi,-⟩:=List.getElem?_eq_some_iff.1 hj;refine⟨?_,?_⟩
 ·have:=xZ (n:=5) (b:=B) (o:=j*5) (v:=mH y) (h.cells hj) rfl (by show j*5+5<=_;rw[aQ dV];omega) rfl;rw[this];show some (undef,W.put B (.cells (fH (xs.flatMap dU) (j*5) (dU y))))=_;rw[vD dV hj]
 ·rcases h with⟨rfl,-⟩|⟨h0,h1,rfl,h3⟩
  ·simp at hi
  ·exact .inr ⟨λe=>h0 ((List.set_eq_nil_iff _ _).1 e),h1,by rw[List.length_set],AW.get_put _ _ _⟩
theorem SlS.row(h:SlS W B v xs):SeL W v xs:=by
 have:Lst 0 W 5 dU v xs:=by
  rcases h with h|⟨h0,h1,h2,h3⟩
  ·exact .inl h
  ·exact .inr ⟨h0,B,Nat.zero_le _,h1,h2,h3⟩
 exact Lst.seats this
end
structure Md where
 M:Nat
 SB:Nat
 k:Nat
 many:Nat
 v:Ven
 sv:Value
 W0:AW
 T:Nat->Nat
 H:Nat->Nat
 tv:Nat->Value
 A:Nat->Nat->Prop
 s:Nat->St
def shE(H:Nat->Nat)(tv:Nat->Value)(i:Nat):List Value:=[hP (H i),tv i]
theorem vI(H:Nat->Nat)(tv:Nat->Value)(i:Nat):(shE H tv i).length=2:=rfl
def W9(k:Nat)(H:Nat->Nat)(tv:Nat->Value):List Value:=(List.range k).flatMap (shE H tv)
abbrev mV(M:Nat):Value:=.pointer (some ⟨M,0,none⟩)
structure MapP (K:Nat->Prop) (V:AW) (d:Md) (l:List SeT) (e:Nat->List (Int×Int)):Prop where
 up:∀b,V.next<=b->K b
 mc:V.get d.M=some (.cells [.int .i64 d.v.sh,.int .i64 d.v.ttl,.int .i64 d.v.ses,d.sv,.int .i64 (d.many:Int),.slice (some ⟨d.SB,0,none⟩) d.k d.k])
 ml:d.M<V.next
 kM:K d.M
 sc:V.get d.SB=some (.cells (W9 d.k d.H d.tv))
 sl:d.SB<V.next
 sk:K d.SB
 ne:d.SB≠d.M
 vk:d.v.sh=(d.k:Int)
 kp:1<=d.k/\d.k<=16
 mn:d.many<=4096
 ll:l.length<=d.many
 col:∀i,i<d.k->SlS V (d.T i) (d.tv i) (dD l d.k i)
 tk:∀i,i<d.k->dD l d.k i≠[]->K (d.T i)/\d.T i≠d.M/\d.T i≠d.SB
 tt:∀i j,i<d.k->j<d.k->dD l d.k i≠[]->dD l d.k j≠[]->d.T i=d.T j->i=j
 ho:∀i,i<d.k->HT V (d.A i) (d.H i) d.many (d.s i)
 al:∀i,i<d.k->∀b,d.A i b->b<V.next
 ak:∀i,i<d.k->∀b,d.A i b->K b
 am:∀i,i<d.k->∀b,d.A i b->b≠d.M/\b≠d.SB
 at_:∀i j,i<d.k->j<d.k->dD l d.k j≠[]->¬d.A i (d.T j)
 aa:∀i j,i<d.k->j<d.k->∀b,d.A i b->d.A j b->i=j
 es:∀i,i<d.k->(d.s i).es.Perm (e i)
 w0:Le d.W0 V
 wk:∀b,K b->d.W0.next<=b
 secs:SecsC d.W0 d.sv d.v.secs
section
variable {K:Nat->Prop} {V:AW} {d:Md} {l:List SeT} {e:Nat->List (Int×Int)}
theorem a3p:((#[137]:Array TypeId)[0]?).bind Tryz.prog.underlying=some (.slice 144):=by kernel_rfl
theorem MapP.l4(h:MapP K V d l e):aN (.pointer (some ⟨d.M,4,none⟩)) V=some (.int .i64 (d.many:Int),V):=gY (bW h.mc) rfl
theorem MapP.l5(h:MapP K V d l e):aN (.pointer (some ⟨d.M,5,none⟩)) V=some (.slice (some ⟨d.SB,0,none⟩) d.k d.k,V):=gY (bW h.mc) rfl
theorem MapP.lv(h:MapP K V d l e):dS 4 (.pointer (some ⟨d.M,0,none⟩)) V=some (qO d.v d.sv,V):=n7 (b9 h.mc) rfl
theorem tE(b k c:Nat)(W:AW):aD Tryz.prog .len #[137] 3 #[false] [.slice (some ⟨b,0,none⟩) k c] W=some (.int .i64 (k:Int),W):=eR a3p _ _ _
theorem NP{k i:Nat}(H:Nat->Nat)(tv:Nat->Value)(hi:i<k):(W9 k H tv)[i*2]? =some (hP (H i))/\(W9 k H tv)[i*2+1]? =some (tv i):=by have hr:(List.range k)[i]? =some i:=List.getElem?_range hi;exact⟨kJ (o:=0) (vI H tv) hr (by omega),kJ (o:=1) (vI H tv) hr (by omega)⟩
theorem MapP.h0(h:MapP K V d l e){i:Nat}(hi:i<d.k):aN (.pointer (some ⟨d.SB,i*2,none⟩)) V=some (hP (d.H i),V):=gY (bW h.sc) (NP _ _ hi).1
theorem MapP.h1(h:MapP K V d l e){i:Nat}(hi:i<d.k):aN (.pointer (some ⟨d.SB,i*2+1,none⟩)) V=some (d.tv i,V):=gY (bW h.sc) (NP _ _ hi).2
theorem FW{b k i:Nat}(hi:i<k)(W:AW)(q:IntKind):eZ 2 (.slice (some ⟨b,0,none⟩) k k) (.int q (i:Int)) W=some (.pointer (some ⟨b,i*2,none⟩),W):=by have:=jE (W:=W) (z:=2) (b:=b) (o:=0) (l:=k) (c:=k) (i:=i) (k:=q) hi;rwa [Nat.zero_add]at this
theorem IT(s k:Nat)(hk:0<k)(t:TypeId)(c d:Bool)(W:AW):aG Tryz.prog .rem t c d (.int .i64 (s:Int)) (.int .i64 (k:Int)) W=some (.int .i64 ((s % k:Nat):Int),W):=by rw[UO (by omega)];rw[Int.tmod_eq_emod_of_nonneg (by omega)];rfl
theorem a3o(s k:Nat)(hk:0<k)(hs:s<9223372036854775808)(t:TypeId)(c d:Bool)(W:AW):aG Tryz.prog .quo t c d (.int .i64 (s:Int)) (.int .i64 (k:Int)) W=some (.int .i64 ((s/k:Nat):Int),W):=by rw[C7 (by omega)];rw[Int.tdiv_eq_ediv_of_nonneg (by omega)];have h1:((s:Int)/(k:Int))=((s/k:Nat):Int):=rfl;have h2:s/k<=s:=Nat.div_le_self _ _;rw[h1];generalize s/k=q at *;rw[mZ (by omega) (by omega)]
theorem u28:Tryz.prog.underlying 28=some (.pointer 139):=by kernel_rfl
theorem a3f(b:Nat)(c d:Bool)(W:AW):aG Tryz.prog .neq 28 c d (.pointer (some ⟨b,0,none⟩)) (.pointer none) W=some (.bool true,W):=by unfold aG iY gL;simp only[u28];rfl
theorem a0a(h:MapP K V d l e):aK (.func (.func 84) #[] #[]) [mV d.M] V=some (.bool true,V):=by refine aM rfl ?_ y8;unfold tC;have hk:decide ((0:Int)<(d.k:Int))=true:=decide_eq_true (by have:=h.kp.1;omega);simp only[SX,a3f,aF,Nat.zero_add,h.l5,tE,hk,aA];exact⟨trivial,Le.refl _⟩
theorem BN(h:MapP K V d l e){s:Nat}{x:SeT}(hs:l[s]? =some x):aK (.func (.func 81) #[] #[]) [mV d.M,.int .i64 (s:Int)] V=some (.pointer (some ⟨d.T (s % d.k),s/d.k*5,none⟩),V):=by refine WL rfl ?_ yI;unfold tG;have hk:0<d.k:=h.kp.1;have hi:=Nat.mod_lt s hk;obtain⟨hlt,-⟩:=List.getElem?_eq_some_iff.1 hs;have:=h.ll;have:=h.mn;have hc:=AL hk hs;simp only[SX,aF,Nat.zero_add,h.l5,tE,IT s d.k hk,FW hi,h.h1 hi,a3o s d.k hk (by omega),(h.col _ hi).ix hc,aA]
end
theorem HS.same{W W':AW}{In In':Nat->Prop}{H q mh hm:Nat}{se nx nx':Int}{n n':Nat}{f f':Nat->En}(h:HS W In H q mh hm se nx n f)(h':HS W' In' H q mh hm se nx' n' f')(hq:W'.get q=W.get q):nx=nx'/\n=n':=by
 obtain⟨⟨lv,bl,k1,-⟩,-⟩:=h.qs;obtain⟨⟨lv',bl',k1',-⟩,-⟩:=h'.qs;rw[k1.qc,k1'.qc]at hq;injection hq with hq;injection hq with hq;simp only[List.cons.injEq,and_true]at hq;obtain⟨e1,-,-,e2⟩:=hq;injection e2 with _ e2;refine⟨e2.symm,?_⟩;have p1:=k1.pile.sl;have p2:=k1'.pile.sl;rw[e1]at p2;cases p1 with
 |nil h=>cases p2 with
  |nil h'=>rw[h,h']
 |row b j h1 h2 h3=>cases p2 with
  |row b' j' h1' h2' h3'=>rfl
theorem HS.ql{W:AW}{In:Nat->Prop}{H q mh hm:Nat}{se nx:Int}{n:Nat}{f:Nat->En}(h:HS W In H q mh hm se nx n f):q<W.next:=by obtain⟨⟨lv,bl,k1,-⟩,-⟩:=h.qs;exact k1.lt
section
variable {K:Nat->Prop} {V V':AW} {d:Md} {l:List SeT} {e:Nat->List (Int×Int)}
theorem MapP.le(h:MapP K V d l e)(hl:Le V V'):MapP K V' d l e:=by
 have g:=λb hb=>hl.get b hb
 have hn:=hl.next
 exact{up:=λb hb=>h.up b (by omega),mc:=(g _ h.ml).trans h.mc,ml:=by have:=h.ml;omega,kM:=h.kM,sc:=(g _ h.sl).trans h.sc,sl:=by have:=h.sl;omega,sk:=h.sk,ne:=h.ne,vk:=h.vk,kp:=h.kp,mn:=h.mn,ll:=h.ll
       col:=λi hi=>(h.col i hi).keep hn λh0=>g _ ((h.col i hi).lt h0),tk:=h.tk,tt:=h.tt,ho:=λi hi=>(h.ho i hi).keep hn (λb hb _=>g b hb) (λb _ hx=>hx)
       al:=λi hi b hb=>by have:=h.al i hi b hb;omega
       ak:=h.ak,am:=h.am,at_:=h.at_,aa:=h.aa,es:=h.es,w0:=h.w0.trans hl,wk:=h.wk,secs:=h.secs}
theorem MapP.shift(h:MapP K V d l e)(hl:Le V V'):MapP (λb=>K b/\b<V.next\/V'.next<=b) V' d l e:=by
 have g:=λb hb=>hl.get b hb
 have hn:=hl.next
 exact{up:=λb hb=>.inr hb,mc:=(g _ h.ml).trans h.mc,ml:=by have:=h.ml;omega,kM:=.inl ⟨h.kM,h.ml⟩,sc:=(g _ h.sl).trans h.sc,sl:=by have:=h.sl;omega,sk:=.inl ⟨h.sk,h.sl⟩,ne:=h.ne,vk:=h.vk,kp:=h.kp,mn:=h.mn,ll:=h.ll
       col:=λi hi=>(h.col i hi).keep hn λh0=>g _ ((h.col i hi).lt h0),tk:=λi hi h0=>⟨.inl ⟨(h.tk i hi h0).1,(h.col i hi).lt h0⟩,(h.tk i hi h0).2⟩,tt:=h.tt,ho:=λi hi=>(h.ho i hi).keep hn (λb hb _=>g b hb) (λb _ hx=>hx)
       al:=λi hi b hb=>by have:=h.al i hi b hb;omega
       ak:=λi hi b hb=>.inl ⟨h.ak i hi b hb,h.al i hi b hb⟩,am:=h.am,at_:=h.at_,aa:=h.aa,es:=h.es,w0:=h.w0.trans hl
       wk:=λb hb=>by
        rcases hb with hb|hb
        ·exact h.wk b hb.1
        ·have:=h.w0.next;omega
       secs:=h.secs}
theorem MapP.weak{K':Nat->Prop}(h:MapP K V d l e)(hk:∀b,K b->K' b)(hw:∀b,K' b->d.W0.next<=b):MapP K' V d l e:=
 {h with up:=λb hb=>hk b (h.up b hb),kM:=hk _ h.kM,sk:=hk _ h.sk,tk:=λi hi h0=>⟨hk _ (h.tk i hi h0).1,(h.tk i hi h0).2⟩,ak:=λi hi b hb=>hk b (h.ak i hi b hb),wk:=hw}
theorem MapP.ent{e':Nat->List (Int×Int)}(h:MapP K V d l e)(he:∀i,i<d.k->(e i).Perm (e' i)):MapP K V d l e':={h with es:=λi hi=>(h.es i hi).trans (he i hi)}
theorem MapP.back{K':Nat->Prop}{U:AW}{l':List SeT}{e':Nat->List (Int×Int)}(hU:MapP K' U d l e)(h:MapP K V' d l' e')(hne:∀i,i<d.k->dD l' d.k i≠[]->dD l d.k i≠[])(hg:Le U V'):MapP K' U d l' e':=by
 have hc:∀i,i<d.k->SlS U (d.T i) (d.tv i) (dD l' d.k i):=λi hi=>by
  rcases h.col i hi with k|⟨k0,k1,k2,k3⟩
  ·exact .inl k
  ·have ht:=(hU.col i hi).lt (hne i hi k0);exact .inr ⟨k0,ht,k2,(hg.get _ ht).symm.trans k3⟩
 exact{hU with ll:=h.ll,col:=hc,tk:=λi hi h0=>hU.tk i hi (hne i hi h0),tt:=λi j hi hj h0 h1=>hU.tt i j hi hj (hne i hi h0) (hne j hj h1),at_:=λi j hi hj h0=>hU.at_ i j hi hj (hne j hj h0),es:=h.es}
def Md.on(d:Md)(i:Nat)(V V':AW)(s':St):Md:={d with A:=λj b=>if j=i then(d.A i b\/V.next<=b)/\b<V'.next else d.A j b,s:=λj=>if j=i then s' else d.s j}
theorem MapP.on(h:MapP K V d l e){i:Nat}(hi:i<d.k):HT V (λb=>d.A i b\/V.next<=b) (d.H i) d.many (d.s i)/\(∀b,(d.A i b\/V.next<=b)->K b)/\
 ∀V' s' ei,Gr V V' (λb=>d.A i b\/V.next<=b)->HT V' (λb=>d.A i b\/V.next<=b) (d.H i) d.many s'->s'.es.Perm ei->MapP K V' (d.on i V V' s') l (λj=>if j=i then ei else e j):=by
 have hik:∀b,(d.A i b\/V.next<=b)->K b:=λb hb=>by
  rcases hb with hb|hb
  ·exact h.ak i hi b hb
  ·exact h.up b hb
 refine⟨(h.ho i hi).keep (Nat.le_refl _) (λ_ _ _=>rfl) (λb _ hb=>.inl hb),hik,λV' s' ei g hs he=>?_⟩;have hn:=g.next;have gM:V'.get d.M=V.get d.M:=g.get _ h.ml λhx=>by
  rcases hx with hx|hx
  ·exact(h.am i hi _ hx).1 rfl
  ·have:=h.ml;omega
 have gS:V'.get d.SB=V.get d.SB:=g.get _ h.sl λhx=>by
  rcases hx with hx|hx
  ·exact(h.am i hi _ hx).2 rfl
  ·have:=h.sl;omega
 have gT:∀j,j<d.k->dD l d.k j≠[]->V'.get (d.T j)=V.get (d.T j):=λj hj h0=>g.get _ ((h.col j hj).lt h0) λhx=>by
  rcases hx with hx|hx
  ·exact h.at_ i j hi hj h0 hx
  ·have:=(h.col j hj).lt h0;omega
 have hA:∀j b,(d.on i V V' s').A j b->(j=i/\(d.A i b\/V.next<=b)/\b<V'.next)\/(j≠i/\d.A j b):=λj b hb=>by
  have hb':(if j=i then(d.A i b\/V.next<=b)/\b<V'.next else d.A j b):=hb;split at hb'
  ·rename_i c;exact .inl ⟨c,hb'⟩
  ·rename_i c;exact .inr ⟨c,hb'⟩
 have hx:∀j,j<d.k->∀b,(d.on i V V' s').A j b->(b<V.next/\d.A j b)\/(j=i/\V.next<=b/\b<V'.next):=λj hj b hb=>by
  rcases hA j b hb with⟨rfl,h1|h1,h2⟩|⟨c,h1⟩
  ·exact .inl ⟨h.al j hj b h1,h1⟩
  ·exact .inr ⟨rfl,h1,h2⟩
  ·exact .inl ⟨h.al j hj b h1,h1⟩
 refine{up:=λb hb=>h.up b (by omega),mc:=gM.trans h.mc,ml:=by have:=h.ml;exact Nat.lt_of_lt_of_le this hn,kM:=h.kM,sc:=gS.trans h.sc,sl:=Nat.lt_of_lt_of_le h.sl hn,sk:=h.sk,ne:=h.ne,vk:=h.vk,kp:=h.kp,mn:=h.mn,ll:=h.ll,col:=λj hj=>(h.col j hj).keep hn (gT j hj),tk:=h.tk,tt:=h.tt,ho:=?_,al:=?_,ak:=?_,am:=?_,at_:=?_,aa:=?_,es:=?_,w0:=?_,wk:=h.wk,secs:=h.secs}
 ·intro j hj;by_cases c:j=i
  ·subst c;show HT V' (λb=>if j=j then _ else _) (d.H j) d.many (if j=j then s' else d.s j);simp only[if_true];exact hs.keep (Nat.le_refl _) (λ_ _ _=>rfl) (λb hb hx=>⟨hx,hb⟩)
  ·show HT V' (λb=>if j=i then _ else d.A j b) (d.H j) d.many (if j=i then s' else d.s j);simp only[if_neg c];exact(h.ho j hj).keep hn (λb hb hx=>g.get b hb λhy=>by
    rcases hy with hy|hy
    ·exact c (h.aa j i hj hi b hx hy)
    ·omega) (λb _ hx=>hx)
 ·intro j hj b hb;rcases hx j hj b hb with⟨h1,-⟩|⟨-,-,h1⟩
  ·omega
  ·exact h1
 ·intro j hj b hb;rcases hx j hj b hb with⟨-,h1⟩|⟨-,h1,-⟩
  ·exact h.ak j hj b h1
  ·exact h.up b h1
 ·intro j hj b hb;rcases hx j hj b hb with⟨-,h1⟩|⟨-,h1,-⟩
  ·exact h.am j hj b h1
  ·exact⟨by have:=h.ml;show b≠d.M;omega,by have:=h.sl;show b≠d.SB;omega⟩
 ·intro j m hj hm h0 hb;rcases hx j hj _ hb with⟨-,h1⟩|⟨-,h1,-⟩
  ·exact h.at_ j m hj hm h0 h1
  ·have:=(h.col m hm).lt h0;exact absurd h1 (by show¬V.next<=d.T m;omega)
 ·intro j m hj hm b hb hb2;rcases hx j hj _ hb with⟨h0,h1⟩|⟨h0,h1,-⟩<;>rcases hx m hm _ hb2 with⟨h2,h3⟩|⟨h2,h3,-⟩
  ·exact h.aa j m hj hm b h1 h3
  ·omega
  ·omega
  ·rw[h0,h2]
 ·intro j hj;show((if j=i then s' else d.s j):St).es.Perm (if j=i then ei else e j);by_cases c:j=i
  ·rw[if_pos c,if_pos c];exact he
  ·rw[if_neg c,if_neg c];exact h.es j hj
 ·refine⟨Nat.le_trans h.w0.next hn,λb hb=>(g.get b (Nat.lt_of_lt_of_le hb h.w0.next) λhy=>?_).trans (h.w0.get b hb)⟩;exact absurd hb (Nat.not_lt.2 (h.wk b (hik b hy)))
theorem MapP.set(h:MapP K V d l e){s:Nat}{x:SeT}(hs:l[s]? =some x)(y:SeT):
 ∃V',eY 5 (.pointer (some ⟨d.T (s % d.k),s/d.k*5,none⟩)) (mH y) V=some (undef,V')/\MapP K V' d (l.set s y) e/\Gr V V' K/\V'.next=V.next/\∀b,b≠d.T (s % d.k)->V'.get b=V.get b:=by
 have hk:0<d.k:=h.kp.1;have hi:=Nat.mod_lt s hk;obtain⟨hlt,-⟩:=List.getElem?_eq_some_iff.1 hs;have hc:=AL hk hs;have h0:dD l d.k (s % d.k)≠[]:=λc=>by rw[c]at hc;simp at hc
 obtain⟨p1,p2⟩:=(h.col _ hi).put hc y;have hcol:∀i,i<d.k->dD (l.set s y) d.k i=if s % d.k=i then(dD l d.k i).set (s/d.k) y else dD l d.k i:=λi hi=>I0 hi hlt
 have hnil:∀i,i<d.k->(dD (l.set s y) d.k i≠[]<->dD l d.k i≠[]):=λi hi=>by
  rw[hcol i hi];split
  ·rw[ne_eq,List.set_eq_nil_iff]
  ·exact Iff.rfl
 have tK:=h.tk _ hi h0;have hg:∀b,b≠d.T (s % d.k)->(V.put (d.T (s % d.k)) (.cells (((dD l d.k (s % d.k)).set (s/d.k) y).flatMap dU))).get b=V.get b:=λb hb=>AW.get_put_ne _ _ λc=>hb c.symm
 refine⟨_,p1,?_,⟨Nat.le_refl _,λb hb hn=>hg b λc=>hn (by rw[c];exact tK.1)⟩,rfl,hg⟩
 exact{h with
  mc:=(hg _ λc=>tK.2.1 c.symm).trans h.mc,sc:=(hg _ λc=>tK.2.2 c.symm).trans h.sc,ll:=by rw[List.length_set];exact h.ll
  col:=λi hi'=>by
   rw[hcol i hi'];by_cases c:s % d.k=i
   ·subst c;rw[if_pos rfl];exact p2
   ·rw[if_neg c];exact(h.col i hi').keep (Nat.le_refl _) λh1=>hg _ λe=>c (h.tt i (s % d.k) hi' hi h1 h0 e).symm
  tk:=λi hi' h1=>h.tk i hi' ((hnil i hi').1 h1)
  tt:=λi j hi' hj h1 h2=>h.tt i j hi' hj ((hnil i hi').1 h1) ((hnil j hj).1 h2)
  ho:=λi hi'=>(h.ho i hi').keep (Nat.le_refl _) (λb hb hx=>hg b λc=>h.at_ i (s % d.k) hi' hi h0 (by rw[<-c];exact hx)) (λb _ hx=>hx)
  at_:=λi j hi' hj h1=>h.at_ i j hi' hj ((hnil j hj).1 h1)
  w0:=⟨h.w0.next,λb hb=>(hg b λc=>by have:=h.wk _ tK.1;omega).trans (h.w0.get b hb)⟩}
end
abbrev j4(k i:Nat):Nat->Bool:=λj=>j % k==i
abbrev GR(k i s:Nat):Nat->Bool:=λj=>j4 k i j&& !(j==s)
theorem TL{l:List SeT}{k i s:Nat}{p:Int×Int}(h:p∈bP l (GR k i s)):p.1≠(s:Int):=by
 obtain⟨j,h1,h2,h3,rfl⟩:=qY.1 h;intro c;have:j=s:=by have c':(j:Int)=(s:Int):=c;omega
 simp[this]at h2
theorem WR{l:List SeT}{k i s:Nat}(hs:s<l.length)(y:SeT):bP (l.set s y) (GR k i s)=bP l (GR k i s):=DC (by rw[List.length_set]) λj hj hp=>by rw[uX hs,if_neg];intro c;subst c;simp at hp
theorem a07{l:List SeT}{k i s:Nat}(hs:s<l.length)(hi:s % k≠i)(y:SeT):bP (l.set s y) (j4 k i)=bP l (j4 k i):=DC (by rw[List.length_set]) λj hj hp=>by rw[uX hs,if_neg];intro c;subst c;exact hi (by simpa using hp)
theorem a08{l:List SeT}{k s:Nat}(hs:s<l.length)(y:SeT):(bP (l.set s y) (j4 k (s % k))).Perm (if y.st=1 then((s:Int),y.dl)::bP l (GR k (s % k) s)else bP l (GR k (s % k) s)):=by
 have:=BP (l:=l.set s y) (p:=j4 k (s % k)) (s:=s) (by rw[List.length_set];exact hs) (by simp);have e:j0 (l.set s y) s=y:=by rw[uX hs,if_pos rfl]
 unfold A5 at this;rw[e]at this;have e2:=WR (k:=k) (i:=s % k) hs y;unfold GR at e2;rw[e2]at this;exact this
def MapS(K:Nat->Prop)(V:AW)(M k many:Nat)(v:Ven)(W0:AW)(N:Int)(l:List SeT):Prop:=
 ∃d:Md,d.M=M/\d.k=k/\d.many=many/\d.v=v/\d.W0=W0/\(∀i,i<k->(d.s i).nx<=N)/\l.length=many/\(∀x,x∈l->o7 x=0)/\MapP K V d l λi=>bP l (j4 k i)
section
variable {K:Nat->Prop} {V:AW} {d:Md} {l:List SeT} {e:Nat->List (Int×Int)}
theorem N7(h:MapP K V d l e){i:Nat}(hi:i<d.k):(d.s i).n=(e i).length:=by have:=(h.es i hi).length_eq;rw[CV]at this;exact this
theorem L7(h:MapP K V d l e){i:Nat}(hi:i<d.k){p:Int×Int}{r:List (Int×Int)}(hp:(e i).Perm (p::r))(hr:(e i).length<=4096):
 ∃V' s',aK (.func (.func 150) #[] #[]) [hP (d.H i),.int .i64 p.1] V=some (.tuple #[.int .i64 p.2,.int .i64 0],V')/\MapP K V' (d.on i V V' s') l (λj=>if j=i then r else e j)/\Gr V V' K/\s'.q=(d.s i).q/\s'.mh=(d.s i).mh/\s'.hm=(d.s i).hm/\s'.nx=(d.s i).nx/\s'.n+1=(d.s i).n:=by
 obtain⟨o1,o2,o3⟩:=h.on hi;have hn:=N7 h hi;have hm:p∈(d.s i).es:=((h.es i hi).trans hp).mem_iff.2 (List.mem_cons_self ..);obtain⟨x,hx,ex⟩:=v8.1 hm;have hes:=h.es i hi;generalize hs:d.s i=s at *;obtain⟨q,mh,hm',nx,n,f⟩:=s;obtain⟨m,rfl⟩:∃m,n=m+1:=⟨n-1,by simp only at hx;omega⟩;simp only at hn hx ex hes;obtain⟨V',g,k1,k2,k3,k4⟩:=RN o1 hx (by omega);rw[ex]at k1 k3;refine⟨V',⟨q,mh,hm',nx,m,g⟩,k1,o3 V' ⟨q,mh,hm',nx,m,g⟩ r k4 k2 ?_,k4.mono o2,rfl,rfl,rfl,rfl,rfl⟩;exact List.Perm.cons_inv (k3.trans (hes.trans hp))
theorem yH(h:MapP K V d l e){i:Nat}(hi:i<d.k){p:Int×Int}(hp:∀x,x∈e i->x.1≠p.1)(hb:0<=p.1/\p.1<(d.many:Int)/\0<=p.2)(hr:(e i).length<=4096)(hnx:(d.s i).nx<1000000000000000):
 ∃V' s',aK (.func (.func 74) #[] #[]) [hP (d.H i),.int .i64 p.1,.int .i64 p.2] V=some (.int .i64 0,V')/\MapP K V' (d.on i V V' s') l (λj=>if j=i then p::e i else e j)/\Gr V V' K/\s'.q=(d.s i).q/\s'.mh=(d.s i).mh/\s'.hm=(d.s i).hm/\s'.nx=(d.s i).nx+1/\s'.n=(d.s i).n+1:=by
 obtain⟨o1,o2,o3⟩:=h.on hi;have hn:=N7 h hi;have hes:=h.es i hi;generalize hs:d.s i=s at *;obtain⟨q,mh,hm',nx,n,f⟩:=s;simp only at hn hes hnx;have uV:uV (d.many:Int) p.1 p.2=false:=by unfold uV;rw[decide_eq_false (by omega),decide_eq_false (by omega),decide_eq_false (by omega)];rfl
 obtain⟨V',g,k1,k2,k3,k4⟩:=X2 o1 uV (λx hx c=>hp _ (hes.mem_iff.1 (v8.2 ⟨x,hx,rfl⟩)) c) (show n<5000 by omega) hnx (λb hb=>.inr hb);exact⟨V',⟨q,mh,hm',nx+1,n+1,g⟩,k1,o3 V' ⟨q,mh,hm',nx+1,n+1,g⟩ _ k4 k2 (k3.trans (List.Perm.cons _ hes)),k4.mono o2,rfl,rfl,rfl,rfl,rfl⟩
theorem CL{K':Nat->Prop}{V':AW}{d':Md}{l':List SeT}{e':Nat->List (Int×Int)}(h:MapP K V d l e)(h':MapP K' V' d' l' e'){i:Nat}(hi:i<d.k)(hi':i<d'.k)(hH:d'.H i=d.H i)(hm:d'.many=d.many)(hq:(d'.s i).q=(d.s i).q)(hmh:(d'.s i).mh=(d.s i).mh)(hhm:(d'.s i).hm=(d.s i).hm)(hl:Le V V'):(d.s i).nx=(d'.s i).nx/\(d.s i).n=(d'.s i).n:=by have a:=h.ho i hi;have b:=h'.ho i hi';unfold HT at a b;rw[hH,hm,hq,hmh,hhm]at b;exact a.same b (hl.get _ a.ql)
end
section
variable {K:Nat->Prop} {V:AW} {M k many:Nat} {v:Ven} {W0:AW} {N:Int} {l:List SeT}
theorem nW(d:Md)(i:Nat)(V V':AW)(s':St)(j:Nat):(d.on i V V' s').s j=if j=i then s' else d.s j:=rfl
theorem S6{d:Md}(hnx:∀i,i<d.k->(d.s i).nx<=N)(hlen:l.length=d.many)(hok:∀x,x∈l->o7 x=0)(hM:MapP K V d l λi=>bP l (j4 d.k i)){s:Nat}{x y:SeT}(hs:l[s]? =some x)(hy:o7 y=0)(hN:N<1000000000000000):
 ∃V',aK (.func (.func 82) #[] #[]) [mV d.M,.int .i64 (s:Int),mH y] V=some (.tuple #[],V')/\MapS K V' d.M d.k d.many d.v d.W0 (N+1) (l.set s y)/\Gr V V' K/\
  ∀(K':Nat->Prop) U,MapP K' U d l (λi=>bP l (j4 d.k i))->Le U V->Le U V'->MapP K' U d (l.set s y) λi=>bP (l.set s y) (j4 d.k i):=by
 have hk:0<d.k:=hM.kp.1;have hi:=Nat.mod_lt s hk;obtain⟨hlt,ex⟩:=List.getElem?_eq_some_iff.1 hs;have hmn:=hM.mn;have hx:o7 x=0:=hok x (by rw[<-ex];exact List.getElem_mem _);have sx:j0 l s=x:=tY hs;have hdl:∀z:SeT,o7 z=0->z.st=1->0<=z.dl:=λz hz h1=>by rw[B2 h1]at hz;split at hz<;>omega
 have hok':∀z,z∈l.set s y->o7 z=0:=λz hz=>by
  rcases List.mem_or_eq_of_mem_set hz with c|c
  ·exact hok z c
  ·rw[c];exact hy
 have l1:Le V (V.add (.cells (dU y))):=(Le.refl _).add _;have g1:(V.add (.cells (dU y))).get V.next=some (.cells (dU y)):=AW.get_add _ _;have n1:(V.add (.cells (dU y))).next=V.next+1:=AW.add_next _ _;have p1:=hM.shift l1;have main:Ok (mQ aK (mV d.M) (.int .i64 (s:Int)) (mH y) V) λr=>r.1=.tuple #[]/\MapS K r.2 d.M d.k d.many d.v d.W0 (N+1) (l.set s y)/\Gr V r.2 K/\∀(K':Nat->Prop) U,MapP K' U d l (λi=>bP l (j4 d.k i))->Le U V->Le U r.2->MapP K' U d (l.set s y) λi=>bP (l.set s y) (j4 d.k i):=by
  unfold mQ;simp only[SX,CM,Nat.zero_add];generalize V.add (.cells (dU y))=V1 at *;obtain⟨K1,hK1⟩:∃K1:Nat->Prop,K1=λb=>K b/\b<V.next\/V1.next<=b:=⟨_,rfl⟩
  rw[<-hK1]at p1;have hK:∀b,K1 b->K b:=λb hb=>by
   rw[hK1]at hb;rcases hb with hb|hb
   ·exact hb.1
   ·exact hM.up b (by omega)
  have hKn:¬K1 V.next:=λhb=>by rw[hK1]at hb;rcases hb with hb|hb<;>omega
  have fin:∀(V2:AW) (d2:Md) (e2:Nat->List (Int×Int)),MapP K1 V2 d2 l e2->d2.M=d.M->d2.k=d.k->d2.many=d.many->d2.v=d.v->d2.W0=d.W0->d2.T=d.T->(∀i,i<d.k->(d2.s i).nx<=N+1)->Gr V1 V2 K1->
   (∀i,i<d.k->(e2 i).Perm (bP (l.set s y) (j4 d.k i)))->∃V3,eY 5 (.pointer (some ⟨d.T (s % d.k),s/d.k*5,none⟩)) (mH y) V2=some (undef,V3)/\MapP K1 V3 d2 (l.set s y) e2/\MapS K V3 d.M d.k d.many d.v d.W0 (N+1) (l.set s y)/\Gr V V3 K:=by
   intro V2 d2 e2 p2 eM ek em ev eW eT hn2 gr he2;obtain⟨V3,q1,q2,q3,q4,q5⟩:=p2.set hs y;rw[eT,ek]at q1;refine⟨V3,q1,q2,⟨d2,eM,ek,em,ev,eW,hn2,by rw[List.length_set];exact hlen,hok',?_⟩,?_⟩
   ·exact(q2.ent λi hi'=>he2 i (by rw[<-ek];exact hi')).weak hK (by rw[eW];exact hM.wk)
   ·have g0:Gr V V2 K:=⟨Nat.le_trans l1.next gr.next,λb hb hn=>(gr.get b (by omega) λc=>hn (hK b c)).trans (l1.get b hb)⟩;exact g0.trans (q3.mono hK)
  have box:∀V2,Gr V1 V2 K1->V2.get V.next=some (.cells (dU y)):=λV2 gr=>(gr.get _ (by omega) hKn).trans g1
  have aT:∀o V2,vsame (.pointer (some ⟨o,V2,none⟩)) (.pointer (some ⟨o,V2,none⟩))=true:=λo V2=>ON _ _
  have hc:=AL hk hs;have hst:aN (.pointer (some ⟨d.T (s % d.k),s/d.k*5,none⟩)) V1=some (.int .i64 x.st,V1):=(p1.col _ hi).st hc;have at1:=BN p1 hs;have es0:(bP l (j4 d.k (s % d.k))).length<=4096:=Nat.le_trans (oR _ _) (by omega);have eb0:(bP l (GR d.k (s % d.k) s)).length<=4096:=Nat.le_trans (oR _ _) (by omega);have hsp:=BP (l:=l) (p:=j4 d.k (s % d.k)) (s:=s) hlt (by simp);rw[sx]at hsp;have hps:=a08 (k:=d.k) hlt y;have hoth:∀i,i<d.k->i≠s % d.k->(bP l (j4 d.k i)).Perm (bP (l.set s y) (j4 d.k i)):=λi _ hne=>by rw[a07 hlt (λc=>hne c.symm)]
  by_cases cx:x.st=1
  ·have dx:=decide_eq_true cx;rw[if_pos cx]at hsp;have hv:A5 l s=((s:Int),x.dl):=by unfold A5;rw[sx]
   rw[hv]at hsp;obtain⟨V2,s2,r1,p2,gr2,e1,e2,e3,e4,e5⟩:=L7 p1 hi hsp es0;have b2:=box V2 gr2;have hn2:∀i,i<d.k->((d.on (s % d.k) V1 V2 s2).s i).nx<=N:=λi hi'=>by
    rw[nW];split
    ·rw[e4];exact hnx _ hi
    ·exact hnx i hi'
   by_cases cy:y.st=1
   ·have dy:=decide_eq_true cy;rw[if_pos cy]at hps;have hi2:s % d.k<(d.on (s % d.k) V1 V2 s2).k:=hi;obtain⟨V3,s3,t1,p3,gr3,f1,f2,f3,f4,f5⟩:=yH (p:=((s:Int),y.dl)) p2 hi2 (λz hz=>by rw[if_pos rfl]at hz;exact TL hz) ⟨by show(0:Int)<=(s:Int);omega,by show(s:Int)<(d.many:Int);omega,hdl y hy cy⟩ (by rw[if_pos rfl];exact eb0) (by have:=hn2 _ hi;omega);have b3:=box V3 (gr2.trans gr3);have es3:∀i,i<d.k->((λj=>if j=s % d.k then((s:Int),y.dl)::(if s % d.k=s % d.k then bP l (GR d.k (s % d.k) s)else bP l (j4 d.k (s % d.k)))else(if j=s % d.k then bP l (GR d.k (s % d.k) s)else bP l (j4 d.k j))) i).Perm (bP (l.set s y) (j4 d.k i)):=λi hi'=>by
     by_cases c:i=s % d.k
     ·simp only[c,if_true];exact hps.symm
     ·simp only[if_neg c];exact hoth i hi' c
    obtain⟨V4,u1,u2,u3,u4⟩:=fin V3 _ _ p3 rfl rfl rfl rfl rfl rfl (λi hi'=>by
     rw[nW];split
     ·rw[f4,nW,if_pos rfl,e4];have:=hnx _ hi;omega
     ·have:=hn2 i hi';omega) (gr2.trans gr3) es3;have at3:aK (.func (.func 81) #[] #[]) [mV d.M,.int .i64 (s:Int)] V3=some (.pointer (some ⟨d.T (s % d.k),s/d.k*5,none⟩),V3):=BN p3 hs;have h02:aN (.pointer (some ⟨d.SB,s % d.k*2,none⟩)) V2=some (hP (d.H (s % d.k)),V2):=p2.h0 hi2;have t1':aK (.func (.func 74) #[] #[]) [hP (d.H (s % d.k)),.int .i64 (s:Int),.int .i64 y.dl] V2=some (.int .i64 0,V3):=t1;simp only[SX,aF,Nat.zero_add,Nat.add_zero,p1.l5,tE,IT s d.k hk,FW hi,at1,hst,dx,p1.h0 hi,r1,dB b2,dy,h02,dZ b2,t1',cI b3,at3,eJ,lG,Bool.and_true,u1,aA];refine⟨trivial,u3,u4,λK' U hU hUV hl=>?_⟩;have:=(CL hU u2 (i:=s % d.k) hi hi rfl rfl (by rw[nW,if_pos rfl,f1,nW,if_pos rfl,e1]) (by rw[nW,if_pos rfl,f2,nW,if_pos rfl,e2]) (by rw[nW,if_pos rfl,f3,nW,if_pos rfl,e3]) hl).1;rw[nW,if_pos rfl,f4,nW,if_pos rfl,e4]at this;omega
   ·have dy:=decide_eq_false cy;rw[if_neg cy]at hps;obtain⟨V4,u1,u2,u3,u4⟩:=fin V2 _ _ p2 rfl rfl rfl rfl rfl rfl (λi hi'=>by have:=hn2 i hi';omega) gr2 (λi hi'=>by
     by_cases c:i=s % d.k
     ·simp only[c,if_true];exact hps.symm
     ·simp only[if_neg c];exact hoth i hi' c);have at3:aK (.func (.func 81) #[] #[]) [mV d.M,.int .i64 (s:Int)] V2=some (.pointer (some ⟨d.T (s % d.k),s/d.k*5,none⟩),V2):=BN p2 hs;simp only[SX,aF,Nat.zero_add,Nat.add_zero,p1.l5,tE,IT s d.k hk,FW hi,at1,hst,dx,p1.h0 hi,r1,dB b2,dy,cI b2,at3,eJ,lG,Bool.and_true,u1,aA];refine⟨trivial,u3,u4,λK' U hU hUV hl=>?_⟩;have:=(CL hU u2 (i:=s % d.k) hi hi rfl rfl (by rw[nW,if_pos rfl,e1]) (by rw[nW,if_pos rfl,e2]) (by rw[nW,if_pos rfl,e3]) hl).2;rw[nW,if_pos rfl]at this;omega
  ·have dx:=decide_eq_false cx;rw[if_neg cx]at hsp;by_cases cy:y.st=1
   ·have dy:=decide_eq_true cy;rw[if_pos cy]at hps;obtain⟨V3,s3,t1,p3,gr3,f1,f2,f3,f4,f5⟩:=yH (p:=((s:Int),y.dl)) p1 hi (λz hz=>TL (hsp.mem_iff.1 hz)) ⟨by show(0:Int)<=(s:Int);omega,by show(s:Int)<(d.many:Int);omega,hdl y hy cy⟩ es0 (by have:=hnx _ hi;omega);have b3:=box V3 gr3;obtain⟨V4,u1,u2,u3,u4⟩:=fin V3 _ _ p3 rfl rfl rfl rfl rfl rfl (λi hi'=>by
     rw[nW];split
     ·rw[f4];have:=hnx _ hi;omega
     ·have:=hnx i hi';omega) gr3 (λi hi'=>by
     by_cases c:i=s % d.k
     ·simp only[c,if_true];exact(List.Perm.cons _ hsp).trans hps.symm
     ·simp only[if_neg c];exact hoth i hi' c);have at3:aK (.func (.func 81) #[] #[]) [mV d.M,.int .i64 (s:Int)] V3=some (.pointer (some ⟨d.T (s % d.k),s/d.k*5,none⟩),V3):=BN p3 hs;have t1':aK (.func (.func 74) #[] #[]) [hP (d.H (s % d.k)),.int .i64 (s:Int),.int .i64 y.dl] V1=some (.int .i64 0,V3):=t1;simp only[SX,aF,Nat.zero_add,Nat.add_zero,p1.l5,tE,IT s d.k hk,FW hi,at1,hst,dx,dB g1,dy,p1.h0 hi,dZ g1,t1',cI b3,at3,eJ,lG,Bool.and_true,u1,aA];refine⟨trivial,u3,u4,λK' U hU hUV hl=>?_⟩;have:=(CL hU u2 (i:=s % d.k) hi hi rfl rfl (by rw[nW,if_pos rfl,f1]) (by rw[nW,if_pos rfl,f2]) (by rw[nW,if_pos rfl,f3]) hl).2;rw[nW,if_pos rfl]at this;omega
   ·have dy:=decide_eq_false cy;rw[if_neg cy]at hps;obtain⟨V4,u1,u2,u3,u4⟩:=fin V1 d _ p1 rfl rfl rfl rfl rfl rfl (λi hi'=>by have:=hnx i hi';omega) (Gr.refl _ _) (λi hi'=>by
     by_cases c:i=s % d.k
     ·rw[c];exact hsp.trans hps.symm
     ·exact hoth i hi' c);simp only[SX,aF,Nat.zero_add,Nat.add_zero,p1.l5,tE,IT s d.k hk,FW hi,at1,hst,dx,dB g1,dy,cI g1,eJ,lG,Bool.and_true,u1,aA];refine⟨trivial,u3,u4,λK' U hU hUV hl=>?_⟩;refine hU.back (u2.ent λi hi'=>?_) (λi hi' h0=>?_) hl
    ·by_cases c:i=s % d.k
     ·rw[c];exact hsp.trans hps.symm
     ·exact hoth i hi' c
    ·intro c;apply h0;rw[I0 hi' hlt,c];split<;>rfl
 obtain⟨⟨r,V'⟩,h1,h2,h3,h4,h5⟩:=main;simp only at h2 h3 h4 h5;subst h2;exact⟨V',by rw[wH h1,cZ rfl],h3,h4,h5⟩
theorem XV(h:MapS K V M k many v W0 N l){s:Nat}{x y:SeT}(hs:l[s]? =some x)(hy:o7 y=0)(hN:N<1000000000000000):
 ∃V',aK (.func (.func 82) #[] #[]) [mV M,.int .i64 (s:Int),mH y] V=some (.tuple #[],V')/\MapS K V' M k many v W0 (N+1) (l.set s y)/\Gr V V' K:=by
 obtain⟨d,rfl,rfl,rfl,rfl,rfl,hnx,hlen,hok,hM⟩:=h;obtain⟨V',h1,h2,h3,-⟩:=S6 hnx hlen hok hM hs hy hN;exact⟨V',h1,h2,h3⟩
end
theorem a1t(W:AW):dR Tryz.prog 42 [] W=some (gK (0,0),W):=Eq.trans (by kernel_rfl) rfl
def noE(n:Int)(many:Nat):Int:=if n<0\/(many:Int)<=n then 4 else 0
def jX(i:Int)(k:Nat)(now:Int):Int:=if i<0\/(k:Int)<=i then 4 else if now<0 then 7 else 0
section
variable {K:Nat->Prop} {V:AW} {M k many:Nat} {v:Ven} {W0:AW} {N:Int} {l:List SeT}
theorem MapS.le{V':AW}(h:MapS K V M k many v W0 N l)(hl:Le V V'):MapS K V' M k many v W0 N l:=by obtain⟨d,a,b,c,e,f,g,i,j,p⟩:=h;exact⟨d,a,b,c,e,f,g,i,j,p.le hl⟩
theorem MapS.shift{V':AW}(h:MapS K V M k many v W0 N l)(hl:Le V V'):MapS (λb=>K b/\b<V.next\/V'.next<=b) V' M k many v W0 N l:=by obtain⟨d,a,b,c,e,f,g,i,j,p⟩:=h;exact⟨d,a,b,c,e,f,g,i,j,p.shift hl⟩
theorem MapS.weak{K':Nat->Prop}(h:MapS K V M k many v W0 N l)(hk:∀b,K b->K' b)(hw:∀b,K' b->W0.next<=b):MapS K' V M k many v W0 N l:=by obtain⟨d,a,b,c,e,rfl,g,i,j,p⟩:=h;exact⟨d,a,b,c,e,rfl,g,i,j,p.weak hk hw⟩
theorem MapS.up(h:MapS K V M k many v W0 N l){b:Nat}(hb:V.next<=b):K b:=by obtain⟨d,-,-,-,-,-,-,-,-,p⟩:=h;exact p.up b hb
theorem MapS.wk(h:MapS K V M k many v W0 N l){b:Nat}(hb:K b):W0.next<=b:=by obtain⟨d,-,-,-,-,rfl,-,-,-,p⟩:=h;exact p.wk b hb
theorem MapS.grow{N':Int}(h:MapS K V M k many v W0 N l)(hN:N<=N'):MapS K V M k many v W0 N' l:=by obtain⟨d,a,b,c,e,f,g,i,j,p⟩:=h;exact⟨d,a,b,c,e,f,λi hi=>Int.le_trans (g i hi) hN,i,j,p⟩
theorem MapS.len(h:MapS K V M k many v W0 N l):l.length=many:=by obtain⟨d,a,b,c,e,f,g,i,j,p⟩:=h;exact i
theorem MapS.kp(h:MapS K V M k many v W0 N l):1<=k/\k<=16:=by obtain⟨d,a,rfl,c,e,f,g,i,j,p⟩:=h;exact p.kp
theorem MapS.mn(h:MapS K V M k many v W0 N l):many<=4096:=by obtain⟨d,a,b,rfl,e,f,g,i,j,p⟩:=h;exact p.mn
theorem MapS.vk(h:MapS K V M k many v W0 N l):v.sh=(k:Int):=by obtain⟨d,a,rfl,c,rfl,f,g,i,j,p⟩:=h;exact p.vk
theorem MapS.ok(h:MapS K V M k many v W0 N l){x:SeT}(hx:x∈l):o7 x=0:=by obtain⟨d,a,b,c,e,f,g,i,j,p⟩:=h;exact j x hx
theorem UI(h:MapS K V M k many v W0 N l):aK (.func (.func 84) #[] #[]) [mV M] V=some (.bool true,V):=by obtain⟨d,rfl,-,-,-,-,-,-,-,p⟩:=h;exact a0a p
theorem sM4(h:MapS K V M k many v W0 N l):aN (.pointer (some ⟨M,4,none⟩)) V=some (.int .i64 (many:Int),V):=by obtain⟨d,rfl,-,rfl,-,-,-,-,-,p⟩:=h;exact p.l4
theorem sM5(h:MapS K V M k many v W0 N l):∃B,aN (.pointer (some ⟨M,5,none⟩)) V=some (.slice (some ⟨B,0,none⟩) k k,V):=by obtain⟨d,rfl,rfl,-,-,-,-,-,-,p⟩:=h;exact⟨_,p.l5⟩
theorem E5(h:MapS K V M k many v W0 N l)(i now:Int):aK (.func (.func 75) #[] #[]) [mV M,.int .i64 i,.int .i64 now] V=some (.int .i64 (jX i k now),V):=by
 refine aM rfl ?_ sZ;unfold oJ;unfold jX;obtain⟨B,hB⟩:=sM5 h;by_cases c1:i<0
 ·have d1:=decide_eq_true c1;rw[if_pos (.inl c1)];simp only[SX,E7,E0,UI h,d1,aA];exact⟨trivial,Le.refl _⟩
 ·have d1:=decide_eq_false c1;by_cases c2:(k:Int)<=i
  ·have d2:=decide_eq_true c2;rw[if_pos (.inr c2)];simp only[SX,E7,E0,UI h,d1,d2,aF,Nat.zero_add,hB,tE,aA];exact⟨trivial,Le.refl _⟩
  ·have d2:=decide_eq_false c2;rw[if_neg (by omega)];by_cases c3:now<0
   ·have d3:=decide_eq_true c3;simp only[SX,E7,E0,UI h,d1,d2,d3,aF,Nat.zero_add,hB,tE,if_pos c3,aA];exact⟨trivial,Le.refl _⟩
   ·have d3:=decide_eq_false c3;simp only[SX,E7,E0,UI h,d1,d2,d3,aF,Nat.zero_add,hB,tE,if_neg c3,aA];exact⟨trivial,Le.refl _⟩
theorem sAt(h:MapS K V M k many v W0 N l){s:Nat}{x:SeT}(hs:l[s]? =some x):∃b o,aK (.func (.func 81) #[] #[]) [mV M,.int .i64 (s:Int)] V=some (.pointer (some ⟨b,o,none⟩),V)/\dS 5 (.pointer (some ⟨b,o,none⟩)) V=some (mH x,V)/\aN (.pointer (some ⟨b,o,none⟩)) V=some (.int .i64 x.st,V):=by obtain⟨d,rfl,rfl,-,-,-,-,-,-,p⟩:=h;have hk:0<d.k:=p.kp.1;have hc:=AL hk hs;have hi:=Nat.mod_lt s hk;exact⟨_,_,BN p hs,(p.col _ hi).all hc,(p.col _ hi).st hc⟩
def a4N(l:List SeT)(n:Int):SeT:=if noE n l.length=0 then j0 l n.toNat else DF
def a3H(l:List SeT)(n:Int)(y:SeT):Int:=if noE n l.length≠0 then noE n l.length else if o7 y≠0 then 6 else 0
def a2x(l:List SeT)(n:Int)(y:SeT):List SeT:=if a3H l n y=0 then l.set n.toNat y else l
theorem MapS.hold(h:MapS K V M k many v W0 N l){i:Nat}(hi:i<k):∃B H tv T,aN (.pointer (some ⟨M,5,none⟩)) V=some (.slice (some ⟨B,0,none⟩) k k,V)/\(∃In s,HT V In H many s/\s.es.Perm (bP l (j4 k i)))/\aN (.pointer (some ⟨B,i*2,none⟩)) V=some (hP H,V)/\aN (.pointer (some ⟨B,i*2+1,none⟩)) V=some (tv,V)/\SlS V T tv (dD l k i):=by obtain⟨d,rfl,rfl,rfl,-,-,-,-,-,p⟩:=h;exact⟨_,_,_,_,p.l5,⟨_,_,p.ho i hi,p.es i hi⟩,p.h0 hi,p.h1 hi,p.col i hi⟩
end
section
variable {α:Type} {z:Nat} {f:α->List Value} {at_:List Value->Nat->α->Prop} {W:AW} {v:Value} {l:List α}
theorem GK(hf:∀a,(f a).length=z):∀(l:List α) (cs:List Value) (o:Nat),(∀i (h:i<l.length),(cs.drop (o+i*z)).take z=f l[i])->(cs.drop o).take (l.length*z)=l.flatMap f
 |[],cs,o,h=>by simp
 |a::l,cs,o,h=>by
  have h0:(cs.drop o).take z=f a:=by have:=h 0 (by simp);rw[Nat.zero_mul,Nat.add_zero]at this;exact this
  have ih:=GK hf l cs (o+z) λi hi=>by
   have h1:=h (i+1) (by simp;omega);have e:o+(i+1)*z=o+z+i*z:=by rw[Nat.add_mul,Nat.one_mul];omega
   rw[e]at h1;exact h1
  rw[List.length_cons,Nat.add_mul,Nat.one_mul,Nat.add_comm,List.take_add,h0,List.drop_drop,ih,List.flatMap_cons]
def OwnL(lo:Nat)(W:AW)(z:Nat)(f:α->List Value)(v:Value)(l:List α):Prop:=
 ∃B c,lo<=B/\B<W.next/\v=.slice (some ⟨B,0,none⟩) l.length c/\(l≠[]->W.get B=some (.cells (l.flatMap f)))
theorem OwnL.row{lo:Nat}(hf:∀a,(f a).length=z)(h:OwnL lo W z f v l)(hat:∀a pre post,at_ (pre++(f a++post)) pre.length a):Row W z at_ v l:=by
 obtain⟨B,c,h0,h1,rfl,h2⟩:=h;by_cases he:l=[]
 ·exact⟨_,c,rfl,.inl he⟩
 ·refine⟨_,c,rfl,.inr ⟨B,0,_,rfl,h1,b9 (h2 he),λi hi=>?_⟩⟩;obtain⟨e1,e2⟩:=dC hf (List.getElem?_eq_getElem hi);rw[e1,Nat.zero_add,<-e2];exact hat _ _ _
theorem OwnL.one{lo:Nat}(h:OwnL lo W z f v l):Eng.one v=true:=by obtain⟨B,c,h0,h1,rfl,h2⟩:=h;rfl
theorem OwnL.same{lo:Nat}(h:OwnL lo W z f v l):KR v v=true:=by obtain⟨B,c,h0,h1,rfl,h2⟩:=h;exact sR _ _ _ _
theorem OwnL.mono{lo:Nat}{W':AW}(h:OwnL lo W z f v l)(hl:Le W W'):OwnL lo W' z f v l:=by obtain⟨B,c,h0,h1,rfl,h2⟩:=h;exact⟨B,c,h0,Nat.lt_of_lt_of_le h1 hl.next,rfl,λhe=>(hl.get _ h1).trans (h2 he)⟩
theorem IS{ts:Array TypeId}{bytes:Nat}(hk:lF Tryz.prog ts z bytes=true)(hf:∀a,(f a).length=z)(h1:∀a,(f a).all Eng.one=true)(h:Row W z at_ v l)(hat:∀cs p a,at_ cs p a->(cs.drop p).take z=f a)
 (hn:l.length<1099511627776)(hb:(2*l.length+192)*bytes<=281474976710656){b:Nat}(hbl:b<W.next):∃u W',bK Tryz.prog W ts (.slice (some ⟨b,0,none⟩) 0 0) v=some (u,W')/\Le W W'/\OwnL b W' z f u l:=by
 obtain⟨a,c,rfl,h⟩:=h;by_cases he:l=[]
 ·subst he;exact⟨_,W,IF hk (Nat.le_refl 0) (by omega) (by simpa using hb),.refl _,b,0,Nat.le_refl _,hbl,rfl,λx=>absurd rfl x⟩
 ·rcases h with h|⟨B,o,cs,rfl,h2,h3,h4⟩
  ·exact absurd h he
  ·have e:l.flatMap f=(cs.drop o).take (l.length*z):=(GK hf l cs o λi hi=>hat _ _ _ (h4 i hi)).symm;have hall:(l.flatMap f).all Eng.one=true:=by rw[List.all_flatMap,List.all_eq_true];exactλa _=>h1 a
   refine⟨_,_,D5 hk h3 e (aQ hf l) (List.length_pos_iff.2 he) hall hn hb,(Le.refl _).add _,W.next,_,by omega,by rw[AW.add_next];omega,rfl,λ_=>AW.get_add _ _⟩
end
theorem u25:Tryz.prog.underlying 25=some (.slice 38):=by kernel_rfl
theorem b25:(Tryz.prog.info? 38).map (·.bytes)=some 40:=by kernel_rfl
theorem t25:jO Tryz.prog 38=some 5:=by kernel_rfl
theorem z25:i7 Tryz.prog 38=some (mH DF):=by kernel_rfl
theorem HZ(n:Nat):tZ (dU DF) n=(List.replicate n DF).flatMap dU:=by
 induction n with
 |zero=>rfl
 |succ n ih=>show dU DF++tZ (dU DF) n=_;rw[ih,List.replicate_succ,List.flatMap_cons]
theorem a3q{n:Nat}(h:n<=10000)(W:AW):g8 Tryz.prog 25 (.int .i64 (n:Int)) (.int .i64 (n:Int)) W=some (.slice (some ⟨W.next,0,none⟩) n n,W.add (.cells ((List.replicate n DF).flatMap dU))):=by
 show g8 Tryz.prog 25 (.int .i64 (Int.ofNat n)) (.int .i64 (Int.ofNat n)) W=_;unfold g8;have e:=CC (z:=mH DF) (len:=n) (n:=5) rfl;have e2:(gV (mH DF) (n*5)).toList=(List.replicate n DF).flatMap dU:=by rw[e];exact HZ n
 have e3:((List.replicate n DF).flatMap dU).all bR=true:=by rw[<-HZ];exact vH _ _ rfl n
 simp only[u25,t25,z25,b25];rw[e2,if_pos ⟨Nat.le_refl _,by omega,by omega,e3⟩]
section
variable {K:Nat->Prop} {V:AW} {M k many:Nat} {v:Ven} {W0:AW} {N:Int} {l:List SeT}
theorem SlS.own{W:AW}{B:Nat}{v:Value}{xs:List SeT}(h:SlS W B v xs):SeL W v xs:=h.row
def shL(l:List SeT)(k:Nat)(i:Int):List SeT:=if jX i k 0=0 then dD l k i.toNat else []
theorem SC{i now:Int}{k:Nat}(h:jX i k now=0):∃s:Nat,i=(s:Int)/\s<k/\0<=now:=by
 unfold jX at h;split at h
 ·omega
 ·split at h
  ·omega
  ·rename_i c c2;exact⟨i.toNat,by omega,by omega,by omega⟩
def G2(l:List (Int×Int))(x:Int×Int):Prop:=x∈l/\∀y,y∈l->iZ y x=false
theorem HS.first{W:AW}{In:Nat->Prop}{H q mh hm:Nat}{se nx:Int}{n:Nat}{f:Nat->En}(h:HS W In H q mh hm se nx n f)(hn:0<n):G2 (pZ n f) (vP n f):=by
 have hh:=h.qs.hp;refine⟨v8.2 ⟨0,hn,by unfold vP;rw[if_neg (by omega)]⟩,λy hy=>?_⟩;obtain⟨i,hi,rfl⟩:=v8.1 hy;unfold vP;rw[if_neg (by omega)];cases hc:iZ (f i).v (f 0).v
 ·rfl
 ·exfalso;have hb:fR iZ (f i) (f 0)=true:=by unfold fR;rw[hc];rfl
  have:=hh.first wC i hi;rw[hb]at this;cases this
def QQ(l:List SeT)(k:Nat)(i:Int):Int:=if jX i k 0≠0 then jX i k 0 else if bP l (j4 k i.toNat)=[]then 4 else 0
theorem RV(h:MapS K V M k many v W0 N l)(i:Int):∃x:Int×Int,aK (.func (.func 22) #[] #[]) [mV M,.int .i64 i] V=some (.tuple #[gK x,.int .i64 (QQ l k i)],V)/\(QQ l k i≠0->x=(0,0))/\(QQ l k i=0->G2 (bP l (j4 k i.toNat)) x):=by
 have key:∃x:Int×Int,Ok (m9 aK (mV M) (.int .i64 i) V) λr=>(r.1=.tuple #[gK x,.int .i64 (QQ l k i)]/\Le V r.2)/\(QQ l k i≠0->x=(0,0))/\(QQ l k i=0->G2 (bP l (j4 k i.toNat)) x):=by
  unfold m9;have l1:Le V (V.add (.cells [.int .i64 0,.int .i64 0])):=(Le.refl _).add _;have g1:(V.add (.cells [.int .i64 0,.int .i64 0])).get V.next=some (.cells [.int .i64 0,.int .i64 0]):=AW.get_add _ _;simp only[SX,P4];generalize V.add (.cells [.int .i64 0,.int .i64 0])=V1 at *;have h1:=h.le l1;have hse:=E5 h1 i 0;have st:=λy=>H0 y g1
  have ld:=λy:Int×Int=>DX (v:=y) (W:=V1.put V.next (.cells [.int .i64 y.1,.int .i64 y.2])) (b:=V.next) (AW.get_put _ _ _)
  have fin:∀o,Le V (V1.put V.next o):=λo=>l1.put (Nat.le_refl _) o
  by_cases c:jX i k 0=0
  ·have d1:=decide_eq_true c;have en:QQ l k i=if bP l (j4 k i.toNat)=[]then 4 else 0:=by unfold QQ;rw[if_neg (λx=>x c)]
   obtain⟨s,rfl,hs,-⟩:=SC c;obtain⟨B,H,tv,T,b1,⟨In,q,b2,b5⟩,b3,b4,-⟩:=h1.hold hs;have hnx:=VV b2;have hq:(q.n=0)=(bP l (j4 k s)=[]):=by have:=b5.length_eq;rw[CV]at this;apply propext;rw[<-List.length_eq_zero_iff];omega
   have d0:decide ((0:Int)=0)=true:=rfl;refine⟨vP q.n q.f,?_⟩;simp only[SX,hse,c,d0,aF,Nat.zero_add,Nat.add_zero,b1,FW hs,b3,hnx,st,gI,OY,ld,Option.bind_some,aA];refine⟨⟨?_,fin _⟩,?_,?_⟩
   ·rw[en];simp only[hq,Int.toNat_natCast]
   ·intro hne;rw[en]at hne;unfold vP;rw[if_pos];rw[hq];apply Classical.byContradiction;intro x;exact hne (if_neg x)
   ·intro he;rw[en]at he;have hne:¬bP l (j4 k s)=[]:=λx=>by have x':bP l (j4 k (s:Int).toNat)=[]:=x;rw[if_pos x']at he;omega
    have hn0:0<q.n:=by
     have:¬q.n=0:=by rw[hq];exact hne
     omega
    obtain⟨f1,f2⟩:=HS.first b2 hn0;exact⟨b5.mem_iff.1 f1,λy hy=>f2 y (b5.mem_iff.2 hy)⟩
  ·have d1:=decide_eq_false c;have en:QQ l k i=jX i k 0:=by unfold QQ;rw[if_pos c]
   refine⟨(0,0),?_⟩;have ld0:dS 2 (.pointer (some ⟨V.next,0,none⟩)) (V1.put V.next (.cells [.int .i64 0,.int .i64 0]))=some (gK (0,0),V1.put V.next (.cells [.int .i64 0,.int .i64 0])):=ld (0,0);simp only[SX,hse,d1,a1t,st,gI,OY,ld0,Option.bind_some,aA];exact⟨⟨by rw[en],fin _⟩,λ_=>trivial,λx=>absurd (en.symm.trans x) c⟩
 obtain⟨x,r,k1,⟨k2,k3⟩,k4⟩:=key;exact⟨x,aM rfl ⟨r,k1,k2,k3⟩ uJ,k4⟩
def yG(l:List SeT)(i:Nat):List SeT:=l.take i++List.replicate (l.length-i) DF
theorem VI(l:List SeT)(i:Nat):(yG l i).length=l.length:=by unfold yG;rw[List.length_append,List.length_take,List.length_replicate];omega
theorem TH{l:List SeT}{i:Nat}(hi:i<l.length):(yG l i)[i]? =some DF/\(yG l i).set i (j0 l i)=yG l (i+1):=by
 have e:l.length-i=(l.length-(i+1))+1:=by omega
 have hlen:(l.take i).length=i:=by rw[List.length_take];omega
 unfold yG;rw[e,List.replicate_succ];refine⟨by rw[List.getElem?_append_right (by omega),hlen,Nat.sub_self];rfl,?_⟩;rw[List.set_append_right _ _ (by omega),hlen,Nat.sub_self,List.set_cons_zero,List.take_add_one,jF hi];simp
theorem RJ(l:List SeT):yG l l.length=l:=by unfold yG;rw[List.take_length,Nat.sub_self,List.replicate_zero,List.append_nil]
theorem a0H(a:Option Addr)(n c:Nat)(W:AW):aD Tryz.prog .len #[25] 3 #[false] [.slice a n c] W=some (.int .i64 (n:Int),W):=eR nE _ _ _
theorem RA(h:MapS K V M k many v W0 N l):∃u V',aK (.func (.func 26) #[] #[]) [mV M] V=some (u,V')/\Le V V'/\SeL V' u l:=by
 refine a0D ?_ uP;unfold qG;have hmn:=h.mn;have hlen:=h.len;have l1:Le V (V.add (.cells ((List.replicate many DF).flatMap dU))):=(Le.refl _).add _;have n1:(V.add (.cells ((List.replicate many DF).flatMap dU))).next=V.next+1:=AW.add_next _ _;have g1:(V.add (.cells ((List.replicate many DF).flatMap dU))).get V.next=some (.cells ((List.replicate many DF).flatMap dU)):=AW.get_add _ _;simp only[SX,UI h,aF,Nat.zero_add,Nat.add_zero,sM4 h,a3q (show many<=10000 by omega),a0H];generalize V.add (.cells ((List.replicate many DF).flatMap dU))=V1 at *;refine bI many (by omega) (λi R U=>U.next=V1.next/\Le V U/\U.get V.next=some (.cells ((yG l i).flatMap dU))/\R 0=mV M/\R 3=.slice (some ⟨V.next,0,none⟩) many many/\R 14=.int .i64 (many:Int)/\R 15=.int .i64 (i:Int))
  (λr=>r.1=.exit 0/\r.2.2.next=V1.next/\Le V r.2.2/\r.2.2.get V.next=some (.cells (l.flatMap dU))/\r.2.1 3=.slice (some ⟨V.next,0,none⟩) many many) ⟨rfl,l1,by rw[g1];unfold yG;rw[List.take_zero,hlen,Nat.sub_zero,List.nil_append],rfl,rfl,rfl,rfl⟩ ?_ ?_ ?_
 ·rintro i R U hi ⟨u1,u2,u3,r0,r3,r14,r15⟩;unfold iI;have t1:((i:Int)<(many:Int)):=by omega
  have t2:=λW'=>aX (P:=Tryz.prog) (W:=W') (t:=3) (c:=false) (d:=true) (a:=(i:Int)) (b:=1) (by omega) (by omega)
  have e3:((i+1:Nat):Int)=(i:Int)+1:=by omega
  obtain⟨b,o,a1,a2,-⟩:=sAt (h.le u2) (jF (l:=l) (j:=i) (by omega));have ix:=λW' q=>jE (W:=W') (z:=5) (b:=V.next) (o:=0) (l:=many) (c:=many) (i:=i) (k:=q) hi
  obtain⟨x1,x2⟩:=TH (l:=l) (i:=i) (by omega);have hst:=xZ (n:=5) (b:=V.next) (o:=i*5) (v:=mH (j0 l i)) u3 rfl (by show i*5+5<=_;rw[aQ dV,VI];omega) rfl;have e4:fH ((yG l i).flatMap dU) (i*5) (dU (j0 l i))=(yG l (i+1)).flatMap dU:=by rw[vD dV x1,x2]
  have hst':eY 5 (.pointer (some ⟨V.next,i*5,none⟩)) (mH (j0 l i)) U=some (undef,U.put V.next (.cells ((yG l (i+1)).flatMap dU))):=by rw[hst,<-e4];rfl
  simp only[SX,r0,r3,r14,r15,t1,decide_true,a1,aF,a2,ix,Nat.zero_add,hst',t2,aA];exact .inl ⟨trivial,u1,u2.put (Nat.le_refl _) _,AW.get_put _ _ _,r0,r3,r14,by rw[e3];rfl⟩
 ·rintro R U ⟨u1,u2,u3,r0,r3,r14,r15⟩;unfold iI;have t1:¬((many:Int)<(many:Int)):=by omega
  simp only[SX,r14,r15,t1,decide_false,aA];exact⟨by simp,trivial,u1,u2,by rw[<-hlen,RJ]at u3;exact u3,r3⟩
 ·rintro⟨q,R,U⟩ ⟨rfl,u1,u2,u3,r3⟩;simp only at u1 u2 u3 r3;simp only[SX,r3,aA];refine⟨u2,OwnL.row (lo:=0) dV ⟨V.next,many,Nat.zero_le _,by omega,by rw[hlen],λ_=>u3⟩ FZ⟩
end
theorem NV(x y:SeT):x=y<->x.st=y.st/\x.ow=y.ow/\x.dl=y.dl/\x.se=y.se/\x.ep=y.ep:=by obtain⟨a,b,c,d,e⟩:=x;obtain⟨a',b',c',d',e'⟩:=y;simp
instance:DecidableEq SeT:=λx y=>decidable_of_iff _ (NV x y).symm
theorem g38:Tryz.prog.eqGuardType Tryz.prog.depth 38=false:=by kernel_rfl
theorem q38(x y:SeT):N0 Tryz.prog 8 38 (mH x) (mH y)=JR [(x.st,y.st),(x.ow,y.ow),(x.dl,y.dl),(x.se,y.se),(x.ep,y.ep)]:=by kernel_rfl
theorem a0F(x y:SeT):([(x.st,y.st),(x.ow,y.ow),(x.dl,y.dl),(x.se,y.se),(x.ep,y.ep)].all λp=>p.1==p.2)=decide (x=y):=by rw[Bool.eq_iff_iff,decide_eq_true_eq,NV];simp
theorem a2v(x y:SeT)(c d:Bool)(W:AW):aG Tryz.prog .neq 38 c d (mH x) (mH y) W=some (.bool (!decide (x=y)),W):=by have:=uS (W:=W) (c:=c) (d:=d) g38 ((q38 x y).trans (CJ _));rw[this,a0F]
theorem UV(a:Int×Int):iZ a a=false:=by unfold iZ;simp
theorem WV{a b c:Int×Int}(h1:iZ a b=true)(h2:iZ b c=true):iZ a c=true:=by unfold iZ at *;simp only[Bool.or_eq_true,Bool.and_eq_true,decide_eq_true_eq]at *;omega
theorem SS{a b c:Int×Int}(h1:¬iZ a b=true)(h2:¬iZ b c=true):¬iZ a c=true:=by unfold iZ at *;simp only[Bool.or_eq_true,Bool.and_eq_true,decide_eq_true_eq]at *;omega
theorem WX{a b:Int×Int}(h1:iZ a b=false)(h2:iZ b a=false):a=b:=by rw[Prod.ext_iff];unfold iZ at *;simp only[Bool.or_eq_false_iff,Bool.and_eq_false_iff,decide_eq_false_iff_not]at *;omega
def Asc(l:List (Int×Int)):Prop:=l.Pairwise λa b=>iZ b a=false
theorem TD{l m:List (Int×Int)}(hp:l.Perm m)(hl:Asc l)(hm:Asc m):l=m:=
 hp.eq_of_pairwise (le:=λa b=>iZ b a=false) (λa b _ _ h1 h2=>WX h2 h1) hl hm
theorem X7:p9 Tryz.prog 144:=⟨_,_,Tryz.func144,by kernel_rfl,rfl⟩
theorem SM{V:AW}{l:List (Int×Int)}{B c:Nat}{rest:List Value}(h0:l≠[])(hl:l.length<=10000)(hB:V.get B=some (.cells (l.flatMap o6++rest))):∃l':List (Int×Int),l'.Perm l/\Asc l'/\aK (.func (.func 78) #[] #[]) [.slice (some ⟨B,0,none⟩) l.length c,.func (.func 144) #[] #[]] V=some (.tuple #[],V.put B (.cells (l'.flatMap o6++rest))):=by
 have hpos:0<l.length:=List.length_pos_iff.2 h0;have ol:=λa b=>(EB a b V).2.1
 have hO:OrdN l.length (λi j=>IA (l.getD i (0,0)) (l.getD j (0,0))):=⟨λi _ h=>absurd ((ol _ _).1 h) (by rw[UV];decide),λi j k _ _ _ h1 h2=>(ol _ _).2 (WV ((ol _ _).1 h1) ((ol _ _).1 h2)),λi j k _ _ _ h1 h2 h3=>SS (λx=>h1 ((ol _ _).2 x)) (λx=>h2 ((ol _ _).2 x)) ((ol _ _).1 h3)⟩;obtain⟨l',e1,e2,e3⟩:=BX l o6 (λa b=>iZ a b) hO hpos λi j hi hj=>by rw[ol];simp[List.getD_eq_getElem?_getD,hi,hj]
 refine⟨l',e1,e2,sN ?_⟩;refine .inr ⟨B,c,l.map o6,rest,144,#[],λi j=>IA (l.getD i (0,0)) (l.getD j (0,0)),⟨?_,?_,?_,?_,?_,?_,?_,?_,?_,X7,?_,?_,?_⟩⟩
 ·intro h;have:=congrArg List.length h;rw[List.length_map]at this;simp at this;exact h0 this
 ·rw[List.length_map];omega
 ·intro r hr;obtain⟨e,-,rfl⟩:=List.mem_map.1 hr;rfl
 ·intro r hr v hv;obtain⟨e,-,rfl⟩:=List.mem_map.1 hr;simp only[o6,List.mem_cons,List.not_mem_nil,or_false]at hv;rcases hv with rfl|rfl<;>rfl
 ·rw[List.length_map]
 ·rw[N9];exact hB
 ·intro r hr v hv;obtain⟨e,-,rfl⟩:=List.mem_map.1 hr;simp only[o6,List.mem_cons,List.not_mem_nil,or_false]at hv;exact rD (by rcases hv with rfl|rfl<;>rfl)
 ·intro v hv;simp at hv
 ·intro g hg;cases hg
 ·intro i j hi hj;rw[List.length_map]at hi hj;rw[List.getElem_map,List.getElem_map];have e4:∀x:Int×Int,XG true (o6 x)=gK x:=λx=>rfl
  rw[e4,e4];refine(HO (EB _ _ _).1).trans ?_;simp[List.getD_eq_getElem?_getD,hi,hj]
 ·rw[List.length_map];exact hO
 ·rw[e3,N9]
theorem KX(x:Int×Int)(pre post:List Value):a1F (pre++(o6 x++post)) pre.length x:=by
 have:∀i,(pre++(o6 x++post))[pre.length+i]? =(o6 x++post)[i]? :=λi=>by rw[List.getElem?_append_right (by omega),Nat.add_sub_cancel_left]
 exact⟨by have:=this 0;exact this,this 1⟩
theorem LN{W:AW}{B c:Nat}{l:List (Int×Int)}{rest:List Value}(hB:W.get B=some (.cells (l.flatMap o6++rest)))(hl:B<W.next):HoL W (.slice (some ⟨B,0,none⟩) l.length c) l:=by refine⟨_,c,rfl,.inr ⟨B,0,_,rfl,hl,b9 hB,λi hi=>?_⟩⟩;obtain⟨e1,e2⟩:=dC nT (List.getElem?_eq_getElem hi);rw[e1,Nat.zero_add,<-e2,List.append_assoc,List.append_assoc];exact KX _ _ _
def kP{α:Type}(p:α->Bool)(l:List α):Int:=match l.findIdx? p with|some i=>(i:Int)|none=> -1
theorem BI{α:Type}{p:α->Bool}{l:List α}(h:∀x∈l,p x=false):kP p l= -1:=by unfold kP;rw[List.findIdx?_eq_none_iff.2 h]
theorem JX{α:Type}{p:α->Bool}{l:List α}{i:Nat}(hi:i<l.length)(hp:p l[i]=true)(h:∀j (hj:j<i),p (l[j]'(by omega))=false):kP p l=(i:Int):=by unfold kP;rw[List.findIdx?_eq_some_iff_getElem.2 ⟨hi,hp,λj hj=>by rw[h j hj];decide⟩]
theorem EK{α:Type}(p:α->Bool)(l:List α):((∀x∈l,p x=false)/\kP p l= -1)\/∃i,∃hi:i<l.length,kP p l=(i:Int)/\p l[i]=true/\∀j (hj:j<i),p (l[j]'(by omega))=false:=by
 cases h:l.findIdx? p with
 |none=>exact .inl ⟨List.findIdx?_eq_none_iff.1 h,by unfold kP;rw[h]⟩
 |some i=>obtain⟨h1,h2,h3⟩:=List.findIdx?_eq_some_iff_getElem.1 h;exact .inr ⟨i,h1,by unfold kP;rw[h],h2,λj hj=>by have:=h3 j hj;simpa using this⟩
theorem K7{W:AW}{v fv:Value}{l:List (Int×Int)}{p:Int×Int->Bool}(h:HoL W v l)(hp:∀x,x∈l->aK fv [gK x] W=some (.bool (p x),W))(hl:l.length<=10000):aK (.func (.func 196) #[] #[]) [v,fv] W=some (.int .i64 (kP p l),W):=by
 refine aM rfl ?_ fF;unfold d7;simp only[SX,h.len qK];refine bI l.length (by omega) (λi R V=>V=W/\R 0=v/\R 1=fv/\R 7=.int .i64 (l.length:Int)/\R 8=.int .i64 (i:Int)/\∀j (hj:j<i) (hj2:j<l.length),p l[j]=false)
  (λr=>r.2.2=W/\((r.1=.exit 0/\kP p l= -1)\/(r.1=.ret/\r.2.1 4=.int .i64 (kP p l)))) ⟨rfl,rfl,rfl,rfl,rfl,λj hj=>by omega⟩ ?_ ?_ ?_
 ·rintro i R V hi ⟨rfl,r0,r1,r7,r8,ha⟩;unfold bJ;have t1:((i:Int)<(l.length:Int)):=by omega
  have t2:=λW'=>aX (P:=Tryz.prog) (W:=W') (t:=3) (c:=false) (d:=true) (a:=(i:Int)) (b:=1) (by omega) (by omega)
  have e3:((i+1:Nat):Int)=(i:Int)+1:=by omega
  obtain⟨b,o,i1,i2,i3⟩:=HoL.get h hi;cases hc:p l[i]with
  |true=>simp only[SX,r0,r1,r7,r8,t1,decide_true,i1,(i3 _ rfl).1,hp _ (List.getElem_mem hi),hc,aA];exact .inr ⟨by simp,trivial,.inr ⟨trivial,by rw[JX hi hc λj hj=>ha j hj (by omega)];rfl⟩⟩
  |false=>
   simp only[SX,r0,r1,r7,r8,t1,decide_true,i1,(i3 _ rfl).1,hp _ (List.getElem_mem hi),hc,t2,aA];refine .inl ⟨trivial,trivial,r0,r1,r7,by rw[e3];rfl,λj hj hj2=>?_⟩;by_cases c:j=i
   ·subst c;exact hc
   ·exact ha j (by omega) hj2
 ·rintro R V ⟨rfl,r0,r1,r7,r8,ha⟩;unfold bJ;have t1:¬((l.length:Int)<(l.length:Int)):=by omega
  simp only[SX,r7,r8,t1,decide_false,aA];refine⟨by simp,trivial,.inl ⟨trivial,BI λx hx=>?_⟩⟩;obtain⟨j,hj,rfl⟩:=List.mem_iff_getElem.1 hx;exact ha j hj hj
 ·rintro⟨q,R,V⟩ ⟨rfl,hq⟩;simp only at hq;rcases hq with⟨rfl,e⟩|⟨rfl,r4⟩
  ·simp only[SX,aA];exact⟨by rw[e],Le.refl _⟩
  ·simp only[SX,r4,aA];exact⟨trivial,Le.refl _⟩
theorem NS{W:AW}{X:Nat}{now:Int}(hX:W.get X=some (.cells [.int .i64 now]))(hXl:X<W.next)(x:Int×Int):aK (.func (.func 141) #[] #[.pointer (some ⟨X,0,none⟩)]) [gK x] W=some (.bool (decide (now<x.2)),W):=by
 refine aM rfl ?_ qN;unfold mR;have oB:cO (gK x) W=some (.pointer (some ⟨W.next,0,none⟩),W.add (.cells [.int .i64 x.1,.int .i64 x.2])):=dN _;have g1:(W.add (.cells [.int .i64 x.1,.int .i64 x.2])).get W.next=some (.cells [.int .i64 x.1,.int .i64 x.2]):=AW.get_add _ _;have gX:(W.add (.cells [.int .i64 x.1,.int .i64 x.2])).get X=some (.cells [.int .i64 now]):=by rw[AW.get_add_ne _ _ (by omega)];exact hX
 simp only[SX,oB,Nat.zero_add,gY (o:=1) (bW g1) rfl,gY (o:=0) (bW gX) rfl,aA];exact⟨trivial,(Le.refl _).add _⟩
theorem ZM:kG Tryz.prog 32=some 2:=by kernel_rfl
theorem AS{b l h:Nat}{k:IntKind}(h1:h<=l)(W:AW):bG Tryz.prog 32 (.slice (some ⟨b,0,none⟩) l (bV+2)) (some (.int k (h:Int))) none none W=some (.slice (some ⟨b,h*2,none⟩) (l-h) (bV+2),W):=by
 obtain⟨e,he,hz⟩:=eF ZM;have h2:((⟨b,0,none⟩:Addr).add (h*2))=⟨b,h*2,none⟩:=by rw[bU];simp
 unfold bG eQ;simp only[he,hz,cC,fB,h1,if_true,true_and,if_pos (show 0<2 by omega),Nat.le_refl,h2]
theorem O3(n:Nat):(Builtin.zeroCells (gK (0,0)).cells n).toList.length=n*2:=by unfold Builtin.zeroCells;simp[FP]
theorem NR(n:Nat):(Builtin.zeroCells (gK (0,0)).cells n).toList.all bR=true:=by
 unfold Builtin.zeroCells;simp only[Array.toList_map,List.all_map,List.all_eq_true];intro i hi;show bR ((gK (0,0)).cells[i % (gK (0,0)).cells.size]!)=true;have:i % (gK (0,0)).cells.size=0\/i % (gK (0,0)).cells.size=1:=by have:(gK (0,0)).cells.size=2:=rfl;rw[this];omega
 rcases this with e|e<;>rw[e]<;>rfl
theorem e32:gJ Tryz.prog 32=some 42:=by kernel_rfl
theorem t42:jO Tryz.prog 42=some 2:=by kernel_rfl
theorem z42:i7 Tryz.prog 42=some (gK (0,0)):=by kernel_rfl
theorem TG{W:AW}{B o n c:Nat}{cs:List Value}(hB:W.get B=some (.cells cs))(hl:cs.length=o+n*2):∃rest,aD Tryz.prog .clear #[32] 0 #[false] [.slice (some ⟨B,o,none⟩) n c] W=some (.tuple #[],W.put B (.cells (cs.take o++rest)))\/(n=0/\aD Tryz.prog .clear #[32] 0 #[false] [.slice (some ⟨B,o,none⟩) n c] W=some (.tuple #[],W)):=by
 by_cases h0:n=0
 ·subst h0;exact⟨[],.inr ⟨rfl,by unfold aD tM;simp only[e32,t42,z42,if_true];rfl⟩⟩
 ·refine⟨(Builtin.zeroCells (gK (0,0)).cells n).toList,.inl ?_⟩;have e:tM Tryz.prog W #[32] (.slice (some ⟨B,o,none⟩) n c)=some (W.put B (.cells (cs.take o++(Builtin.zeroCells (gK (0,0)).cells n).toList))):=by
   unfold tM;simp only[e32,t42,z42,if_neg h0,if_pos (And.intro (NR n) (show 0<2 by omega))];rw[CK,hB];simp only;have hall:(Builtin.zeroCells (gK (0,0)).cells n).toList.all Eng.one=true:=by
    have:=NR n;rw[List.all_eq_true]at this|-;intro x hx;have:=this x hx;unfold Builtin.zeroCells at hx;simp only[Array.toList_map,List.mem_map]at hx;obtain⟨i,-,rfl⟩:=hx;have h2:i % (gK (0,0)).cells.size=0\/i % (gK (0,0)).cells.size=1:=by have:(gK (0,0)).cells.size=2:=rfl;rw[this];omega
    rcases h2 with e|e<;>rw[e]<;>rfl
   rw[if_pos ⟨by rw[O3];omega,hall⟩];unfold fH;rw[List.drop_of_length_le (by rw[O3];omega),List.append_nil]
  unfold aD;simp only[e,Option.map_some]
def fC(now:Int)(x:Int×Int):Bool:=decide (x.2<=now)
theorem OV{α:Type}{z:Nat}{f:α->List Value}(hf:∀a,(f a).length=z)(ys:List α){m:Nat}(hm:m<=ys.length):(ys.flatMap f).take (m*z)=(ys.take m).flatMap f:=by
 have e:ys.flatMap f=(ys.take m).flatMap f++(ys.drop m).flatMap f:=by rw[<-List.flatMap_append,List.take_append_drop]
 have e2:((ys.take m).flatMap f).length=m*z:=by rw[aQ hf,List.length_take,Nat.min_eq_left hm]
 rw[e,<-e2,List.take_left]
theorem a0A(W:AW)(x:Int×Int):∃W1 W2,bF Tryz.prog 42 W=some (.pointer (some ⟨W.next,0,none⟩),W1)/\eY 2 (.pointer (some ⟨W.next,0,none⟩)) (gK x) W1=some (undef,W2)/\Le W W2/\W2.next=W.next+1/\W2.get W.next=some (.cells [.int .i64 x.1,.int .i64 x.2]):=
 ⟨_,_,P4 W,H0 x (AW.get_add _ _),((Le.refl _).add _).put (Nat.le_refl _) _,rfl,AW.get_put _ _ _⟩
theorem a0G{V:AW}{B X:Nat}{now:Int}{l:List (Int×Int)}(hB:V.get B=some (.cells (l.flatMap o6)))(hBl:B<V.next)(hX:V.get X=some (.cells [.int .i64 now]))(hXl:X<V.next)(hXB:X≠B)(hl:l.length<=5000):
 ∃V' rest,aK (.func (.func 139) #[] #[]) [.slice (some ⟨B,0,none⟩) l.length (bV+2),.func (.func 141) #[] #[.pointer (some ⟨X,0,none⟩)]] V=some (.slice (some ⟨B,0,none⟩) (l.filter (fC now)).length (bV+2),V')/\
  V.next<=V'.next/\(∀b,b<V.next->b≠B->V'.get b=V.get b)/\V'.get B=some (.cells ((l.filter (fC now)).flatMap o6++rest)):=by
 have hH:HoL V (.slice (some ⟨B,0,none⟩) l.length (bV+2)) l:=LN (rest:=[]) (by rw[List.append_nil];exact hB) hBl;have hidx:=K7 hH (λx _=>NS hX hXl x) (by omega);have main:Ok (aW aK (.slice (some ⟨B,0,none⟩) l.length (bV+2)) (.func (.func 141) #[] #[.pointer (some ⟨X,0,none⟩)]) V) λr=>r.1=.slice (some ⟨B,0,none⟩) (l.filter (fC now)).length (bV+2)/\∃rest,V.next<=r.2.next/\(∀b,b<V.next->b≠B->r.2.get b=V.get b)/\r.2.get B=some (.cells ((l.filter (fC now)).flatMap o6++rest)):=by
  unfold aW;rcases EK (λx:Int×Int=>decide (now<x.2)) l with⟨h1,h2⟩|⟨i,hi,h2,h3,h4⟩
  ·have d:decide ((-1:Int)= -1)=true:=rfl;have hf:l.filter (fC now)=l:=List.filter_eq_self.2 λx hx=>by have:=of_decide_eq_false (h1 x hx);unfold fC;exact decide_eq_true (by omega)
   simp only[SX,hidx,h2,d,aA];exact⟨by rw[hf],[],Nat.le_refl _,λ_ _ _=>trivial,by rw[hf,List.append_nil];exact hB⟩
  ·have d:decide ((i:Int)= -1)=false:=decide_eq_false (by omega);have t0:=λW'=>aX (P:=Tryz.prog) (W:=W') (t:=3) (c:=false) (d:=true) (a:=(i:Int)) (b:=1) (by omega) (by omega)
   have k0:∀x∈l.take i,fC now x=true:=λx hx=>by obtain⟨j,hj,rfl⟩:=List.mem_iff_getElem.1 hx;rw[List.length_take]at hj;rw[List.getElem_take];have:=of_decide_eq_false (h4 j (by omega));unfold fC;exact decide_eq_true (by omega)
   have e0:(l.take (i+1)).filter (fC now)=l.take i:=by rw[List.take_add_one,List.getElem?_eq_getElem hi,List.filter_append,List.filter_eq_self.2 k0];have:=of_decide_eq_true h3;have h5:fC now l[i]=false:=decide_eq_false (by omega);simp[h5]
   simp only[SX,hidx,h2,d,t0]
   refine bI (l.length-(i+1)) (by omega) (λq R U=>V.next<=U.next/\(∀b,b<V.next->b≠B->U.get b=V.get b)/\R 0=.slice (some ⟨B,0,none⟩) l.length (bV+2)/\R 1=.func (.func 141) #[] #[.pointer (some ⟨X,0,none⟩)]/\R 6=.int .i64 ((i+1+q:Nat):Int)/\
    ∃(ys:List (Int×Int)) (m:Nat),U.get B=some (.cells (ys.flatMap o6))/\ys.length=l.length/\R 5=.int .i64 (m:Int)/\m<=i+1+q/\m=((l.take (i+1+q)).filter (fC now)).length/\ys.take m=(l.take (i+1+q)).filter (fC now)/\ys.drop (i+1+q)=l.drop (i+1+q))
    (λr=>r.1=.exit 0/\V.next<=r.2.2.next/\(∀b,b<V.next->b≠B->r.2.2.get b=V.get b)/\r.2.1 0=.slice (some ⟨B,0,none⟩) l.length (bV+2)/\∃(ys:List (Int×Int)) (m:Nat),r.2.2.get B=some (.cells (ys.flatMap o6))/\ys.length=l.length/\r.2.1 5=.int .i64 (m:Int)/\m<=l.length/\m=(l.filter (fC now)).length/\ys.take m=l.filter (fC now))
    ⟨Nat.le_refl _,λ_ _ _=>rfl,rfl,rfl,by rw[Nat.add_zero];show _=Value.int .i64 ((i:Int)+1);rfl,l,i,hB,rfl,rfl,by omega,by rw[Nat.add_zero,e0,List.length_take];omega,by rw[Nat.add_zero,e0],rfl⟩ ?_ ?_ ?_
   ·rintro q R U hq ⟨u1,u2,r0,r1,r6,ys,m,u3,u4,r5,u5,u6,u7,u8⟩;unfold bH;generalize hj:i+1+q=j at *;have hjl:j<l.length:=by omega
    have t1:((j:Int)<(l.length:Int)):=by omega
    have t2:=λW'=>aX (P:=Tryz.prog) (W:=W') (t:=3) (c:=false) (d:=true) (a:=(j:Int)) (b:=1) (by omega) (by omega)
    have e3:((i+1+(q+1):Nat):Int)=(j:Int)+1:=by omega
    have e3':i+1+(q+1)=j+1:=by omega
    have yj:ys[j]? =some l[j]:=by have h5:=congrArg (λt=>t[0]?) u8;simp only[List.getElem?_drop,Nat.add_zero]at h5;rw[h5,List.getElem?_eq_getElem hjl]
    have hBU:B<U.next:=by omega
    have HU:HoL U (.slice (some ⟨B,0,none⟩) l.length (bV+2)) ys:=by rw[<-u4];exact LN (rest:=[]) (by rw[List.append_nil];exact u3) hBU
    obtain⟨yi,ye⟩:=List.getElem?_eq_some_iff.1 yj;obtain⟨b,o,i1,i2,i3⟩:=HoL.get HU yi;have i4:=(i3 U rfl).1;rw[ye]at i4;obtain⟨U1,U2,k1,k2,k3,k4,k5⟩:=a0A U l[j];have ld:=DX (v:=l[j]) k5;have hX2:U2.get X=some (.cells [.int .i64 now]):=by rw[k3.get _ (by omega),u2 _ hXl hXB];exact hX
    have hd:=NS hX2 (by omega) l[j];have hB2:U2.get B=some (.cells (ys.flatMap o6)):=by rw[k3.get _ hBU];exact u3
    have g2:∀b,b<V.next->b≠B->U2.get b=V.get b:=λb hb hne=>by rw[k3.get _ (by omega)];exact u2 b hb hne
    by_cases c:now<l[j].2
    ·have d1:=decide_eq_true c;rw[d1]at hd;have hk:fC now l[j]=false:=decide_eq_false (by omega);have e4:(l.take (j+1)).filter (fC now)=(l.take j).filter (fC now):=by rw[List.take_add_one,List.getElem?_eq_getElem hjl,List.filter_append];simp[hk]
     simp only[SX,r0,r1,r6,eR qK,t1,decide_true,i1,i4,k1,k2,ld,hd,t2,aA];refine .inl ⟨trivial,by omega,g2,r0,r1,by rw[e3];rfl,ys,m,hB2,u4,r5,by omega,by rw[e3',e4];exact u6,by rw[e3',e4];exact u7,?_⟩;rw[e3',<-List.drop_drop,<-List.drop_drop,u8]
    ·have d1:=decide_eq_false c;rw[d1]at hd;have hk:fC now l[j]=true:=decide_eq_true (by omega);have e4:(l.take (j+1)).filter (fC now)=(l.take j).filter (fC now)++[l[j]]:=by rw[List.take_add_one,List.getElem?_eq_getElem hjl,List.filter_append];simp[hk]
     have hml:m<ys.length:=by omega
     have ix:=λW' q=>jE (W:=W') (z:=2) (b:=B) (o:=0) (l:=l.length) (c:=bV+2) (i:=m) (k:=q) (by omega)
     have hst:=xZ (n:=2) (b:=B) (o:=m*2) (v:=gK l[j]) hB2 rfl (by show m*2+2<=_;rw[aQ nT];omega) rfl;have e5:fH (ys.flatMap o6) (m*2) (gK l[j]).cells.toList=(ys.set m l[j]).flatMap o6:=vD nT (List.getElem?_eq_getElem hml) l[j];rw[e5]at hst;have t3:=λW'=>aX (P:=Tryz.prog) (W:=W') (t:=3) (c:=false) (d:=true) (a:=(m:Int)) (b:=1) (by omega) (by omega)
     simp only[SX,r0,r1,r5,r6,eR qK,t1,decide_true,i1,i4,k1,k2,ld,hd,ix,Nat.zero_add,hst,t2,t3,aA];refine .inl ⟨trivial,by rw[AW.put_next];omega,λb hb hne=>by rw[AW.get_put_ne _ _ (λx=>hne x.symm)];exact g2 b hb hne,r0,r1,by rw[e3];rfl,ys.set m l[j],m+1,AW.get_put _ _ _,by rw[List.length_set];exact u4,by rw[show((m+1:Nat):Int)=(m:Int)+1 by omega];rfl,by omega,?_,?_,?_⟩
     ·rw[e3',e4,List.length_append,<-u6];rfl
     ·rw[e3',e4,List.take_add_one,List.take_set_of_le (Nat.le_refl _),u7,List.getElem?_set_self hml];rfl
     ·rw[e3',List.drop_set_of_lt (by omega),<-List.drop_drop,<-List.drop_drop,u8]
   ·rintro R U ⟨u1,u2,r0,r1,r6,ys,m,u3,u4,r5,u5,u6,u7,u8⟩;unfold bH;have ej:i+1+(l.length-(i+1))=l.length:=by omega
    rw[ej]at r6 u5 u6 u7 u8;rw[List.take_length]at u6 u7;have t1:¬((l.length:Int)<(l.length:Int)):=by omega
    simp only[SX,r0,r6,eR qK,t1,decide_false,aA];exact⟨by simp,trivial,u1,u2,r0,ys,m,u3,u4,r5,u5,u6,u7⟩
   ·rintro⟨q,R,U⟩ ⟨rfl,u1,u2,r0,ys,m,u3,u4,r5,u5,u6,u7⟩;simp only at u1 u2 r0 u3 r5;have hs1:=λW'=>AS (b:=B) (l:=l.length) (k:=.i64) u5 W'
    have hs2:=λW'=>pQ (P:=Tryz.prog) (W:=W') ZM (by omega) (b:=B) (o:=0) (l:=l.length) (h:=m) (k:=.i64) u5
    obtain⟨rest,hc⟩:=TG (o:=m*2) (n:=l.length-m) (c:=bV+2) u3 (by rw[aQ nT,u4];omega);have e5:(ys.flatMap o6).take (m*2)=(l.filter (fC now)).flatMap o6:=by rw[OV nT ys (by omega),u7]
    rw[<-u6];rcases hc with hc|⟨h0,hc⟩
    ·simp only[SX,r0,r5,hs1,hs2,hc,aA];exact⟨trivial,rest,by rw[AW.put_next];exact u1,λb hb hne=>by rw[AW.get_put_ne _ _ (λx=>hne x.symm)];exact u2 b hb hne,by rw[AW.get_put,e5]⟩
    ·simp only[SX,r0,r5,hs1,hs2,hc,aA];refine⟨trivial,[],u1,u2,?_⟩;have em:m=ys.length:=by omega
     rw[em,List.take_length]at u7;rw[List.append_nil,<-u7];exact u3
 obtain⟨⟨r,V'⟩,h1,h2,rest,h3,h4,h5⟩:=main;simp only at h2 h3 h4 h5;subst h2;exact⟨V',rest,by rw[cG h1,cZ rfl],h3,h4,h5⟩
theorem D1(W:AW):aK (.func (.func 79) #[] #[]) [] W=some (.func (.func 144) #[] #[],W):=by
 have:pH aK W=some (.func (.func 144) #[] #[],W):=by unfold pH;simp only[SX]
 rw[zZ this,AD]
theorem Y0(fv:Value)(W:AW):aK (.func (.func 139) #[] #[]) [.slice none 0 0,fv] W=some (.slice none 0 0,W):=by
 have h0:HoL W (.slice none 0 0) []:=Row.nil;have hidx:=K7 (p:=λ_=>false) (fv:=fv) h0 (λx hx=>by simp at hx) (by simp);rw[BI (by simp)]at hidx;have d:decide ((-1:Int)= -1)=true:=rfl;have:aW aK (.slice none 0 0) fv W=some (.slice none 0 0,W):=by unfold aW;simp only[SX,hidx,d]
 rw[cG this,AD]
theorem JO(p:Option Addr)(c:Nat)(fv:Value)(W:AW):aK (.func (.func 78) #[] #[]) [.slice p 0 c,fv] W=some (.tuple #[],W):=sN (.inl ⟨p,c,fv,rfl,rfl⟩)
def NewL(lo:Nat)(W:AW)(u:Value)(l:List (Int×Int)):Prop:=∃a c,u=.slice a l.length c/\(l=[]\/∃B rest,a=some ⟨B,0,none⟩/\lo<=B/\B<W.next/\W.get B=some (.cells (l.flatMap o6++rest)))
section
variable {lo:Nat} {W W':AW} {u:Value} {l:List (Int×Int)}
theorem NewL.row(h:NewL lo W u l):HoL W u l:=by
 obtain⟨a,c,rfl,h⟩:=h;rcases h with rfl|⟨B,rest,rfl,h1,h2,h3⟩
 ·exact⟨a,c,rfl,.inl rfl⟩
 ·exact LN h3 h2
theorem NewL.nil(p:Option Addr)(c:Nat):NewL lo W (.slice p 0 c) []:=⟨p,c,rfl,.inl rfl⟩
theorem NewL.gr{K:Nat->Prop}(h:NewL lo W u l)(g:Gr W W' K)(hk:∀b,lo<=b->b<W.next->¬K b):NewL lo W' u l:=by
 obtain⟨a,c,rfl,h⟩:=h;rcases h with h|⟨B,rest,h0,h1,h2,h3⟩
 ·exact⟨a,c,rfl,.inl h⟩
 ·exact⟨a,c,rfl,.inr ⟨B,rest,h0,h1,Nat.lt_of_lt_of_le h2 g.next,(g.get _ h2 (hk _ h1 h2)).trans h3⟩⟩
theorem NewL.gc1(hl:Le W W')(h:NewL lo W' u l):∃W2,gc W (u,W')=(u,W2)/\Le W W2/\NewL lo W2 u l:=by
 cases hp:(aU u&& !WA u)
 ·exact⟨W',cZ hp,hl,h⟩
 ·refine⟨W,oW hp hl,.refl _,?_⟩;obtain⟨a,c,rfl,h⟩:=h;rcases h with h|⟨B,rest,rfl,-⟩
  ·exact⟨a,c,rfl,.inl h⟩
  ·exact absurd hp (by simp[aU,fP,bR])
theorem NewL.gc2{k:IntKind}{e:Int}(hl:Le W W')(h:NewL lo W' u l):∃W2,gc W (.tuple #[u,.int k e],W')=(.tuple #[u,.int k e],W2)/\Le W W2/\NewL lo W2 u l:=by
 cases hp:(aU (.tuple #[u,.int k e])&& !WA (.tuple #[u,.int k e]))
 ·exact⟨W',cZ hp,hl,h⟩
 ·refine⟨W,oW hp hl,.refl _,?_⟩;obtain⟨a,c,rfl,h⟩:=h;rcases h with h|⟨B,rest,rfl,-⟩
  ·exact⟨a,c,rfl,.inl h⟩
  ·exact absurd hp (by simp[aU,fP,bR])
theorem a0Z{o t:Option (Value×AW)}(h:Ok t λr=>Le W r.2/\NewL lo r.2 r.1 l)(hom:∀{r},t=some r->o=some (gc W r)):∃v W2,o=some (v,W2)/\Le W W2/\NewL lo W2 v l:=by obtain⟨⟨v,W'⟩,h1,h2,h3⟩:=h;obtain⟨W2,k1,k2,k3⟩:=NewL.gc1 h2 h3;exact⟨v,W2,by rw[hom h1,k1],k2,k3⟩
theorem O1{o t:Option (Value×AW)}{k:IntKind}{e:Int}(h:Ok t λr=>∃v,r.1=.tuple #[v,.int k e]/\Le W r.2/\NewL lo r.2 v l)(hom:∀{r},t=some r->o=some (gc W r)):∃v W2,o=some (.tuple #[v,.int k e],W2)/\Le W W2/\NewL lo W2 v l:=by obtain⟨⟨u,W'⟩,h1,v,h2,h3,h4⟩:=h;simp only at h2 h3 h4;subst h2;obtain⟨W2,k1,k2,k3⟩:=NewL.gc2 h3 h4;exact⟨v,W2,by rw[hom h1,k1],k2,k3⟩
end
def gO(h:List (Int×Int))(now:Int)(l:List (Int×Int)):Prop:=Asc l/\l.Perm (h.filter (fC now))
section
variable {K:Nat->Prop} {V:AW} {M k many:Nat} {v:Ven} {W0:AW} {N:Int} {l:List SeT}
theorem ZW{H B o:Nat}{In:Nat->Prop}{q:St}{es:List (Int×Int)}(hH:HT V In H many q)(hq:q.es.Perm es)(hn:es.length<=4096)(hB:B<V.next)(hl:aN (.pointer (some ⟨B,o,none⟩)) V=some (hP H,V))(hl2:∀W,Le V W->aN (.pointer (some ⟨B,o,none⟩)) W=some (hP H,W))(now:Int):
 ∃u V',∃l',aK (.func (.func 77) #[] #[]) [.pointer (some ⟨B,o,none⟩),.int .i64 now] V=some (u,V')/\Le V V'/\NewL V.next V' u l'/\gO es now l':=by
 have hqn:q.n=es.length:=by have:=hq.length_eq;rwa [CV]at this
 have main:∃l',Ok (kU aK (.pointer (some ⟨B,o,none⟩)) (.int .i64 now) V) (λr=>Le V r.2/\NewL V.next r.2 r.1 l')/\gO es now l':=by
  unfold kU;have l1:Le V (V.add (.cells [.int .i64 now])):=(Le.refl _).add _;have n1:(V.add (.cells [.int .i64 now])).next=V.next+1:=AW.add_next _ _;have g1:(V.add (.cells [.int .i64 now])).get V.next=some (.cells [.int .i64 now]):=AW.get_add _ _;simp only[SX,Nat.zero_add,Nat.add_zero,aF];generalize V.add (.cells [.int .i64 now])=V1 at *;have ld:=hl2 V1 l1;have h1:HT V1 In H many q:=hH.keep l1.next (λb hb _=>l1.get b hb) (λb _ hx=>hx);obtain⟨V2,u,l0,k1,k2,k3,k4,-⟩:=TF h1 (by omega);have l2:=l1.trans k2;have p0:l0.Perm es:=k4.trans hq;rcases k3 with⟨rfl,rfl⟩|⟨hne,C,c1,c2,rfl,c3⟩
  ·refine⟨[],?_,List.Pairwise.nil,?_⟩
   ·simp only[SX,ld,k1,Y0,D1,JO,aA];exact⟨l2,NewL.nil _ _⟩
   ·rw[<-List.Perm.nil_eq p0];exact .refl _
  ·have hX:V2.get V.next=some (.cells [.int .i64 now]):=by rw[k2.get _ (by omega)];exact g1
   obtain⟨V3,rest,d1,d2,d3,d4⟩:=a0G (now:=now) c3 c2 hX (by have:=k2.next;omega) (by omega) (by have:=p0.length_eq;omega);have l3:Le V V3:=⟨by have:=l2.next;omega,λb hb=>by rw[d3 b (by have:=l2.next;omega) (by omega)];exact l2.get b hb⟩;by_cases hf:l0.filter (fC now)=[]
   ·refine⟨[],?_,List.Pairwise.nil,?_⟩
    ·rw[hf]at d1;simp only[SX,ld,k1,d1,D1,List.length_nil,JO,aA];exact⟨l3,NewL.nil _ _⟩
    ·rw[<-hf];exact p0.filter _
   ·obtain⟨l',e1,e2,e3⟩:=SM (c:=bV+2) hf (by have:=List.length_filter_le (fC now) l0;have:=p0.length_eq;omega) d4;refine⟨l',?_,e2,e1.trans (p0.filter _)⟩;simp only[SX,ld,k1,d1,D1,e3,aA];refine⟨l3.put (by omega) _,?_⟩;rw[<-e1.length_eq];exact⟨_,_,rfl,.inr ⟨C,rest,rfl,by omega,by rw[AW.put_next];omega,AW.get_put _ _ _⟩⟩
 obtain⟨l',m1,m2⟩:=main;obtain⟨u,V',r1,r2,r3⟩:=a0Z m1 sX;exact⟨u,V',l',r1,r2,r3,m2⟩
theorem MapS.due(h:MapS K V M k many v W0 N l){i:Nat}(hi:i<k)(now:Int):∃B,(∀U,Le V U->aN (.pointer (some ⟨M,5,none⟩)) U=some (.slice (some ⟨B,0,none⟩) k k,U))/\∃u V',∃l',aK (.func (.func 77) #[] #[]) [.pointer (some ⟨B,i*2,none⟩),.int .i64 now] V=some (u,V')/\Le V V'/\NewL V.next V' u l'/\gO (bP l (j4 k i)) now l':=by obtain⟨d,rfl,rfl,rfl,-,-,-,hlen,-,p⟩:=h;have:=p.mn;exact⟨d.SB,λU hU=>(p.le hU).l5,ZW (p.ho i hi) (p.es i hi) (Nat.le_trans (oR _ _) (by omega)) p.sl (p.h0 hi) (λW hW=>(p.le hW).h0 hi) now⟩
theorem GU(h:MapS K V M k many v W0 N l)(i now:Int):∃u V',∃l',aK (.func (.func 19) #[] #[]) [mV M,.int .i64 i,.int .i64 now] V=some (.tuple #[u,.int .i64 (jX i k now)],V')/\Le V V'/\NewL V.next V' u l'/\(jX i k now≠0->l'=[])/\(jX i k now=0->gO (bP l (j4 k i.toNat)) now l'):=by
 have hse:=E5 h i now;have main:∃l',Ok (mY aK (mV M) (.int .i64 i) (.int .i64 now) V) (λr=>∃u,r.1=.tuple #[u,.int .i64 (jX i k now)]/\Le V r.2/\NewL V.next r.2 u l')/\(jX i k now≠0->l'=[])/\(jX i k now=0->gO (bP l (j4 k i.toNat)) now l'):=by
  unfold mY;by_cases c:jX i k now=0
  ·obtain⟨s,rfl,hs,-⟩:=SC c;obtain⟨B,b1,u,V',l',r1,r2,r3,r4⟩:=h.due hs now;refine⟨l',?_,λx=>absurd c x,λ_=>r4⟩;have d0:decide ((0:Int)=0)=true:=rfl;simp only[SX,hse,c,d0,aF,Nat.zero_add,Nat.add_zero,b1 V (Le.refl _),FW hs,r1,aA];exact⟨u,rfl,r2,r3⟩
  ·have d1:=decide_eq_false c;refine⟨[],?_,λ_=>rfl,λx=>absurd x c⟩;simp only[SX,hse,d1,aA];exact⟨_,rfl,Le.refl _,NewL.nil _ _⟩
 obtain⟨l',m1,m2,m3⟩:=main;obtain⟨u,V',r1,r2,r3⟩:=O1 m1 wW;exact⟨u,V',l',r1,r2,r3,m2,m3⟩
end
section
variable {α:Type} {z:Nat} {f:α->List Value} {at_:List Value->Nat->α->Prop} {W:AW} {v u:Value} {l m:List α}
end
section
variable {K:Nat->Prop} {V:AW} {M k many:Nat} {v:Ven} {W0:AW} {N:Int} {l:List SeT}
end
theorem XH{x:SeT}(now:Int)(h:o7 x=0):o7 (rJ x now)=0:=by
 unfold rJ;split
 ·rfl
 ·exact h
def A7(now:Int)(l:List SeT)(h:Int×Int):List SeT:=l.set h.1.toNat (rJ (j0 l h.1.toNat) now)
def dW(l:List SeT)(now:Int)(d:List (Int×Int)):List SeT:=d.foldl (A7 now) l
theorem fJ(now:Int):∀(d:List (Int×Int)) (l:List SeT),(dW l now d).length=l.length
 |[],l=>rfl
 |h::d,l=>by show(dW (A7 now l h) now d).length=l.length;rw[fJ now d];unfold A7;rw[List.length_set]
theorem EF(l:List SeT)(now:Int)(d:List (Int×Int))(h:Int×Int):dW l now (d++[h])=A7 now (dW l now d) h:=by unfold dW;rw[List.foldl_append];rfl
theorem SQ{l:List SeT}{p:Nat->Bool}{now:Int}{d:List (Int×Int)}(hd:gO (bP l p) now d){h:Int×Int}(hh:h∈d):∃s:Nat,h.1=(s:Int)/\s<l.length:=by have:=(List.mem_filter.1 (hd.2.mem_iff.1 hh)).1;obtain⟨j,h1,-,-,rfl⟩:=qY.1 this;exact⟨j,rfl,h1⟩
theorem a0Q(W:AW)(x:SeT):∃W1 W2,bF Tryz.prog 38 W=some (.pointer (some ⟨W.next,0,none⟩),W1)/\eY 5 (.pointer (some ⟨W.next,0,none⟩)) (mH x) W1=some (undef,W2)/\Le W W2/\W2.next=W.next+1/\W2.get W.next=some (.cells (dU x)):=
 ⟨_,_,a12 W,a05 (AW.get_add _ _),((Le.refl _).add _).put (Nat.le_refl _) _,rfl,AW.get_put _ _ _⟩
section
variable {K:Nat->Prop} {V:AW} {M k many:Nat} {v:Ven} {W0:AW} {N:Int} {l:List SeT}
theorem MF(h:MapS K V M k many v W0 N l)(i now:Int)(hN:N<100000000000000):∃u V',∃l',aK (.func (.func 21) #[] #[]) [mV M,.int .i64 i,.int .i64 now] V=some (.tuple #[u,.int .i64 (jX i k now)],V')/\Gr V V' K/\HoL V' u l'/\(jX i k now≠0->l'=[])/\(jX i k now=0->gO (bP l (j4 k i.toNat)) now l')/\MapS K V' M k many v W0 (N+5000) (dW l now l'):=by
 obtain⟨u,V1,l',e1,e2,e3,e4,e5⟩:=GU h i now;have hmn:=h.mn;have hlen:=h.len;have hl':l'.length<=4096:=by
  by_cases c:jX i k now=0
  ·have h1:=(e5 c).2.length_eq;have h2:=List.length_filter_le (fC now) (bP l (j4 k i.toNat));have h3:=oR l (j4 k i.toNat);omega
  ·rw[e4 c];simp
 by_cases c:jX i k now=0;case neg=>
  have d1:=decide_eq_false c;have main:Ok (eD aK (mV M) (.int .i64 i) (.int .i64 now) V) (λr=>∃u,r.1=.tuple #[u,.int .i64 (jX i k now)]/\Le V r.2/\NewL V.next r.2 u []):=by unfold eD;simp only[SX,e1,d1,aA];exact⟨_,rfl,e2,NewL.nil _ _⟩
  obtain⟨u',V',r1,r2,r3⟩:=O1 main gH;exact⟨u',V',[],r1,Le.gr r2 K,r3.row,λ_=>rfl,λx=>absurd x c,(h.le r2).grow (by omega)⟩
 have main:Ok (eD aK (mV M) (.int .i64 i) (.int .i64 now) V) (λr=>r.1=.tuple #[u,.int .i64 (jX i k now)]/\Gr V r.2 K/\HoL r.2 u l'/\MapS K r.2 M k many v W0 (N+5000) (dW l now l')):=by
  unfold eD;have d0:decide ((0:Int)=0)=true:=rfl;have hd:=e5 c;rw[c]at e1|-;have hsh:=h.shift e2;obtain⟨K1,hK1⟩:∃K1:Nat->Prop,K1=λb=>K b/\b<V.next\/V1.next<=b:=⟨_,rfl⟩
  rw[<-hK1]at hsh;have hK:∀b,K1 b->K b:=λb hb=>by
   rw[hK1]at hb;rcases hb with hb|hb
   ·exact hb.1
   ·exact h.up (by have:=e2.next;omega)
  have hKn:∀b,V.next<=b->b<V1.next->¬K1 b:=λb h1 h2 hb=>by rw[hK1]at hb;rcases hb with hb|hb<;>omega
  have hlu:=λW'=>e3.row.len qK W' 3 #[false]
  simp only[SX,e1,d0,hlu];refine bI l'.length (by omega) (λj R U=>R 0=mV M/\R 2=.int .i64 now/\R 8=u/\R 24=u/\R 25=.int .i64 (l'.length:Int)/\R 26=.int .i64 (j:Int)/\Gr V1 U K1/\MapS K1 U M k many v W0 (N+(j:Int)) (dW l now (l'.take j)))
   (λr=>r.1=.exit 0/\r.2.1 8=u/\Gr V1 r.2.2 K1/\MapS K1 r.2.2 M k many v W0 (N+(l'.length:Int)) (dW l now l')) ⟨rfl,rfl,rfl,rfl,rfl,rfl,Gr.refl _ _,by rw[List.take_zero];exact hsh.grow (by omega)⟩ ?_ ?_ ?_
  ·rintro j R U hj ⟨r0,r2,r8,r24,r25,r26,u1,u2⟩;unfold gG;have t1:((j:Int)<(l'.length:Int)):=by omega
   have t2:=λW'=>aX (P:=Tryz.prog) (W:=W') (t:=3) (c:=false) (d:=true) (a:=(j:Int)) (b:=1) (by omega) (by omega)
   have e6:((j+1:Nat):Int)=(j:Int)+1:=by omega
   obtain⟨b,o,i1,i2,i3⟩:=HoL.get (NewL.row (NewL.gr e3 u1 hKn)) hj;obtain⟨s,s1,s2⟩:=SQ hd (List.getElem_mem hj);obtain⟨U1,U2,a1,a2,a3,a4,a5⟩:=a0A U l'[j];have ld0:=gY (o:=0) (bW a5) rfl;have hs:(dW l now (l'.take j))[s]? =some (j0 (dW l now (l'.take j)) s):=jF (by rw[fJ];exact s2);generalize hx:j0 (dW l now (l'.take j)) s=x at *;have m2:=u2.le a3;obtain⟨b2,o2,b3,b4,-⟩:=sAt m2 hs;have hxe:o7 x=0:=u2.ok (List.mem_of_getElem? hs);obtain⟨U3,U4,c1,c2,c3,c4,c5⟩:=a0Q U2 (rJ x now);have ld1:aN (.pointer (some ⟨U.next,0,none⟩)) U4=some (.int .i64 l'[j].1,U4):=gY (o:=0) (bW ((c3.get _ (by omega)).trans a5)) rfl;have ld2:=cI c5;obtain⟨U5,f1,f2,f3⟩:=XV (m2.le c3) hs (XH now hxe) (by omega);rw[s1]at ld0 ld1;simp only[SX,r0,r2,r24,r25,r26,t1,decide_true,i1,(i3 U rfl).1,a1,a2,Nat.zero_add,ld0,b3,aF,b4,IL,c1,c2,ld1,ld2,f1,t2,aA];refine .inl ⟨trivial,r0,r2,r8,r24,r25,by rw[e6];rfl,u1.trans ((Le.gr (a3.trans c3) K1).trans f3),?_⟩;rw[List.take_succ_eq_append_getElem hj,EF];unfold A7;rw[s1,Int.toNat_natCast,hx];rw[e6,<-Int.add_assoc];exact f2
  ·rintro R U ⟨r0,r2,r8,r24,r25,r26,u1,u2⟩;unfold gG;have t1:¬((l'.length:Int)<(l'.length:Int)):=by omega
   rw[List.take_length]at u2;simp only[SX,r25,r26,t1,decide_false,aA];exact⟨by simp,trivial,r8,u1,u2⟩
  ·rintro⟨q,R,U⟩ ⟨rfl,r8,u1,u2⟩;simp only at r8 u1 u2;simp only[SX,r8,aA];exact⟨trivial,(Le.gr e2 K).trans (u1.mono hK),(NewL.gr e3 u1 hKn).row,(u2.weak hK λb hb=>h.wk hb).grow (by omega)⟩
 obtain⟨⟨r,V'⟩,h1,h2,h3,h4,h5⟩:=main;simp only at h2 h3 h4 h5;subst h2;rcases X9 (W:=V) (W':=V') (.tuple #[u,.int .i64 (jX i k now)])with hg|⟨hg,hle,hp⟩
 ·exact⟨u,V',l',by rw[gH h1,hg],h3,h4,e4,e5,h5⟩
 ·have hl0:l'=[]:=by
   obtain⟨a,c',rfl,hr⟩:=e3;rcases hr with hr|⟨B,rest,rfl,-⟩
   ·exact hr
   ·exact absurd hp (by simp[aU,fP,bR])
  subst hl0;have hu:HoL V u []:=by obtain⟨a,c',rfl,hr⟩:=e3;exact⟨a,c',rfl,.inl rfl⟩
  exact⟨u,V,[],by rw[gH h1,hg],Gr.refl _ _,hu,e4,e5,h.grow (by omega)⟩
end
theorem a2V:lF Tryz.prog #[69,69] 1 8=true:=by kernel_rfl
def a2T(l:List SeT)(F C:Nat):List Int:=((List.range C).filter λj=>decide ((j0 l (F+j)).st=0)).map λj=>((F+j:Nat):Int)
def a3w(l:List SeT)(F C:Nat)(t:Int):Nat:=((List.range C).filter λj=>decide ((j0 l (F+j)).st=t)).length
section
variable {K:Nat->Prop} {V:AW} {M k many:Nat} {v:Ven} {W0:AW} {N:Int} {l:List SeT}
def a4D(v:Ven)(l:List SeT)(sec:Int):List Int:=if(ofE v sec).2.2=0 then a2T l (ofE v sec).1.toNat (ofE v sec).2.1.toNat else []
def a4G(v:Ven)(l:List SeT)(sec t:Int):Int:=if(ofE v sec).2.2=0 then(a3w l (ofE v sec).1.toNat (ofE v sec).2.1.toNat t:Int)else 0
end
theorem Y2{W:AW}{va vb:Value}{l m:List SeT}(ha:SeL W va l)(hb:SeL W vb m)(hl:l.length<=10000):aK (.func (.func 25) #[] #[]) [va,vb] W=some (.bool (decide (l=m)),W):=by
 refine aM rfl ?_ tR;unfold qJ;simp only[SX,ha.len nE,hb.len nE];by_cases hlm:l.length=m.length;case neg=>
  have e1:¬((l.length:Int)=(m.length:Int)):=by omega
  have e2:¬l=m:=λh=>hlm (by rw[h])
  simp only[SX,e1,e2,decide_false,aA];exact⟨trivial,.refl _⟩
 have e1:((l.length:Int)=(m.length:Int)):=by omega
 simp only[SX,e1];refine bI l.length (by omega) (λk R W'=>W'=W/\R 0=va/\R 1=vb/\R 5=.int .i64 (k:Int)/\l.take k=m.take k)
  (λr=>(r.1=.exit 0/\r.2.2=W/\l=m)\/(r.1=.ret/\r.2.2=W/\r.2.1 4=.bool false/\¬l=m)) ⟨rfl,rfl,rfl,rfl,by simp⟩ ?_ ?_ ?_
 ·rintro k R W' hk ⟨rfl,r0,r1,r5,hE⟩;unfold iJ;obtain⟨b,o,-,i1,i3,-⟩:=SeL.get ha (List.getElem?_eq_getElem hk);obtain⟨b',o',-,j1,j3,-⟩:=SeL.get hb (List.getElem?_eq_getElem (show k<m.length by omega));have t1:((k:Int)<(l.length:Int)):=by omega
  have t2:=λW'=>aX (P:=Tryz.prog) (W:=W') (t:=3) (c:=false) (d:=true) (a:=(k:Int)) (b:=1) (by omega) (by omega)
  simp only[SX,r0,r1,r5,ha.len nE,t1,i1,i3 _ (Le.refl _),j1,j3 _ (Le.refl _),a2v];by_cases h:l[k]=m[k]
  ·have dh:=decide_eq_true h;simp only[SX,dh,t2,aA];refine .inl ⟨trivial,trivial,r0,r1,by rw[show((k+1:Nat):Int)=(k:Int)+1 by omega];rfl,?_⟩;rw[List.take_succ_eq_append_getElem hk,List.take_succ_eq_append_getElem (show k<m.length by omega),hE,h]
  ·have dh:=decide_eq_false h;simp only[SX,dh,aA];exact .inr ⟨by simp,.inr ⟨trivial,trivial,rfl,λe=>h (by subst e;rfl)⟩⟩
 ·rintro R W' ⟨rfl,r0,r1,r5,hE⟩;unfold iJ;have t1:¬((l.length:Int)<(l.length:Int)):=by omega
  simp only[SX,r0,r1,r5,ha.len nE,t1,aA];refine⟨by simp,.inl ⟨trivial,trivial,?_⟩⟩;rwa [List.take_length,hlm,List.take_length]at hE
 ·rintro⟨x,R,W'⟩ hq;simp only at hq;rcases hq with⟨rfl,rfl,hq⟩|⟨rfl,rfl,r4,hq⟩
  ·have dh:=decide_eq_true hq;simp only[SX,dh,aA];exact⟨trivial,.refl _⟩
  ·have dh:=decide_eq_false hq;simp only[SX,r4,dh,aA];exact⟨trivial,.refl _⟩
abbrev a3C(v:Ven)(sv rv:Value):Value:=.agg #[.int .i64 v.sh,.int .i64 v.ttl,.int .i64 v.ses,sv,rv]
abbrev YD(v:Ven)(sv rv:Value):List Value:=[.int .i64 v.sh,.int .i64 v.ttl,.int .i64 v.ses,sv,rv]
def Sl(v:Value):Prop:=Eng.one v=true/\KR v v=true
structure RefA (W:AW) (v:Ven) (sv rv:Value) (l:List SeT):Prop where
 s1:Sl sv
 r1:Sl rv
 row:SeL W rv l
 secs:Secs W sv v.secs
 sh:1<=v.sh/\v.sh<=16
 lb:l.length<=4096
theorem RefA.mono{W W':AW}{v:Ven}{sv rv:Value}{l:List SeT}(h:RefA W v sv rv l)(hl:Le W W'):RefA W' v sv rv l:={h with row:=h.row.mono hl,secs:=h.secs.mono hl}
theorem RefA.with{W W':AW}{v:Ven}{sv rv rv':Value}{l l':List SeT}(h:RefA W v sv rv l)(hl:Le W W')(h1:Sl rv')(h2:SeL W' rv' l')(h3:l'.length<=4096):RefA W' v sv rv' l':=⟨h.s1,h1,h2,h.secs.mono hl,h.sh,h3⟩
section
variable {W:AW} {v:Ven} {sv rv:Value} {l:List SeT}
end
section
variable {α:Type} {z:Nat} {f:α->List Value} {at_:List Value->Nat->α->Prop} {W:AW} {v u:Value} {l m:List α}
def LB(lo:Nat)(W:AW)(z:Nat)(f:α->List Value)(v:Value)(l:List α):Prop:=Lst lo W z f v l\/(l=[]/\∃B,B<W.next/\v=.slice (some ⟨B,0,none⟩) 0 0)
theorem LB.mono{lo:Nat}{W':AW}(h:LB lo W z f v l)(hl:Le W W'):LB lo W' z f v l:=by
 rcases h with h|⟨h0,B,h1,h2⟩
 ·exact .inl (h.mono hl)
 ·exact .inr ⟨h0,B,Nat.lt_of_lt_of_le h1 hl.next,h2⟩
end
theorem Lst.from{lo:Nat}{W:AW}{v:Value}{l:List (Int×Int)}(h:Lst lo W 2 o6 v l){n:Nat}(hn:n<=l.length)(k:IntKind):∃u,(∀W',bG Tryz.prog 32 v (some (.int k (n:Int))) none none W'=some (u,W'))/\HoL W u (l.drop n):=by
 rcases h with⟨rfl,rfl⟩|⟨h0,B,h1,h2,rfl,h3⟩
 ·obtain rfl:n=0:=by simpa using hn
  obtain⟨e,he,hz⟩:=eF ZM;exact⟨.slice none 0 0,λW'=>by unfold bG eQ;simp[he,hz,cC,fB],Row.nil⟩
 ·refine⟨_,λW'=>AS hn W',?_⟩;refine⟨_,_,by rw[List.length_drop],?_⟩;by_cases he:l.drop n=[]
  ·exact .inl he
  ·refine .inr ⟨B,n*2,_,rfl,h2,b9 h3,λi hi=>?_⟩;rw[List.length_drop]at hi;obtain⟨e1,e2⟩:=dC nT (List.getElem?_eq_getElem (show n+i<l.length by omega));rw[e1,show n*2+i*2=(n+i)*2 by omega,<-e2,List.getElem_drop];exact KX _ _ _
section
variable {W:AW} {v:Ven} {sv rv:Value} {l:List SeT} {k:Nat}
end
def a4v(k:Nat)(i:Int)(j:Nat):Bool:= !decide (0<=i)||decide (((j % k:Nat):Int)=i)
theorem LB.row{lo:Nat}{W:AW}{v:Value}{l:List (Int×Int)}(h:LB lo W 2 o6 v l):HoL W v l:=by
 rcases h with h|⟨rfl,B,h1,rfl⟩
 ·exact h.row nT KX
 ·exact⟨_,0,rfl,.inl rfl⟩
theorem Lst.low{α:Type}{lo lo' z:Nat}{W:AW}{f:α->List Value}{v:Value}{l:List α}(h:Lst lo W z f v l)(hl:lo'<=lo):Lst lo' W z f v l:=by
 rcases h with h|⟨h0,B,h1,h2⟩
 ·exact .inl h
 ·exact .inr ⟨h0,B,Nat.le_trans hl h1,h2⟩
theorem Lst.new{lo:Nat}{W:AW}{v:Value}{l:List (Int×Int)}(h:Lst lo W 2 o6 v l):NewL lo W v l:=by
 rcases h with⟨rfl,rfl⟩|⟨h0,B,h1,h2,rfl,h3⟩
 ·exact NewL.nil _ _
 ·exact⟨_,_,rfl,.inr ⟨B,[],rfl,h1,h2,by rw[List.append_nil];exact h3⟩⟩
theorem NewL.low{lo lo':Nat}{W:AW}{u:Value}{l:List (Int×Int)}(h:NewL lo W u l)(hl:lo'<=lo):NewL lo' W u l:=by
 obtain⟨a,c,rfl,hr⟩:=h;rcases hr with hr|⟨B,rest,h0,h1,h2,h3⟩
 ·exact⟨a,c,rfl,.inl hr⟩
 ·exact⟨a,c,rfl,.inr ⟨B,rest,h0,Nat.le_trans hl h1,h2,h3⟩⟩
section
variable {W:AW} {v:Ven} {sv rv:Value} {l:List SeT} {k:Nat}
end
theorem QV{h a b:List (Int×Int)}{now:Int}(ha:gO h now a)(hb:gO h now b):a=b:=TD (ha.2.trans hb.2.symm) ha.1 hb.1
def WW(l:List SeT):Prop:=∀x,x∈l->x.dl<=9223372036854775807
section
variable {W:AW} {v:Ven} {sv rv:Value} {l:List SeT} {k:Nat}
end
def BlS(lo:Nat)(W:AW)(u:Value)(l:List SeT):Prop:=∃B c,lo<=B/\B<W.next/\u=.slice (some ⟨B,0,none⟩) l.length c/\(l≠[]->W.get B=some (.cells (l.flatMap dU)))
theorem BlS.row{lo:Nat}{W:AW}{u:Value}{l:List SeT}(h:BlS lo W u l):SeL W u l:=OwnL.row (lo:=lo) dV h FZ
theorem BlS.sl{lo:Nat}{W:AW}{u:Value}{l:List SeT}(h:BlS lo W u l):Sl u:=by obtain⟨B,c,h0,h1,rfl,h2⟩:=h;exact⟨rfl,sR _ _ _ _⟩
theorem BlS.keep{lo:Nat}{W W':AW}{u:Value}{l:List SeT}(h:BlS lo W u l)(hn:W.next<=W'.next)(hg:∀b,lo<=b->b<W.next->W'.get b=W.get b):BlS lo W' u l:=by obtain⟨B,c,h0,h1,rfl,h2⟩:=h;exact⟨B,c,h0,by omega,rfl,λhl=>(hg B h0 h1).trans (h2 hl)⟩
theorem BlS.put{lo:Nat}{W:AW}{u:Value}{l:List SeT}(h:BlS lo W u l){s:Nat}{x:SeT}(hs:l[s]? =some x):∃b o,lo<=b/\b<W.next/\(∀U q,eZ 5 u (.int q (s:Int)) U=some (.pointer (some ⟨b,o,none⟩),U))/\(∀U,U.get b=W.get b->dS 5 (.pointer (some ⟨b,o,none⟩)) U=some (mH x,U))/\
 ∀y U,U.get b=W.get b->W.next<=U.next->eY 5 (.pointer (some ⟨b,o,none⟩)) (mH y) U=some (undef,U.put b (.cells ((l.set s y).flatMap dU)))/\BlS lo (U.put b (.cells ((l.set s y).flatMap dU))) u (l.set s y):=by
 obtain⟨B,c,h0,h1,rfl,h2⟩:=h;obtain⟨hi,-⟩:=List.getElem?_eq_some_iff.1 hs;have hne:l≠[]:=λe=>by rw[e]at hi;simp at hi
 have hg:=h2 hne;refine⟨B,s*5,h0,h1,λU q=>?_,λU hU=>?_,λy U hU hn=>⟨?_,B,c,h0,by rw[AW.put_next];omega,by rw[List.length_set],λ_=>AW.get_put _ _ _⟩⟩
 ·have:=jE (W:=U) (z:=5) (b:=B) (o:=0) (l:=l.length) (c:=c) (i:=s) (k:=q) hi;rwa [Nat.zero_add]at this
 ·rw[rY,b9 (hU.trans hg)];simp only[Option.bind_some,EA dV hs,dV,if_true]
 ·have hst:=xZ (n:=5) (b:=B) (o:=s*5) (v:=mH y) (hU.trans hg) rfl (by show s*5+5<=_;rw[aQ dV];omega) rfl;have e5:fH (l.flatMap dU) (s*5) (mH y).cells.toList=(l.set s y).flatMap dU:=vD dV hs y;rw[hst,e5]
section
variable {W:AW} {v:Ven} {sv rv:Value} {l:List SeT} {k:Nat}
end
section
variable {W:AW} {v:Ven} {sv rv:Value} {l:List SeT} {k:Nat}
end
def LU(l:List SeT):Bool:=l.any λx=> !decide (o7 x=0)
theorem X6{l:List SeT}(h:LU l=false){x:SeT}(hx:x∈l):o7 x=0:=by unfold LU at h;rw[List.any_eq_false]at h;have:=h x hx;simpa using this
def n9(v:Ven)(l:List SeT):Int:=if(hY v).2≠0 then(hY v).2 else if(l.length:Int)≠(hY v).1 then 6 else if LU l=true then 6 else 0
theorem JB{v:Ven}{l:List SeT}(h:n9 v l=0):(pD v).2=0/\(l.length:Int)=c9 v.secs/\(∀x,x∈l->o7 x=0)/\l.length<=4096/\1<=v.sh/\v.sh<=16:=by
 unfold n9 at h;split at h
 ·exact absurd h (by assumption)
 ·rename_i h1;split at h
  ·omega
  ·rename_i h2;split at h
   ·omega
   ·rename_i h3;have hv:(pD v).2=0:=by apply Classical.byContradiction;intro c;apply h1;unfold hY;rw[if_neg c];exact c
    have e1:(hY v).1=c9 v.secs:=by unfold hY;rw[if_pos hv]
    obtain⟨-,g2,-,-,g5,-⟩:=sO hv;rw[e1]at h2;have h4:=Classical.not_not.1 h2;refine⟨hv,h4,λx hx=>X6 (by simpa using h3) hx,by omega,?_⟩;unfold AA at g2;simp only[Bool.or_eq_false_iff]at g2;have:=g2.1.1;unfold nD at this;simp at this;omega
theorem UH{W:AW}{v fv:Value}{l:List SeT}{p:SeT->Bool}(h:SeL W v l)(hp:∀x,x∈l->aK fv [mH x] W=some (.bool (p x),W))(hl:l.length<=10000):aK (.func (.func 131) #[] #[]) [v,fv] W=some (.int .i64 (kP p l),W):=by
 refine aM rfl ?_ fU;unfold dE;simp only[SX,h.len nE];refine bI l.length (by omega) (λi R V=>V=W/\R 0=v/\R 1=fv/\R 7=.int .i64 (l.length:Int)/\R 8=.int .i64 (i:Int)/\∀j (hj:j<i) (hj2:j<l.length),p l[j]=false)
  (λr=>r.2.2=W/\((r.1=.exit 0/\kP p l= -1)\/(r.1=.ret/\r.2.1 4=.int .i64 (kP p l)))) ⟨rfl,rfl,rfl,rfl,rfl,λj hj=>by omega⟩ ?_ ?_ ?_
 ·rintro i R V hi ⟨rfl,r0,r1,r7,r8,ha⟩;unfold bO;have t1:((i:Int)<(l.length:Int)):=by omega
  have t2:=λW'=>aX (P:=Tryz.prog) (W:=W') (t:=3) (c:=false) (d:=true) (a:=(i:Int)) (b:=1) (by omega) (by omega)
  have e3:((i+1:Nat):Int)=(i:Int)+1:=by omega
  obtain⟨b,o,-,i1,i3,-⟩:=SeL.get h (List.getElem?_eq_getElem hi);cases hc:p l[i]with
  |true=>simp only[SX,r0,r1,r7,r8,t1,decide_true,i1,i3 _ (Le.refl _),hp _ (List.getElem_mem hi),hc,aA];exact .inr ⟨by simp,trivial,.inr ⟨trivial,by rw[JX hi hc λj hj=>ha j hj (by omega)];rfl⟩⟩
  |false=>
   simp only[SX,r0,r1,r7,r8,t1,decide_true,i1,i3 _ (Le.refl _),hp _ (List.getElem_mem hi),hc,t2,aA];refine .inl ⟨trivial,trivial,r0,r1,r7,by rw[e3];rfl,λj hj hj2=>?_⟩;by_cases c:j=i
   ·subst c;exact hc
   ·exact ha j (by omega) hj2
 ·rintro R V ⟨rfl,r0,r1,r7,r8,ha⟩;unfold bO;have t1:¬((l.length:Int)<(l.length:Int)):=by omega
  simp only[SX,r7,r8,t1,decide_false,aA];refine⟨by simp,trivial,.inl ⟨trivial,BI λx hx=>?_⟩⟩;obtain⟨j,hj,rfl⟩:=List.mem_iff_getElem.1 hx;exact ha j hj hj
 ·rintro⟨q,R,V⟩ ⟨rfl,hq⟩;simp only at hq;rcases hq with⟨rfl,e⟩|⟨rfl,r4⟩
  ·simp only[SX,aA];exact⟨by rw[e],Le.refl _⟩
  ·simp only[SX,r4,aA];exact⟨trivial,Le.refl _⟩
theorem TN(x:SeT)(W:AW):aK (.func (.func 69) #[] #[]) [mH x] W=some (.bool (!decide (o7 x=0)),W):=by refine aM rfl ?_ yB;unfold tB;have hg:(W.add (.cells (dU x))).get W.next=some (.cells (dU x)):=AW.get_add _ _;have hle:Le W (W.add (.cells (dU x))):=(Le.refl _).add _;simp only[SX,CM,Nat.zero_add];generalize W.add (.cells (dU x))=W1 at *;simp only[SX,cI hg,iQ,aA];exact⟨trivial,hle⟩
theorem KL{W:AW}{v:Value}{l:List SeT}(h:SeL W v l)(hl:l.length<=10000):aK (.func (.func 68) #[] #[]) [v,.func (.func 69) #[] #[]] W=some (.bool (LU l),W):=by
 refine aM rfl ?_ fE;unfold cV;have hi:=UH (p:=λx=> !decide (o7 x=0)) h (λx _=>TN x W) hl;simp only[SX,hi,aA];refine⟨?_,Le.refl _⟩;congr 1;unfold LU;rcases EK (λx:SeT=> !decide (o7 x=0)) l with⟨h1,h2⟩|⟨i,hi,h2,h3,-⟩
 ·rw[h2,List.any_eq_false.2 λx hx=>by rw[h1 x hx];decide];decide
 ·rw[h2,List.any_eq_true.2 ⟨_,List.getElem_mem hi,h3⟩];exact decide_eq_true (by omega)
section
variable {W:AW} {v:Ven} {sv rv:Value} {l:List SeT}
theorem G0(v:Ven)(sv:Value)(W:AW):∃W1,cO (qO v sv) W=some (.pointer (some ⟨W.next,0,none⟩),W1)/\Le W W1/\W1.next=W.next+1/\W1.get W.next=some (.cells [.int .i64 v.sh,.int .i64 v.ttl,.int .i64 v.ses,sv]):=⟨_,dN _,(Le.refl _).add _,AW.add_next _ _,AW.get_add _ _⟩
theorem vO{v:Ven}{sv:Value}{W:AW}{b:Nat}(h:W.get b=some (.cells [.int .i64 v.sh,.int .i64 v.ttl,.int .i64 v.ses,sv])):dS 4 (.pointer (some ⟨b,0,none⟩)) W=some (qO v sv,W):=sF (b9 h) rfl
abbrev a3U:Value:=a3C ⟨0,0,0,[]⟩ (.slice none 0 0) (.slice none 0 0)
end
theorem u69:Tryz.prog.underlying 69=some (.slice 3):=by kernel_rfl
theorem a3m(c d:Bool)(l k:Nat)(W:AW):aG Tryz.prog .eql 69 c d (.slice none l k) (.slice none 0 0) W=some (.bool true,W):=by unfold aG iY gL;simp only[u69];rfl
theorem a3z(c d:Bool)(a:Addr)(l k:Nat)(W:AW):aG Tryz.prog .eql 69 c d (.slice (some a) l k) (.slice none 0 0) W=some (.bool false,W):=by unfold aG iY gL;simp only[u69]
theorem a1E(W:AW):aR Tryz.prog 69 0 [] W=some (.slice (some ⟨W.next,0,none⟩) 0 0,W.add (.cells [])):=Eq.trans (by kernel_rfl) rfl
theorem a3k{cs:List Value}{p:Nat}{x:Int}(h:yW .i64 cs p x):(cs.drop p).take 1=DU x:=by obtain⟨i0,e0⟩:=List.getElem?_eq_some_iff.1 h;rw[List.drop_eq_getElem_cons i0,e0];rfl
def FI(lo:Nat)(W:AW)(u:Value)(l:List Int):Prop:=∃a c,u=.slice a l.length c/\(l=[]\/∃B,a=some ⟨B,0,none⟩/\lo<=B/\B<W.next/\W.get B=some (.cells (l.flatMap DU)))
theorem FI.ints{lo:Nat}{W:AW}{u:Value}{l:List Int}(h:FI lo W u l):Ints W u l:=by
 obtain⟨a,c,rfl,hr⟩:=h;rcases hr with hr|⟨B,rfl,h1,h2,h3⟩
 ·exact⟨a,c,rfl,.inl hr⟩
 ·exact OwnL.row (lo:=0) CW ⟨B,c,Nat.zero_le _,h2,rfl,λ_=>h3⟩ O9
theorem FI.keep{lo:Nat}{W W':AW}{u:Value}{l:List Int}(h:FI lo W u l)(hn:W.next<=W'.next)(hg:∀b,lo<=b->b<W.next->W'.get b=W.get b):FI lo W' u l:=by
 obtain⟨a,c,rfl,hr⟩:=h;rcases hr with hr|⟨B,e,h1,h2,h3⟩
 ·exact⟨a,c,rfl,.inl hr⟩
 ·exact⟨a,c,rfl,.inr ⟨B,e,h1,by omega,(hg B h1 h2).trans h3⟩⟩
theorem FI.one{lo:Nat}{W:AW}{u:Value}{l:List Int}(h:FI lo W u l):u.cells=#[u]/\Eng.one u=true:=by obtain⟨a,c,rfl,-⟩:=h;exact⟨rfl,rfl⟩
theorem Z1{o t:Option (Value×AW)}{W:AW}{lo:Nat}{l:List Int}(h:Ok t λr=>Le W r.2/\FI lo r.2 r.1 l)(hom:∀{r},t=some r->o=some (gc W r)):∃v W2,o=some (v,W2)/\Le W W2/\FI lo W2 v l:=by
 obtain⟨⟨v,W'⟩,h1,h2,h3⟩:=h;cases hp:(aU v&& !WA v)
 ·exact⟨v,W',by rw[hom h1,cZ hp],h2,h3⟩
 ·refine⟨v,W,by rw[hom h1,oW hp h2],.refl _,?_⟩;obtain⟨a,c,rfl,hr⟩:=h3;rcases hr with hr|⟨B,rfl,-⟩
  ·exact⟨a,c,rfl,.inl hr⟩
  ·exact absurd hp (by simp[aU,fP,bR])
theorem I2{W:AW}{v:Value}{l:List Int}(h:Ints W v l)(hn:l.length<=10000):∃u W',aK (.func (.func 72) #[] #[]) [v] W=some (u,W')/\Le W W'/\FI W.next W' u l:=by
 have hh:=h;obtain⟨a,c,rfl,h⟩:=h;cases a with
 |none=>
  have main:Ok (dM aK (.slice none l.length c) W) λr=>Le W r.2/\FI W.next r.2 r.1 l:=by
   unfold dM;simp only[SX,a3m,aA];rcases h with h|⟨b,o,cs,h1,-⟩
   ·exact⟨Le.refl _,none,0,by rw[h];rfl,.inl h⟩
   ·cases h1
  exact Z1 main k8
 |some a=>
  have main:Ok (dM aK (.slice (some a) l.length c) W) λr=>Le W r.2/\FI W.next r.2 r.1 l:=by
   unfold dM;have l1:Le W (W.add (.cells [])):=(Le.refl _).add _;have n1:(W.add (.cells [])).next=W.next+1:=AW.add_next _ _;simp only[SX,a3z,a1E];generalize W.add (.cells [])=W1 at *;obtain⟨u,W',k1,k2,B,c',k3,k4,rfl,k5⟩:=IS a2V CW UW (hh.mono l1) (λ_ _ _=>a3k) (by omega) (by omega) (b:=W.next) (by omega);simp only[SX,k1,aA];refine⟨l1.trans k2,_,_,rfl,?_⟩;by_cases he:l=[]
   ·exact .inl he
   ·exact .inr ⟨B,rfl,k3,k4,k5 he⟩
  exact Z1 main k8
def t6(l:List Sec)(i:Nat):Sec:=l.getD i ⟨[],[],0⟩
theorem w7{l:List Sec}{i:Nat}(h:i<l.length):t6 l i=l[i]:=by unfold t6;rw[List.getD_eq_getElem?_getD,List.getElem?_eq_getElem h];rfl
def nY(l:List Sec)(g:Nat->Value)(i:Nat):List Value:=[.string (aJ (t6 l i).name),g i,.int .i64 (t6 l i).q]
theorem jB(l:List Sec)(g:Nat->Value)(i:Nat):(nY l g i).length=3:=rfl
def a01(l:List Sec)(g:Nat->Value)(cs:List Value)(p i:Nat):Prop:=(cs.drop p).take 3=nY l g i
theorem OO{W:AW}{sv:Value}{l:List Sec}(h:Secs W sv l):∃g:Nat->Value,(∀i,Eng.one (g i)=true)/\(∀i,i<l.length->Ints W (g i) (t6 l i).rows)/\Row W 3 (a01 l g) sv (List.range l.length):=by
 obtain⟨a,c,rfl,h⟩:=h;have ex:∀i,∃rv:Value,Eng.one rv=true/\(i<l.length->Ints W rv (t6 l i).rows/\∀b o cs,a=some ⟨b,o,none⟩->cellsAt W b=some cs->(l=[]\/∀i (h:i<l.length),ND W cs (o+i*3) l[i])->(cs.drop (o+i*3)).take 3=[.string (aJ (t6 l i).name),rv,.int .i64 (t6 l i).q]):=λi=>by
  by_cases hi:i<l.length
  ·rcases h with h|⟨b,o,cs,rfl,h2,h3,h4⟩
   ·rw[h]at hi;simp at hi
   ·obtain⟨s1,s2,rv,s3,s4⟩:=h4 i hi;rw[<-w7 hi]at s1 s2 s4;refine⟨rv,?_,λ_=>⟨s4,λb' o' cs' e1 e2 _=>?_⟩⟩
    ·obtain⟨a',c',rfl,-⟩:=s4;exact Q9 _ _ _
    ·injection e1 with e1;injection e1 with e1 e3;subst e1 e3;rw[h3]at e2;injection e2 with e2;subst e2;exact UJ s1 s3 s2
  ·exact⟨.slice none 0 0,rfl,λx=>absurd x hi⟩
 refine⟨λi=>Classical.choose (ex i),λi=>(Classical.choose_spec (ex i)).1,λi hi=>((Classical.choose_spec (ex i)).2 hi).1,?_⟩;rcases h with h|⟨b,o,cs,rfl,h2,h3,h4⟩
 ·exact⟨a,c,by rw[List.length_range],.inl (by rw[h];rfl)⟩
 ·refine⟨_,c,by rw[List.length_range],.inr ⟨b,o,cs,rfl,h2,h3,λi hi=>?_⟩⟩;rw[List.length_range]at hi;rw[List.getElem_range];exact((Classical.choose_spec (ex i)).2 hi).2 b o cs rfl h3 (.inr h4)
theorem a3h:lF Tryz.prog #[22,22] 3 48=true:=by kernel_rfl
theorem u22:Tryz.prog.underlying 22=some (.slice 130):=by kernel_rfl
theorem a20(c d:Bool)(a:Addr)(l k:Nat)(W:AW):aG Tryz.prog .eql 22 c d (.slice (some a) l k) (.slice none 0 0) W=some (.bool false,W):=by unfold aG iY gL;simp only[u22]
theorem a1u(W:AW):aR Tryz.prog 22 0 [] W=some (.slice (some ⟨W.next,0,none⟩) 0 0,W.add (.cells [])):=Eq.trans (by kernel_rfl) rfl
theorem JD{Wb W:AW}{sv:Value}{l:List Sec}(h:SecsC Wb sv l)(hle:Le Wb W)(h0:l≠[])(hn:l.length<=10000):∃B W',∃g:Nat->Value,aK (.func (.func 71) #[] #[]) [sv] W=some (.slice (some ⟨B,0,none⟩) l.length (bV+3),W')/\Le W W'/\W.next<=B/\B<W'.next/\W'.get B=some (.cells ((List.range l.length).flatMap (nY l g)))/\(∀i,Eng.one (g i)=true)/\∀i,i<l.length->Ints Wb (g i) (t6 l i).rows:=by
 obtain⟨g,g1,g2,g3'⟩:=OO h.1;have g3:=g3'.mono hle;obtain⟨-,a,c,rfl,-,h4⟩:=h;obtain⟨b,o,rfl⟩:=h4 h0;have main:Ok (bT aK (.slice (some ⟨b,o,none⟩) l.length c) W) λr=>∃B,r.1=.slice (some ⟨B,0,none⟩) l.length (bV+3)/\Le W r.2/\W.next<=B/\B<r.2.next/\r.2.get B=some (.cells ((List.range l.length).flatMap (nY l g))):=by
  unfold bT;have l1:Le W (W.add (.cells [])):=(Le.refl _).add _;have n1:(W.add (.cells [])).next=W.next+1:=AW.add_next _ _;simp only[SX,a20,a1u];generalize W.add (.cells [])=W1 at *;obtain⟨a',c',e1,hr⟩:=g3;rw[List.length_range]at e1;injection e1 with e1 e2 e3;subst e1 e3;rcases hr with hr|⟨b',o',cs,e4,q1,q2,q3⟩
  ·rw[List.range_eq_nil]at hr;exact absurd (List.length_eq_zero_iff.1 hr) h0
  injection e4 with e4;injection e4 with e4 e5;subst e4 e5;have e:(List.range l.length).flatMap (nY l g)=(cs.drop o).take (l.length*3):=by
   have:=GK (jB l g) (List.range l.length) cs o λi hi=>q3 i hi
   rw[List.length_range]at this;exact this.symm
  have hall:((List.range l.length).flatMap (nY l g)).all Eng.one=true:=by rw[List.all_flatMap,List.all_eq_true];intro i _;unfold nY;simp only[List.all_cons,List.all_nil,tS,pU,g1,Bool.and_self]
  have hap:=D5 (P:=Tryz.prog) (W:=W1) (ts:=#[22,22]) a3h (b:=b) (o:=o) (n:=l.length) (c:=c) (new:=(List.range l.length).flatMap (nY l g)) (by rw[l1.cellsAt q1];exact q2) e (by rw[aQ (jB l g),List.length_range]) (List.length_pos_iff.2 h0) hall (a:=⟨W.next,0,none⟩) (by omega) (by omega);simp only[SX,hap,aA];exact⟨_,rfl,l1.add _,by omega,by rw[AW.add_next];omega,AW.get_add _ _⟩
 obtain⟨⟨r,W'⟩,h1,B,h2,h3,h5,h6,h7⟩:=main;simp only at h2 h3 h6 h7;subst h2;exact⟨B,W',g,by rw[fL h1,cZ rfl],h3,h5,h6,h7,g1,g2⟩
theorem UY{l:List Sec}{g:Nat->Value}{n i:Nat}(hi:i<n)(u:Value):((List.range n).flatMap (nY l g)).set (i*3+1) u=(List.range n).flatMap (nY l λj=>if j=i then u else g j):=by
 have hr:(List.range n)[i]? =some i:=List.getElem?_range hi;obtain⟨e1,e2⟩:=dC (jB l g) hr;obtain⟨e3,-⟩:=dC (jB l λj=>if j=i then u else g j) hr;have t1:∀xs:List Nat,(∀j∈xs,j≠i)->xs.flatMap (nY l λj=>if j=i then u else g j)=xs.flatMap (nY l g):=λxs hx=>by
  rw[List.flatMap_def,List.flatMap_def];congr 1;refine List.map_congr_left λj hj=>?_
  unfold nY;simp only[hx j hj,if_false]
 have h1:∀j∈(List.range n).take i,j≠i:=λj hj e=>by obtain⟨k,hk,rfl⟩:=List.mem_iff_getElem.1 hj;rw[List.length_take,List.length_range]at hk;rw[List.getElem_take,List.getElem_range]at e;omega
 have h2:∀j∈(List.range n).drop (i+1),j≠i:=λj hj e=>by obtain⟨k,hk,rfl⟩:=List.mem_iff_getElem.1 hj;rw[List.getElem_drop,List.getElem_range]at e;omega
 rw[e3,t1 _ h1,t1 _ h2,e1,List.set_append_right _ _ (by rw[e2];omega),e2,Nat.add_sub_cancel_left];unfold nY;simp
theorem SD{l:List Sec}{g:Nat->Value}{n i:Nat}(hi:i<n):((List.range n).flatMap (nY l g))[i*3+1]? =some (g i):=kJ (o:=1) (jB l g) (List.getElem?_range hi) (by omega)
theorem T8{W:AW}{B:Nat}{l:List Sec}{g:Nat->Value}(hB:W.get B=some (.cells ((List.range l.length).flatMap (nY l g))))(hl:B<W.next)(hg:∀i,i<l.length->Ints W (g i) (t6 l i).rows):SecsC W (.slice (some ⟨B,0,none⟩) l.length (bV+3)) l:=by
 refine⟨⟨_,_,rfl,.inr ⟨B,0,_,rfl,hl,b9 hB,λi hi=>?_⟩⟩,_,_,rfl,.inr rfl,λ_=>⟨B,0,rfl⟩⟩;have hr:(List.range l.length)[i]? =some i:=List.getElem?_range hi;rw[Nat.zero_add];refine⟨?_,?_,g i,kJ (o:=1) (jB l g) hr (by omega),?_⟩
 ·rw[<-w7 hi];exact kJ (o:=0) (jB l g) hr (by omega)
 ·rw[<-w7 hi];exact kJ (o:=2) (jB l g) hr (by omega)
 ·rw[<-w7 hi];exact hg i hi
theorem YH{k j:Nat}(H:Nat->Nat)(tv:Nat->Value)(hj:j<k)(u:Value):(W9 k H tv).set (j*2+1) u=W9 k H λi=>if i=j then u else tv i:=by
 have hr:(List.range k)[j]? =some j:=List.getElem?_range hj;obtain⟨e1,e2⟩:=dC (vI H tv) hr;obtain⟨e3,-⟩:=dC (vI H λi=>if i=j then u else tv i) hr;have t1:∀xs:List Nat,(∀i∈xs,i≠j)->xs.flatMap (shE H λi=>if i=j then u else tv i)=xs.flatMap (shE H tv):=λxs hx=>by
  rw[List.flatMap_def,List.flatMap_def];congr 1;refine List.map_congr_left λi hi=>?_
  unfold shE;simp only[hx i hi,if_false]
 have h1:∀i∈(List.range k).take j,i≠j:=λi hi e=>by obtain⟨m,hm,rfl⟩:=List.mem_iff_getElem.1 hi;rw[List.length_take,List.length_range]at hm;rw[List.getElem_take,List.getElem_range]at e;omega
 have h2:∀i∈(List.range k).drop (j+1),i≠j:=λi hi e=>by obtain⟨m,hm,rfl⟩:=List.mem_iff_getElem.1 hi;rw[List.getElem_drop,List.getElem_range]at e;omega
 unfold W9;rw[e3,t1 _ h1,t1 _ h2,e1,List.set_append_right _ _ (by rw[e2];omega),e2,Nat.add_sub_cancel_left];unfold shE;simp
theorem SlS.push{W:AW}{T:Nat}{v:Value}{xs:List SeT}(h:SlS W T v xs){x:SeT}{b c:Nat}(hc:cellsAt W b=some (dU x))(hb:xs.length<=10000):
 ∃v' W',bK Tryz.prog W #[25,25] v (.slice (some ⟨b,0,none⟩) 1 c)=some (v',W')/\SlS W' W.next v' (xs++[x])/\W'.next=W.next+1/\(∀b,b<W.next->(xs≠[]->b≠T)->W'.get b=W.get b)/\v'.cells=#[v']/\Eng.one v'=true:=by
 have hn:dU x=((dU x).drop 0).take (1*5):=rfl;rcases h with⟨rfl,rfl⟩|⟨h0,h1,rfl,h3⟩
 ·refine⟨_,_,AO (b:=b) (o:=0) (c:=c) a0E hc hn rfl (by omega) (H3 x) (by omega) (by omega),.inr ⟨by simp,by rw[AW.add_next];omega,by simp,by rw[AW.get_add];simp⟩,AW.add_next _ _,λb hb _=>AW.get_add_ne _ _ (by omega),rfl,rfl⟩
 ·have hpos:0<xs.length:=List.length_pos_iff.2 h0;refine⟨_,_,MR (b:=b) (o:=0) (c:=c) a0E hc hn rfl (by omega) (H3 x) h3 (aQ dV xs) (by omega) (by omega) hpos,.inr ⟨by simp,by rw[AW.add_next,AW.kill_next];omega,by simp[AW.kill_next],?_⟩,by rw[AW.add_next,AW.kill_next],λb hb hT=>?_,rfl,rfl⟩
  ·have:=(W.kill T).get_add (.cells (xs.flatMap dU++dU x));rw[AW.kill_next]at this;rw[this,List.flatMap_append];simp
  ·rw[AW.get_add_ne _ _ (by rw[AW.kill_next];omega),AW.get_kill_ne _ (λe=>hT h0 e.symm)]
def Md.push(d:Md)(j T:Nat)(u:Value):Md:={d with T:=λi=>if i=j then T else d.T i,tv:=λi=>if i=j then u else d.tv i}
section
variable {K:Nat->Prop} {V:AW} {d:Md} {l:List SeT} {e:Nat->List (Int×Int)}
theorem MapP.push(h:MapP K V d l e)(hl:l.length<d.many){x:SeT}{b c:Nat}(hc:cellsAt V b=some (dU x)):
 ∃u V1,∃V2,bK Tryz.prog V #[25,25] (d.tv (l.length % d.k)) (.slice (some ⟨b,0,none⟩) 1 c)=some (u,V1)/\eY 1 (.pointer (some ⟨d.SB,l.length % d.k*2+1,none⟩)) u V1=some (undef,V2)/\MapP K V2 (d.push (l.length % d.k) V.next u) (l++[x]) e/\Gr V V2 K:=by
 have hk:0<d.k:=h.kp.1;have hi:=Nat.mod_lt l.length hk;have hmn:=h.mn;have hcl:(dD l d.k (l.length % d.k)).length<=10000:=by rw[fM];unfold LJ;have:=Nat.div_le_self (l.length+d.k-1-l.length % d.k) d.k;have:=h.kp.2;omega
 obtain⟨u,V1,p1,p2,p3,p4,p5,p6⟩:=(h.col _ hi).push (c:=c) hc hcl;have hT:∀(hn:dD l d.k (l.length % d.k)≠[]),K (d.T (l.length % d.k))/\d.T (l.length % d.k)≠d.M/\d.T (l.length % d.k)≠d.SB:=h.tk _ hi;have g1:∀b,b<V.next->(dD l d.k (l.length % d.k)≠[]->b≠d.T (l.length % d.k))->V1.get b=V.get b:=p4;have hsb:V1.get d.SB=some (.cells (W9 d.k d.H d.tv)):=(g1 _ h.sl λhn c=>(hT hn).2.2 c.symm).trans h.sc;have hst:=OA (b:=d.SB) (o:=l.length % d.k*2+1) (v:=u) hsb (by unfold W9;rw[aQ (vI d.H d.tv),List.length_range];omega) p5 p6;rw[YH d.H d.tv hi u]at hst;obtain⟨V2,hV2⟩:∃V2,V2=V1.put d.SB (.cells (W9 d.k d.H λi=>if i=l.length % d.k then u else d.tv i)):=⟨_,rfl⟩;rw[<-hV2]at hst;have n2:V2.next=V.next+1:=by rw[hV2];exact p3
 have z1:V2.get d.SB=some (.cells (W9 d.k d.H λi=>if i=l.length % d.k then u else d.tv i)):=by rw[hV2];exact AW.get_put _ _ _
 have z0:∀b,b≠d.SB->V2.get b=V1.get b:=λb hb=>by rw[hV2];exact AW.get_put_ne _ _ λx=>hb x.symm
 have g2:∀b,b<V.next->b≠d.SB->(dD l d.k (l.length % d.k)≠[]->b≠d.T (l.length % d.k))->V2.get b=V.get b:=λb hb h1 h2=>(z0 b h1).trans (g1 b hb h2)
 have hcol:∀i,i<d.k->dD (l++[x]) d.k i=if l.length % d.k=i then dD l d.k i++[x]else dD l d.k i:=λi hi'=>PK hi' x
 have hne:∀i,i<d.k->i≠l.length % d.k->dD (l++[x]) d.k i=dD l d.k i:=λi hi' hn=>by rw[hcol i hi',if_neg λc=>hn c.symm]
 have hTi:∀i,(d.push (l.length % d.k) V.next u).T i=if i=l.length % d.k then V.next else d.T i:=λi=>rfl
 have htvi:∀i,(d.push (l.length % d.k) V.next u).tv i=if i=l.length % d.k then u else d.tv i:=λi=>rfl
 have hTc:∀i,i<d.k->dD (l++[x]) d.k i≠[]->(i=l.length % d.k/\(d.push (l.length % d.k) V.next u).T i=V.next)\/(i≠l.length % d.k/\(d.push (l.length % d.k) V.next u).T i=d.T i/\dD l d.k i≠[]/\d.T i<V.next):=λi hi' h0=>by
  by_cases c:i=l.length % d.k
  ·exact .inl ⟨c,by rw[hTi,if_pos c]⟩
  ·rw[hne i hi' c]at h0;exact .inr ⟨c,by rw[hTi,if_neg c],h0,(h.col i hi').lt h0⟩
 refine⟨u,V1,V2,p1,hst,?_,⟨by omega,λb hb hn=>g2 b hb (λc=>hn (by rw[c];exact h.sk)) λhc c=>hn (by rw[c];exact(hT hc).1)⟩⟩;refine{up:=λb hb=>h.up b (by omega),mc:=(g2 _ h.ml (λc=>h.ne c.symm) λhc c=>(hT hc).2.1 c.symm).trans h.mc,ml:=by have:=h.ml;show d.M<V2.next;omega,kM:=h.kM,sc:=z1,sl:=by have:=h.sl;show d.SB<V2.next;omega,sk:=h.sk,ne:=h.ne,vk:=h.vk,kp:=h.kp,mn:=h.mn,ll:=by rw[List.length_append,List.length_singleton];exact hl,col:=?_,tk:=?_,tt:=?_,ho:=?_,al:=λi hi' b hb=>by have:=h.al i hi' b hb;omega,ak:=h.ak,am:=h.am,at_:=?_,aa:=h.aa,es:=h.es,w0:=?_,wk:=h.wk,secs:=h.secs}
 ·intro i hi';by_cases c:i=l.length % d.k
  ·show SlS V2 ((d.push (l.length % d.k) V.next u).T i) ((d.push (l.length % d.k) V.next u).tv i) (dD (l++[x]) d.k i);rw[hTi,htvi,if_pos c,if_pos c,hcol i hi',if_pos c.symm,c];exact p2.keep (by omega) λ_=>z0 _ (by have:=h.sl;omega)
  ·show SlS V2 ((d.push (l.length % d.k) V.next u).T i) ((d.push (l.length % d.k) V.next u).tv i) (dD (l++[x]) d.k i);rw[hTi,htvi,if_neg c,if_neg c,hne i hi' c];exact(h.col i hi').keep (by omega) λh0=>g2 _ ((h.col i hi').lt h0) (h.tk i hi' h0).2.2 λh1 e=>c (h.tt i _ hi' hi h0 h1 e)
 ·intro i hi' h0;rcases hTc i hi' h0 with⟨c,e⟩|⟨c,e,h1,h2⟩
  ·rw[e];exact⟨h.up _ (Nat.le_refl _),by have:=h.ml;show V.next≠d.M;omega,by have:=h.sl;show V.next≠d.SB;omega⟩
  ·rw[e];exact h.tk i hi' h1
 ·intro i j hi' hj h0 h1 ee;rcases hTc i hi' h0 with⟨c,e⟩|⟨c,e,h2,h3⟩<;>rcases hTc j hj h1 with⟨c',e'⟩|⟨c',e',h2',h3'⟩
  ·rw[c,c']
  ·rw[e,e']at ee;omega
  ·rw[e,e']at ee;omega
  ·rw[e,e']at ee;exact h.tt i j hi' hj h2 h2' ee
 ·intro i hi';exact(h.ho i hi').keep (by omega) (λb hb hx=>g2 b hb (h.am i hi' b hx).2 λh1 c=>h.at_ i _ hi' hi h1 (by rw[<-c];exact hx)) (λb _ hx=>hx)
 ·intro i j hi' hj h0 hb;rcases hTc j hj h0 with⟨c,e⟩|⟨c,e,h2,h3⟩
  ·rw[e]at hb;have:=h.al i hi' _ hb;omega
  ·rw[e]at hb;exact h.at_ i j hi' hj h2 hb
 ·refine⟨by have:=h.w0.next;show d.W0.next<=V2.next;omega,λb hb=>(g2 b (Nat.lt_of_lt_of_le hb h.w0.next) (λc=>?_) λhc c=>?_).trans (h.w0.get b hb)⟩
  ·exact absurd (h.wk _ h.sk) (by rw[<-c];exact Nat.not_le.2 hb)
  ·exact absurd (h.wk _ (hT hc).1) (by rw[<-c];exact Nat.not_le.2 hb)
end
theorem AU:∀{l:List Int},(∀n∈l,1<=n)->0<=gN l/\(l≠[]->1<=gN l)
 |[],_=>⟨Int.le_refl _,λh=>absurd rfl h⟩
 |a::l,h=>by have h1:=(AU (l:=l) λn hn=>h n (List.mem_cons_of_mem _ hn)).1;have h2:=h a (List.mem_cons_self ..);have e:gN (a::l)=a+gN l:=rfl;rw[e];exact⟨by omega,λ_=>by omega⟩
theorem OP{v:Ven}(h:(pD v).2=0):1<=c9 v.secs:=by
 obtain⟨g,-,h0,-⟩:=sO h;unfold c9;refine(AU (l:=v.secs.map λs=>gN s.rows) λn hn=>?_).2 λc=>?_
 ·obtain⟨s,hs,rfl⟩:=List.mem_map.1 hn;obtain⟨r1,r2,r3⟩:=g.rows s hs;exact(AU λn hn=>(r3 n hn).1).2 λc=>r1 (by rw[c];rfl)
 ·rw[List.map_eq_nil_iff]at c;rw[c]at h0;simp at h0
def HH(k:Nat)(hv:Nat->Value):List Value:=(List.range k).flatMap λi=>[hv i,.slice none 0 0]
theorem WN(hv:Nat->Value)(i:Nat):([hv i,.slice none 0 0]:List Value).length=2:=rfl
theorem XP{k j:Nat}(hv:Nat->Value)(hj:j<k)(u:Value):(HH k hv).set (j*2) u=HH k λi=>if i=j then u else hv i:=by
 have hr:(List.range k)[j]? =some j:=List.getElem?_range hj;obtain⟨e1,e2⟩:=dC (f:=λi=>[hv i,.slice none 0 0]) (λi=>WN hv i) hr;obtain⟨e3,-⟩:=dC (f:=λi=>[if i=j then u else hv i,.slice none 0 0]) (λi=>rfl) hr;have t1:∀xs:List Nat,(∀i∈xs,i≠j)->xs.flatMap (λi=>[if i=j then u else hv i,.slice none 0 0])=xs.flatMap λi=>[hv i,.slice none 0 0]:=λxs hx=>by
  rw[List.flatMap_def,List.flatMap_def];congr 1;refine List.map_congr_left λi hi=>?_
  simp only[hx i hi,if_false]
 have h1:∀i∈(List.range k).take j,i≠j:=λi hi e=>by obtain⟨m,hm,rfl⟩:=List.mem_iff_getElem.1 hi;rw[List.length_take,List.length_range]at hm;rw[List.getElem_take,List.getElem_range]at e;omega
 have h2:∀i∈(List.range k).drop (j+1),i≠j:=λi hi e=>by obtain⟨m,hm,rfl⟩:=List.mem_iff_getElem.1 hi;rw[List.getElem_drop,List.getElem_range]at e;omega
 unfold HH;rw[e3,t1 _ h1,t1 _ h2,e1,List.set_append_right _ _ (by rw[e2];omega),e2,Nat.sub_self];simp
theorem a3K:(Tryz.prog.info? 144).map (·.bytes)=some 32:=by kernel_rfl
theorem a1M:Tryz.prog.underlying 137=some (.slice 144):=by kernel_rfl
theorem a3l:jO Tryz.prog 144=some 2:=by kernel_rfl
theorem a3g:i7 Tryz.prog 144=some (.agg #[.pointer none,.slice none 0 0]):=by kernel_rfl
theorem NA:∀n:Nat,tZ [.pointer none,.slice none 0 0] n=(List.replicate n ()).flatMap λ_=>[.pointer none,.slice none 0 0]
 |0=>rfl
 |n+1=>by show [.pointer none,.slice none 0 0]++tZ [.pointer none,.slice none 0 0] n=_;rw[NA n,List.replicate_succ,List.flatMap_cons]
theorem HM(n:Nat):tZ [.pointer none,.slice none 0 0] n=HH n λ_=>.pointer none:=by
 rw[NA];unfold HH;rw[List.flatMap_def,List.flatMap_def];congr 1;apply List.ext_getElem?;intro i;by_cases h:i<n
 ·simp[h]
 ·rw[List.getElem?_eq_none (by simp;omega),List.getElem?_eq_none (by simp;omega)]
theorem a1W{n:Nat}(h:n<=10000)(W:AW):g8 Tryz.prog 137 (.int .i64 (n:Int)) (.int .i64 (n:Int)) W=some (.slice (some ⟨W.next,0,none⟩) n n,W.add (.cells (HH n λ_=>.pointer none))):=by
 show g8 Tryz.prog 137 (.int .i64 (Int.ofNat n)) (.int .i64 (Int.ofNat n)) W=_;unfold g8;have e:=CC (z:=.agg #[.pointer none,.slice none 0 0]) (len:=n) (n:=2) rfl;have e2:(gV (.agg #[.pointer none,.slice none 0 0]) (n*2)).toList=HH n λ_=>.pointer none:=by rw[e];exact HM n
 have e3:(HH n λ_=>.pointer none).all bR=true:=by rw[<-HM];exact vH _ _ rfl n
 simp only[a1M,a3l,a3g,a3K];rw[e2,if_pos ⟨Nat.le_refl _,by omega,by omega,e3⟩]
theorem a2t(v:Ven)(B n c k b:Nat)(m:Int)(W:AW):dR Tryz.prog 139 [(0,qO v (.slice (some ⟨B,0,none⟩) n c)),(1,.int .i64 m),(2,.slice (some ⟨b,0,none⟩) k k)] W=some (.agg #[.int .i64 v.sh,.int .i64 v.ttl,.int .i64 v.ses,.slice (some ⟨B,0,none⟩) n c,.int .i64 m,.slice (some ⟨b,0,none⟩) k k],W):=Eq.trans (by kernel_rfl) rfl
theorem a11{Wa W:AW}{v:Ven}{b B:Nat}{g:Nat->Value}{R:PlanTab.Fr}{K:LT->Option (Value×AW)}{G:Value×AW->Prop}(hn:v.secs.length<1000)(hr:∀s∈v.secs,s.rows.length<1000)(hle:Le Wa W)(hBa:Wa.next<=B)(hbl:b<W.next)(hne:b≠B)(hBl:B<W.next)
 (hb:W.get b=some (.cells [.int .i64 v.sh,.int .i64 v.ttl,.int .i64 v.ses,.slice (some ⟨B,0,none⟩) v.secs.length (bV+3)]))(hB:W.get B=some (.cells ((List.range v.secs.length).flatMap (nY v.secs g))))(g2:∀i,i<v.secs.length->Ints Wa (g i) (t6 v.secs i).rows)
 (r2:R 2=.pointer (some ⟨b,0,none⟩))(r40:R 40=.int .i64 (v.secs.length:Int))(r41:R 41=.int .i64 0)
 (hk:∀(R':PlanTab.Fr) (U:AW) (g':Nat->Value),R' 1=R 1->R' 2=.pointer (some ⟨b,0,none⟩)->R' 6=R 6->Le Wa U->W.next<=U.next->(∀c,c≠B->c<W.next->U.get c=W.get c)->U.get B=some (.cells ((List.range v.secs.length).flatMap (nY v.secs g')))->(∀i,i<v.secs.length->Ints U (g' i) (t6 v.secs i).rows)->Ok (K (X.exit 1,R',U)) G):
 Ok (a8 (bZ (j6 aK) R W) K) G:=by
 have g0:∀U:AW,(∀c,c≠B->c<W.next->U.get c=W.get c)->W.next<=U.next->Le Wa U:=λU h1 h2=>⟨by have:=hle.next;omega,λc hc=>(h1 c (by omega) (by have:=hle.next;omega)).trans (hle.get c hc)⟩
 refine bI v.secs.length (by omega) (λi Q U=>Q 1=R 1/\Q 2=.pointer (some ⟨b,0,none⟩)/\Q 6=R 6/\Q 40=.int .i64 (v.secs.length:Int)/\Q 41=.int .i64 (i:Int)/\W.next<=U.next/\(∀c,c≠B->c<W.next->U.get c=W.get c)/\
  ∃g':Nat->Value,U.get B=some (.cells ((List.range v.secs.length).flatMap (nY v.secs g')))/\(∀j,j<i->FI W.next U (g' j) (t6 v.secs j).rows)/\∀j,i<=j->g' j=g j)
  (λr=>r.1=.exit 1/\r.2.1 1=R 1/\r.2.1 2=.pointer (some ⟨b,0,none⟩)/\r.2.1 6=R 6/\W.next<=r.2.2.next/\(∀c,c≠B->c<W.next->r.2.2.get c=W.get c)/\∃g':Nat->Value,r.2.2.get B=some (.cells ((List.range v.secs.length).flatMap (nY v.secs g')))/\∀j,j<v.secs.length->Ints r.2.2 (g' j) (t6 v.secs j).rows)
  ⟨rfl,r2,rfl,r40,r41,Nat.le_refl _,λ_ _ _=>rfl,g,hB,λj hj=>by omega,λj _=>rfl⟩ ?_ ?_ ?_
 ·rintro i Q U hi ⟨q1,q2,q6,q40,q41,u1,u2,g',u3,u4,u5⟩;unfold j6;have t1:((i:Int)<(v.secs.length:Int)):=by omega
  have t2:=λW'=>aX (P:=Tryz.prog) (W:=W') (t:=3) (c:=false) (d:=true) (a:=(i:Int)) (b:=1) (by omega) (by omega)
  have e3:((i+1:Nat):Int)=(i:Int)+1:=by omega
  have ub:=(u2 b hne hbl).trans hb;have hl3:aN (.pointer (some ⟨b,3,none⟩)) U=some (.slice (some ⟨B,0,none⟩) v.secs.length (bV+3),U):=gY (bW ub) rfl;have ix:=λW' q=>jE (W:=W') (z:=3) (b:=B) (o:=0) (l:=v.secs.length) (c:=bV+3) (i:=i) (k:=q) hi
  have lr:aN (.pointer (some ⟨B,i*3+1,none⟩)) U=some (g' i,U):=gY (bW u3) (SD hi);have hrow:Ints U (g' i) (t6 v.secs i).rows:=by rw[u5 i (Nat.le_refl _)];exact(g2 i hi).mono (g0 U u2 u1)
  have hlr:(t6 v.secs i).rows.length<=10000:=by rw[w7 hi];have:=hr _ (List.getElem_mem hi);omega
  obtain⟨u,U1,k1,k2,k3⟩:=I2 hrow hlr;have n1:=k2.next;have hl3':aN (.pointer (some ⟨b,3,none⟩)) U1=some (.slice (some ⟨B,0,none⟩) v.secs.length (bV+3),U1):=gY (bW ((k2.get b (by omega)).trans ub)) rfl;have hB1:U1.get B=some (.cells ((List.range v.secs.length).flatMap (nY v.secs g'))):=(k2.get B (by omega)).trans u3;have hst:=OA (b:=B) (o:=i*3+1) (v:=u) hB1 (by rw[aQ (jB v.secs g'),List.length_range];omega) k3.one.1 k3.one.2;rw[UY hi]at hst;simp only[SX,q2,q40,q41,t1,decide_true,Nat.zero_add,hl3,ix,lr,k1,hl3',eJ,yX,Bool.and_true,hst,t2,aA];refine .inl ⟨trivial,q1,q2,q6,q40,by rw[e3];rfl,by rw[AW.put_next];omega,λc hc hcl=>by rw[AW.get_put_ne _ _ (λx=>hc x.symm),k2.get c (by omega)];exact u2 c hc hcl,_,AW.get_put _ _ _,λj hj=>?_,λj hj=>?_⟩
  ·by_cases c:j=i
   ·subst c;simp only[if_true];exact(FI.keep (W':=U1.put B _) k3 (Nat.le_refl _) λb' h1 h2=>AW.get_put_ne _ _ (by omega))|>λh=>by
     obtain⟨a,cc,e,hr⟩:=h;refine⟨a,cc,e,?_⟩;rcases hr with hr|⟨X,e1,e2,e3,e4⟩
     ·exact .inl hr
     ·exact .inr ⟨X,e1,by omega,e3,e4⟩
   ·simp only[c,if_false];exact(u4 j (by omega)).keep (by rw[AW.put_next];omega) λb' h1 h2=>by rw[AW.get_put_ne _ _ (by omega)];exact k2.get b' h2
  ·have:j≠i:=by omega
   simp only[this,if_false];exact u5 j (by omega)
 ·rintro Q U ⟨q1,q2,q6,q40,q41,u1,u2,g',u3,u4,u5⟩;unfold j6;have t1:¬((v.secs.length:Int)<(v.secs.length:Int)):=by omega
  simp only[SX,q40,q41,t1,decide_false,aA];exact⟨by simp,trivial,q1,q2,q6,u1,u2,g',u3,λj hj=>(u4 j hj).ints⟩
 ·rintro⟨q,Q,U⟩ ⟨rfl,q1,q2,q6,u1,u2,g',u3,u4⟩;exact hk Q U g' q1 q2 q6 (g0 U u2 u1) u1 u2 u3 u4
theorem a1T{W:AW}{M B k many:Nat}{R:PlanTab.Fr}{K:LT->Option (Value×AW)}{G:Value×AW->Prop}(hk16:k<=16)(hm:1<=many/\many<=4096)(hMl:M<W.next)(hBl:B<W.next)(hM:aN (.pointer (some ⟨M,5,none⟩)) W=some (.slice (some ⟨B,0,none⟩) k k,W))(hMg:∀U:AW,U.get M=W.get M->aN (.pointer (some ⟨M,5,none⟩)) U=some (.slice (some ⟨B,0,none⟩) k k,U))(hne:B≠M)(hB:W.get B=some (.cells (HH k λ_=>.pointer none)))
 (r6:R 6=.int .i64 (many:Int))(r9:R 9=mV M)(r68:R 68=.int .i64 (k:Int))(r69:R 69=.int .i64 0)
 (hk:∀(R':PlanTab.Fr) (U:AW) (H:Nat->Nat) (A:Nat->Nat->Prop) (s:Nat->St),R' 1=R 1->R' 2=R 2->R' 9=mV M->W.next<=U.next->(∀c,c≠B->c<W.next->U.get c=W.get c)->U.get B=some (.cells (HH k λi=>hP (H i)))->(∀i,i<k->HT U (A i) (H i) many (s i)/\(s i).es=[]/\(s i).nx=1/\∀b,A i b->W.next<=b/\b<U.next)->(∀i j,i<k->j<k->∀b,A i b->A j b->i=j)->Ok (K (X.exit 3,R',U)) G):
 Ok (a8 (bZ (j5 aK) R W) K) G:=by
 refine bI k (by omega) (λi Q U=>Q 1=R 1/\Q 2=R 2/\Q 6=.int .i64 (many:Int)/\Q 9=mV M/\Q 68=.int .i64 (k:Int)/\Q 69=.int .i64 (i:Int)/\W.next<=U.next/\(∀c,c≠B->c<W.next->U.get c=W.get c)/\
  ∃(H:Nat->Nat) (A:Nat->Nat->Prop) (s:Nat->St),U.get B=some (.cells (HH k λj=>if j<i then hP (H j)else .pointer none))/\(∀j,j<i->HT U (A j) (H j) many (s j)/\(s j).es=[]/\(s j).nx=1/\∀b,A j b->W.next<=b/\b<U.next)/\∀j m,j<i->m<i->∀b,A j b->A m b->j=m)
  (λr=>r.1=.exit 3/\r.2.1 1=R 1/\r.2.1 2=R 2/\r.2.1 9=mV M/\W.next<=r.2.2.next/\(∀c,c≠B->c<W.next->r.2.2.get c=W.get c)/\
    ∃(H:Nat->Nat) (A:Nat->Nat->Prop) (s:Nat->St),r.2.2.get B=some (.cells (HH k λi=>hP (H i)))/\(∀i,i<k->HT r.2.2 (A i) (H i) many (s i)/\(s i).es=[]/\(s i).nx=1/\∀b,A i b->W.next<=b/\b<r.2.2.next)/\∀i j,i<k->j<k->∀b,A i b->A j b->i=j)
  ⟨rfl,rfl,r6,r9,r68,r69,Nat.le_refl _,λ_ _ _=>rfl,λ_=>0,λ_ _=>False,λ_=>⟨0,0,0,0,0,λ_=>⟨0,0,(0,0)⟩⟩,by simpa using hB,λj hj=>by omega,λj m hj=>by omega⟩ ?_ ?_ ?_
 ·rintro i Q U hi ⟨q1,q2,q6,q9,q68,q69,u1,u2,H,A,s,u3,u4,u5⟩;unfold j5;have t1:((i:Int)<(k:Int)):=by omega
  have t2:=λW'=>aX (P:=Tryz.prog) (W:=W') (t:=3) (c:=false) (d:=true) (a:=(i:Int)) (b:=1) (by omega) (by omega)
  have e3:((i+1:Nat):Int)=(i:Int)+1:=by omega
  obtain⟨U1,H1,q,mh,hm',f,k1,k2,k3⟩:=Y9 (W:=U) (In:=λb=>U.next<=b) (s:=(many:Int)) ⟨by omega,by omega⟩ (λb hb=>hb);have n1:=k3.next;have hM1:aN (.pointer (some ⟨M,5,none⟩)) U1=some (.slice (some ⟨B,0,none⟩) k k,U1):=hMg U1 (by rw[k3.get M (by omega) (by omega)];exact u2 M (λc=>hne c.symm) hMl);have hB1:U1.get B=some (.cells (HH k λj=>if j<i then hP (H j)else .pointer none)):=(k3.get B (by omega) (by omega)).trans u3;have hst:=OA (b:=B) (o:=i*2) (v:=hP H1) hB1 (by unfold HH;rw[aQ (f:=λj=>[if j<i then hP (H j)else .pointer none,.slice none 0 0]) (z:=2) (λj=>rfl),List.length_range];omega) rfl rfl;rw[XP _ hi]at hst;simp only[SX,q6,q9,q68,q69,t1,decide_true,k1,aF,Nat.zero_add,Nat.add_zero,hM1,FW hi,hst,t2,aA];refine .inl ⟨trivial,q1,q2,q6,q9,q68,by rw[e3];rfl,by rw[AW.put_next];omega,λc hc hcl=>by rw[AW.get_put_ne _ _ (λx=>hc x.symm),k3.get c (by omega) (by omega)];exact u2 c hc hcl,λj=>if j=i then H1 else H j,λj b=>if j=i then U.next<=b/\b<U1.next else A j b,λj=>if j=i then⟨q,mh,hm',1,0,f⟩else s j,?_,λj hj=>?_,λj m hj hm b hb hb2=>?_⟩
  ·rw[AW.get_put];congr 3;funext j;by_cases c:j=i
   ·simp[c]
   ·by_cases c2:j<i
    ·simp[c,c2,show j<i+1 by omega]
    ·simp[c,c2,show¬j<i+1 by omega]
  ·by_cases c:j=i
   ·subst c;simp only[if_true];refine⟨k2.keep (Nat.le_refl _) (λb hb hx=>AW.get_put_ne _ _ (by omega)) (λb hb hx=>⟨hx,hb⟩),rfl,trivial,λb hb=>⟨by omega,hb.2⟩⟩
   ·simp only[c,if_false];obtain⟨x1,x2,x3,x4⟩:=u4 j (by omega);refine⟨x1.keep (by rw[AW.put_next];omega) (λb hb hx=>?_) (λb _ hx=>hx),x2,x3,λb hb=>⟨(x4 b hb).1,by have:=(x4 b hb).2;rw[AW.put_next];omega⟩⟩;have:=(x4 b hx).1;rw[AW.get_put_ne _ _ (by omega)];exact k3.get b hb (by omega)
  ·by_cases c:j=i<;>by_cases c2:m=i
   ·rw[c,c2]
   ·simp only[c,c2,if_true,if_false]at hb hb2;have:=(u4 m (by omega)).2.2.2 b hb2;omega
   ·simp only[c,c2,if_true,if_false]at hb hb2;have:=(u4 j (by omega)).2.2.2 b hb;omega
   ·simp only[c,c2,if_false]at hb hb2;exact u5 j m (by omega) (by omega) b hb hb2
 ·rintro Q U ⟨q1,q2,q6,q9,q68,q69,u1,u2,H,A,s,u3,u4,u5⟩;unfold j5;have t1:¬((k:Int)<(k:Int)):=by omega
  simp only[SX,q68,q69,t1,decide_false,aA];refine⟨by simp,trivial,q1,q2,q9,u1,u2,H,A,s,?_,u4,u5⟩;rw[u3];congr 2;unfold HH;rw[List.flatMap_def,List.flatMap_def];congr 1;refine List.map_congr_left λj hj=>?_
  simp only[List.mem_range.1 hj,if_true]
 ·rintro⟨q,Q,U⟩ ⟨rfl,q1,q2,q9,u1,u2,H,A,s,u3,u4,u5⟩;exact hk Q U H A s q1 q2 q9 u1 u2 u3 u4 u5
theorem EU{l:List SeT}{x:SeT}{k:Nat}(i:Nat):bP (l++[x]) (j4 k i)=bP l (j4 k i)++(if l.length % k=i/\x.st=1 then [((l.length:Int),x.dl)]else []):=by
 rw[QA];congr 1;by_cases c:l.length % k=i/\x.st=1
 ·rw[if_pos c,if_pos ⟨by simp[c.1],c.2⟩]
 ·rw[if_neg c,if_neg λh=>c ⟨by simpa using h.1,h.2⟩]
def Ld(K:Nat->Prop)(U:AW)(d:Md)(l:List SeT)(N:Int):Prop:=(∀i,i<d.k->(d.s i).nx<=N)/\MapP K U d l λi=>bP l (j4 d.k i)
theorem QK{K:Nat->Prop}{U:AW}{d:Md}{l:List SeT}{N:Int}(h:Ld K U d l N)(hl:l.length<d.many)(hN:N<1000000){x:SeT}(hx:o7 x=0){sv rv:Value}{b:Nat}
 (hrow:∃p,(∀W' q,eZ 5 rv (.int q (l.length:Int)) W'=some (p,W'))/\dS 5 p U=some (mH x,U))(hb:∀W',Le U W'->aN (.pointer (some ⟨b,0,none⟩)) W'=some (.int .i64 (d.k:Int),W'))
 {R:PlanTab.Fr}{n:Nat}(hn:l.length<n)(r2:R 2=.pointer (some ⟨b,0,none⟩))(r9:R 9=mV d.M)(r86:R 86=rv)(r87:R 87=.int .i64 (n:Int))(r88:R 88=.int .i64 (l.length:Int)){G:LT->Prop}
 (hk:∀(R':PlanTab.Fr) (U':AW) (d':Md),R' 2=R 2->R' 9=R 9->R' 86=R 86->R' 87=R 87->R' 88=.int .i64 ((l.length+1:Nat):Int)->d'.M=d.M->d'.k=d.k->d'.many=d.many->d'.v=d.v->d'.W0=d.W0->Ld K U' d' (l++[x]) (N+1)->Gr U U' K->G (X.normal,R',U')):
 Ok (jU aK R U) G:=by
 obtain⟨hnx,hP'⟩:=h;have hmn:=hP'.mn;have hk0:0<d.k:=hP'.kp.1;have hi:=Nat.mod_lt l.length hk0;obtain⟨p,i1,i2⟩:=hrow;obtain⟨U0,U1,a1,a2,a3,a4,a5⟩:=a0Q U x;have l2:Le U1 (U1.add (.cells (dU x))):=(Le.refl _).add _;have n2:(U1.add (.cells (dU x))).next=U1.next+1:=AW.add_next _ _;have g2:(U1.add (.cells (dU x))).get U1.next=some (.cells (dU x)):=AW.get_add _ _;have t1:((l.length:Int)<(n:Int)):=by omega
 have t2:=λW'=>aX (P:=Tryz.prog) (W:=W') (t:=3) (c:=false) (d:=true) (a:=(l.length:Int)) (b:=1) (by omega) (by omega)
 have e6:((l.length+1:Nat):Int)=(l.length:Int)+1:=by omega
 have p1:=hP'.le a3;have h1:=p1.h1 hi;unfold jU;simp only[SX,r86,r87,r88,t1,decide_true,i1,i2,a1,a2,r9,aF,Nat.zero_add,Nat.add_zero,p1.l5,r2,hb U1 a3,IT l.length d.k hk0,FW hi,h1,cI a5,a3N];generalize U1.add (.cells (dU x))=U2 at *;have p2:=hP'.shift (a3.trans l2);obtain⟨K1,hK1⟩:∃K1:Nat->Prop,K1=λb=>K b/\b<U.next\/U2.next<=b:=⟨_,rfl⟩
 rw[<-hK1]at p2;have hK:∀b,K1 b->K b:=λb hb=>by
  rw[hK1]at hb;rcases hb with hb|hb
  ·exact hb.1
  ·exact hP'.up b (by omega)
 have hKn:¬K1 U.next:=λhb=>by rw[hK1]at hb;rcases hb with hb|hb<;>omega
 obtain⟨u,V1,V2,q1,q2,q3,q4⟩:=p2.push hl (b:=U1.next) (c:=1) (b9 g2);have bx:V2.get U.next=some (.cells (dU x)):=by rw[q4.get _ (by omega) hKn,l2.get _ (by omega)];exact a5
 have gr0:Gr U U2 K:=Le.gr (a3.trans l2) K;have hpush_s:∀i,(d.push (l.length % d.k) U2.next u).s i=d.s i:=λi=>rfl
 by_cases c:x.st=1;case neg=>have dc:=decide_eq_false c;simp only[SX,q1,q2,dB bx,dc,t2,aA];refine hk _ V2 (d.push (l.length % d.k) U2.next u) rfl rfl rfl rfl (by rw[e6];rfl) rfl rfl rfl rfl rfl ⟨λi hi'=>by rw[hpush_s];have:=hnx i hi';omega,?_⟩ (gr0.trans (q4.mono hK));refine(q3.ent λi hi'=>?_).weak hK hP'.wk;rw[EU,if_neg (λh=>c h.2),List.append_nil];exact .refl _
 have dc:=decide_eq_true c;have hdl:0<=x.dl:=by rw[B2 c]at hx;split at hx<;>omega
 obtain⟨V3,s',w1,w2,w3,f1,f2,f3,f4,f5⟩:=yH (p:=((l.length:Int),x.dl)) q3 (i:=l.length % d.k) hi (λz hz=>by obtain⟨j,j1,-,-,rfl⟩:=qY.1 hz;show((j:Nat):Int)≠(l.length:Int);omega) ⟨by show(0:Int)<=(l.length:Int);omega,by show(l.length:Int)<(d.many:Int);omega,hdl⟩ (Nat.le_trans (oR _ _) (by omega)) (by rw[hpush_s];have:=hnx _ hi;omega);have h02:aN (.pointer (some ⟨d.SB,l.length % d.k*2,none⟩)) V2=some (hP (d.H (l.length % d.k)),V2):=q3.h0 hi;have w1':aK (.func (.func 74) #[] #[]) [hP (d.H (l.length % d.k)),.int .i64 (l.length:Int),.int .i64 x.dl] V2=some (.int .i64 0,V3):=w1;simp only[SX,q1,q2,dB bx,dc,h02,dZ bx,w1',t2,aA];refine hk _ V3 ((d.push (l.length % d.k) U2.next u).on (l.length % d.k) V2 V3 s') rfl rfl rfl rfl (by rw[e6];rfl) rfl rfl rfl rfl rfl ⟨λi hi'=>?_,?_⟩ (gr0.trans ((q4.mono hK).trans (w3.mono hK)))
 ·rw[nW];split
  ·rw[f4,hpush_s];have:=hnx _ hi;omega
  ·rw[hpush_s];have:=hnx i hi';omega
 ·refine(w2.ent λi hi'=>?_).weak hK hP'.wk;rw[EU];by_cases ci:i=l.length % d.k
  ·rw[if_pos ci,if_pos ⟨ci.symm,c⟩,ci];exact(List.perm_append_singleton _ _).symm
  ·rw[if_neg ci,if_neg (λh=>ci h.1.symm),List.append_nil];exact .refl _
section
variable {W:AW} {v:Ven} {sv rv:Value} {l:List SeT}
theorem TI(hs:SecsC W sv v.secs)(hv:v.secs.length<1000)(hrow:SeL W rv l)(hl:l.length<=10000):
 (n9 v l≠0->aK (.func (.func 17) #[] #[]) [qO v sv,rv] W=some (.tuple #[.pointer none,.int .i64 (n9 v l)],W))/\(n9 v l=0->∃M W',∃W0:AW,∃k:Nat,aK (.func (.func 17) #[] #[]) [qO v sv,rv] W=some (.tuple #[mV M,.int .i64 0],W')/\Le W W0/\Le W W'/\v.sh=(k:Int)/\MapS (λb=>W0.next<=b) W' M k l.length v W0 10001 l):=by
 obtain⟨W1,k1,k2,k3,k4⟩:=G0 v sv W;have hse:=UC (hs.mono k2) hv;have hco:=KL (hrow.mono k2) hl;by_cases c1:(hY v).2=0;case neg=>
  have e:n9 v l=(hY v).2:=by unfold n9;rw[if_pos c1]
  have d1:=decide_eq_false c1;refine⟨λ_=>aM rfl ?_ jR,λx=>by rw[e]at x;exact absurd x c1⟩;unfold iT;simp only[SX,k1,vO k4,hse,d1,aA];exact⟨by rw[e],k2⟩
 have d1:=decide_eq_true c1;by_cases c2:(l.length:Int)=(hY v).1;case neg=>
  have e:n9 v l=6:=by unfold n9;rw[if_neg (λx=>x c1),if_pos c2]
  have d2:=decide_eq_false c2;refine⟨λ_=>aM rfl ?_ jR,λx=>by omega⟩;unfold iT;simp only[SX,E7,E0,k1,vO k4,hse,d1,hrow.len nE,d2,aA];exact⟨by rw[e],k2⟩
 have d2:=decide_eq_true c2;have e0:n9 v l=if LU l=true then 6 else 0:=by unfold n9;rw[if_neg (λx=>x c1),if_neg (λx=>x c2)]
 cases hbd:LU l with
 |true=>
  have e:n9 v l=6:=by rw[e0,if_pos hbd]
  rw[hbd]at hco;refine⟨λ_=>aM rfl ?_ jR,λx=>by omega⟩;unfold iT;simp only[SX,E7,E0,k1,vO k4,hse,d1,hrow.len nE,d2,hco,aA];exact⟨by rw[e],k2⟩
 |false=>
  have e:n9 v l=0:=by rw[e0,hbd];rfl
  rw[hbd]at hco;refine⟨λx=>absurd e x,λ_=>?_⟩;obtain⟨hve,htot,hok,hl4,hsh⟩:=JB e;have htp:=OP hve;obtain⟨gd,-,hse0,-⟩:=sO hve;have hne:v.secs≠[]:=λc=>by rw[c]at hse0;simp at hse0
  have hr:∀s∈v.secs,s.rows.length<1000:=λs hs'=>by have:=(gd.rows s hs').2.1;omega
  obtain⟨k,hk⟩:∃k:Nat,v.sh=(k:Int):=⟨v.sh.toNat,by omega⟩;have hse':(hY v).1=(l.length:Int):=c2.symm;obtain⟨B,W2,g,a1,a2,a3,a4,a5,a6,a7⟩:=JD hs k2 hne (by omega);have g2:W2.get W.next=some (.cells [.int .i64 v.sh,.int .i64 v.ttl,.int .i64 v.ses,sv]):=(a2.get _ (by omega)).trans k4;have hl3:aN (.pointer (some ⟨W.next,3,none⟩)) W1=some (sv,W1):=gY (bW k4) rfl;have hst3:=OA (b:=W.next) (o:=3) (v:=.slice (some ⟨B,0,none⟩) v.secs.length (bV+3)) g2 (by show 3<4;omega) rfl rfl;have hst3':eY 1 (.pointer (some ⟨W.next,3,none⟩)) (.slice (some ⟨B,0,none⟩) v.secs.length (bV+3)) W2=some (undef,W2.put W.next (.cells [.int .i64 v.sh,.int .i64 v.ttl,.int .i64 v.ses,.slice (some ⟨B,0,none⟩) v.secs.length (bV+3)])):=hst3;have main:Ok (iT aK (qO v sv) rv W) λr=>∃M,∃W0:AW,r.1=.tuple #[mV M,.int .i64 0]/\Le W W0/\Le W r.2/\MapS (λb=>W0.next<=b) r.2 M k l.length v W0 10001 l:=by
   unfold iT;obtain⟨W3,hW3⟩:∃W3,W3=W2.put W.next (.cells [.int .i64 v.sh,.int .i64 v.ttl,.int .i64 v.ses,.slice (some ⟨B,0,none⟩) v.secs.length (bV+3)]):=⟨_,rfl⟩;rw[<-hW3]at hst3';have n2:=a2.next;have z1:W3.get W.next=some (.cells [.int .i64 v.sh,.int .i64 v.ttl,.int .i64 v.ses,.slice (some ⟨B,0,none⟩) v.secs.length (bV+3)]):=by rw[hW3];exact AW.get_put _ _ _
   have z0:∀b,b≠W.next->W3.get b=W2.get b:=λb hb=>by rw[hW3];exact AW.get_put_ne _ _ λx=>hb x.symm
   have n3:W3.next=W2.next:=by rw[hW3];rfl
   have hl33:aN (.pointer (some ⟨W.next,3,none⟩)) W3=some (.slice (some ⟨B,0,none⟩) v.secs.length (bV+3),W3):=gY (bW z1) rfl;have l03:Le W W3:=⟨by omega,λb hb=>by rw[z0 b (by omega),a2.get b (by omega)];exact k2.get b hb⟩;simp only[SX,E7,E0,k1,vO k4,hse,d1,hrow.len nE,d2,hco,Nat.zero_add,hl3,a1,hst3',hl33,eR yE];refine a11 (Wa:=W) (W:=W3) (b:=W.next) (B:=B) (g:=g) hv hr l03 (by omega) (by omega) (by omega) (by omega) z1 ((z0 B (by omega)).trans a5) a7 rfl rfl rfl λR' U g' r1 r2 r6 u0 u1 u2 u3 u4=>?_
   have ub:=(u2 W.next (by omega) (by omega)).trans z1;have l0k:∀Z:AW,Le U Z->aN (.pointer (some ⟨W.next,0,none⟩)) Z=some (.int .i64 (k:Int),Z):=λZ hZ=>by rw[<-hk];exact gY (bW ((hZ.get _ (by omega)).trans ub)) rfl
   have r1':R' 1=rv:=r1;have r6':R' 6=.int .i64 (l.length:Int):=by rw[r6,<-hse'];rfl
   have hk16:k<=16:=by omega
   have hsecs:=T8 u3 (by omega) u4;simp only[SX,r2,vO ub,r6',l0k U (Le.refl _),a1W (show k<=10000 by omega),a2t,dN];obtain⟨U2,hU2⟩:∃U2,U2=(U.add (.cells (HH k λ_=>.pointer none))).add (.cells [.int .i64 v.sh,.int .i64 v.ttl,.int .i64 v.ses,.slice (some ⟨B,0,none⟩) v.secs.length (bV+3),.int .i64 (l.length:Int),.slice (some ⟨U.next,0,none⟩) k k]):=⟨_,rfl⟩;have m1:(U.add (.cells (HH k λ_=>.pointer none))).next=U.next+1:=AW.add_next _ _;have m2:U2.next=U.next+2:=by rw[hU2,AW.add_next,m1]
   have y1:U2.get (U.next+1)=some (.cells [.int .i64 v.sh,.int .i64 v.ttl,.int .i64 v.ses,.slice (some ⟨B,0,none⟩) v.secs.length (bV+3),.int .i64 (l.length:Int),.slice (some ⟨U.next,0,none⟩) k k]):=by rw[hU2,<-m1];exact AW.get_add _ _
   have y0:U2.get U.next=some (.cells (HH k λ_=>.pointer none)):=by rw[hU2,AW.get_add_ne _ _ (by rw[m1];omega)];exact AW.get_add _ _
   have leU:Le U U2:=by rw[hU2];exact((Le.refl _).add _).add _
   have hM5:∀Z:AW,Z.get (U.next+1)=U2.get (U.next+1)->aN (.pointer (some ⟨U.next+1,5,none⟩)) Z=some (.slice (some ⟨U.next,0,none⟩) k k,Z):=λZ hZ=>gY (bW (hZ.trans y1)) rfl
   have hva:(#[.int .i64 v.sh,.int .i64 v.ttl,.int .i64 v.ses,.slice (some ⟨B,0,none⟩) v.secs.length (bV+3),.int .i64 (l.length:Int),.slice (some ⟨U.next,0,none⟩) k k]:Array Value).toList=[.int .i64 v.sh,.int .i64 v.ttl,.int .i64 v.ses,.slice (some ⟨B,0,none⟩) v.secs.length (bV+3),.int .i64 (l.length:Int),.slice (some ⟨U.next,0,none⟩) k k]:=rfl;simp only[SX,hva,<-hU2,m1,aF,Nat.zero_add,hM5 U2 rfl,tE];refine a1T (W:=U2) (M:=U.next+1) (B:=U.next) (k:=k) (many:=l.length) hk16 ⟨by omega,by omega⟩ (by omega) (by omega) (hM5 U2 rfl) (λZ hZ=>hM5 Z hZ) (by omega) y0 (by exact r6') (by rfl) (by rfl) (by rfl) λQ U3 H A s q1 q2 q9 v1 v2 v3 v4 v5=>?_
   have q1':Q 1=rv:=q1.trans r1';have q2':Q 2=.pointer (some ⟨W.next,0,none⟩):=q2.trans r2;simp only[SX,q1',hrow.len nE];have le3:Le U U3:=⟨by omega,λb hb=>(v2 b (by omega) (by omega)).trans (leU.get b hb)⟩;have cnil:∀i,i<k->dD [] k i=[]:=λi hi=>by apply List.eq_nil_of_length_eq_zero;rw[fM];show(0+k-1-i)/k=0;exact Nat.div_eq_of_lt (by omega)
   let d0:Md:=⟨U.next+1,U.next,k,l.length,v,.slice (some ⟨B,0,none⟩) v.secs.length (bV+3),U,λ_=>0,H,λ_=>.slice none 0 0,A,s⟩;have hp0:MapP (λb=>U.next<=b) U3 d0 [] (λi=>bP [] (j4 k i)):=
    {up:=λb hb=>by show U.next<=b;omega,mc:=(v2 (U.next+1) (by omega) (by omega)).trans y1,ml:=by show U.next+1<U3.next;omega,kM:=by show U.next<=U.next+1;omega,sc:=v3,sl:=by show U.next<U3.next;omega,sk:=Nat.le_refl _,ne:=by show U.next≠U.next+1;omega,vk:=hk,kp:=⟨by show 1<=k;omega,hk16⟩,mn:=hl4,ll:=by show 0<=l.length;omega
     col:=λi hi=>.inl ⟨cnil i hi,rfl⟩,tk:=λi hi h0=>absurd (cnil i hi) h0,tt:=λi j hi hj h0=>absurd (cnil i hi) h0,ho:=λi hi=>(v4 i hi).1,al:=λi hi b hb=>((v4 i hi).2.2.2 b hb).2,ak:=λi hi b hb=>by show U.next<=b;have:=((v4 i hi).2.2.2 b hb).1;omega,am:=λi hi b hb=>by have:=((v4 i hi).2.2.2 b hb).1;exact⟨by show b≠U.next+1;omega,by show b≠U.next;omega⟩
     at_:=λi j hi hj h0=>absurd (cnil j hj) h0,aa:=λi j hi hj b h1 h2=>v5 i j hi hj b h1 h2,es:=λi hi=>by rw[show(d0.s i).es=[]from(v4 i hi).2.1];exact .refl _,w0:=le3,wk:=λb hb=>hb,secs:=hsecs}
   refine bI l.length (by omega) (λi Q Z=>Q 2=.pointer (some ⟨W.next,0,none⟩)/\Q 9=mV (U.next+1)/\Q 86=rv/\Q 87=.int .i64 (l.length:Int)/\Q 88=.int .i64 (i:Int)/\∃d:Md,d.M=U.next+1/\d.k=k/\d.many=l.length/\d.v=v/\d.W0=U/\Ld (λb=>U.next<=b) Z d (l.take i) (1+(i:Int)))
    (λr=>r.1=.exit 5/\r.2.1 9=mV (U.next+1)/\∃d:Md,d.M=U.next+1/\d.k=k/\d.many=l.length/\d.v=v/\d.W0=U/\Ld (λb=>U.next<=b) r.2.2 d l (1+(l.length:Int)))
    ⟨q2',q9,rfl,rfl,rfl,d0,rfl,rfl,rfl,rfl,rfl,λi hi=>by rw[show(d0.s i).nx=1 from(v4 i hi).2.2.1];decide,by rw[List.take_zero];exact hp0⟩ ?_ ?_ ?_
   ·rintro i Q' Z hi ⟨w2,w9,w86,w87,w88,d,x1,x2,x3,x4,x5,x6⟩;have hti:(l.take i).length=i:=by rw[List.length_take];omega
    have hZ:Le U Z:=by have:=x6.2.w0;rw[x5]at this;exact this
    obtain⟨b,o,-,i1,i3,-⟩:=SeL.get hrow (List.getElem?_eq_getElem hi);refine QK (K:=λb=>U.next<=b) (sv:=sv) (rv:=rv) (b:=W.next) (x:=l[i]) (n:=l.length) x6 (by omega) (by omega) (hok _ (List.getElem_mem hi)) ⟨_,by rw[hti];exact i1,i3 Z (u0.trans hZ)⟩ (λW' hW'=>by rw[x2];exact l0k W' (hZ.trans hW')) (by omega) w2 (by rw[x1];exact w9) w86 w87 (by rw[hti];exact w88) λQ2 Z2 d2 e2 e9 e86 e87 e88 y1 y2 y3 y4 y5 y6 y7=>?_
    refine .inl ⟨rfl,e2.trans w2,e9.trans w9,e86.trans w86,e87.trans w87,by show Q2 88=_;rw[e88,hti],d2,y1.trans x1,y2.trans x2,y3.trans x3,y4.trans x4,y5.trans x5,?_⟩;rw[List.take_succ_eq_append_getElem hi,show((i+1:Nat):Int)=(i:Int)+1 by omega,<-Int.add_assoc];exact y6
   ·rintro Q' Z ⟨w2,w9,w86,w87,w88,d,x1,x2,x3,x4,x5,x6⟩;unfold jU;have t1:¬((l.length:Int)<(l.length:Int)):=by omega
    rw[List.take_length]at x6;simp only[SX,w87,w88,t1,decide_false,aA];exact⟨by simp,trivial,w9,d,x1,x2,x3,x4,x5,x6⟩
   ·rintro⟨q,Q',Z⟩ ⟨rfl,w9,d,x1,x2,x3,x4,x5,x6⟩;simp only at w9 x6;simp only[SX,w9,aA];have hZ:Le U Z:=by have:=x6.2.w0;rw[x5]at this;exact this
    refine⟨U.next+1,U,rfl,u0,u0.trans hZ,d,x1,x2,x3,x4,x5,λi hi=>?_,rfl,hok,?_⟩
    ·have:=x6.1 i (by rw[x2];exact hi);omega
    ·have:=x6.2;rw[x2]at this;exact this
  obtain⟨⟨r,W'⟩,h1,M,W0,h2,h3,h4,h5⟩:=main;simp only at h2 h4 h5;subst h2;exact⟨M,W',W0,k,by rw[jR h1,cZ rfl],h3,h4,hk,h5⟩
end
theorem MapP.keep{K:Nat->Prop}{V V':AW}{d:Md}{l:List SeT}{e:Nat->List (Int×Int)}(h:MapP K V d l e)(hn:V.next<=V'.next)(g:∀b,b<V.next->K b->V'.get b=V.get b)(hw:Le d.W0 V'):MapP K V' d l e:=
 {h with up:=λb hb=>h.up b (by omega),mc:=(g _ h.ml h.kM).trans h.mc,ml:=by have:=h.ml;omega,sc:=(g _ h.sl h.sk).trans h.sc,sl:=by have:=h.sl;omega
         col:=λi hi=>(h.col i hi).keep hn λh0=>g _ ((h.col i hi).lt h0) (h.tk i hi h0).1,ho:=λi hi=>(h.ho i hi).keep hn (λb hb hx=>g b hb (h.ak i hi b hx)) (λb _ hx=>hx)
         al:=λi hi b hb=>by have:=h.al i hi b hb;omega
         w0:=hw}
theorem MapS.keep{K:Nat->Prop}{V V':AW}{M k many:Nat}{v:Ven}{W0:AW}{N:Int}{l:List SeT}(h:MapS K V M k many v W0 N l)(hn:V.next<=V'.next)(g:∀b,b<V.next->K b->V'.get b=V.get b)(hw:Le W0 V'):MapS K V' M k many v W0 N l:=by obtain⟨d,a,b,c,e,rfl,f,i,j,p⟩:=h;exact⟨d,a,b,c,e,rfl,f,i,j,p.keep hn g hw⟩
theorem MapS.w0{K:Nat->Prop}{V:AW}{M k many:Nat}{v:Ven}{W0:AW}{N:Int}{l:List SeT}(h:MapS K V M k many v W0 N l):Le W0 V:=by obtain⟨d,a,b,c,e,rfl,f,i,j,p⟩:=h;exact p.w0
theorem a1V(a b:Int)(W:AW):aD Tryz.prog .max #[3,3] 3 #[false,true] [.int .i64 a,.int .i64 b] W=some (.int .i64 (max a b),W):=by
 have e:aD Tryz.prog .max #[3,3] 3 #[false,true] [.int .i64 a,.int .i64 b] W=(iU Tryz.prog ([Value.int .i64 a,.int .i64 b].all aU) (builtin .max #[3,3] 3 #[false,true] #[.int .i64 a,.int .i64 b])).map λv=>(v,W):=by unfold aD;rfl
 rw[e];have e2:builtin .max #[3,3] 3 #[false,true] #[.int .i64 a,.int .i64 b]=(do pure (.value (<-Builtin.max_ #[3,3] 3 #[.int .i64 a,.int .i64 b]))):=rfl;rw[e2];refine zL ?_ rfl _ rfl;unfold Builtin.max_;simp only[List.foldlM_cons,List.foldlM_nil,cW,Builtin.max2,dG,Option.bind_some];congr 2;split<;>omega
theorem a2j(a b:Int)(W:AW):aD Tryz.prog .min #[3,3] 3 #[false,true] [.int .i64 a,.int .i64 b] W=some (.int .i64 (min a b),W):=by
 have e:aD Tryz.prog .min #[3,3] 3 #[false,true] [.int .i64 a,.int .i64 b] W=(iU Tryz.prog ([Value.int .i64 a,.int .i64 b].all aU) (builtin .min #[3,3] 3 #[false,true] #[.int .i64 a,.int .i64 b])).map λv=>(v,W):=by unfold aD;rfl
 rw[e];have e2:builtin .min #[3,3] 3 #[false,true] #[.int .i64 a,.int .i64 b]=(do pure (.value (<-Builtin.min_ #[3,3] 3 #[.int .i64 a,.int .i64 b]))):=rfl;rw[e2];refine zL ?_ rfl _ rfl;unfold Builtin.min_;simp only[List.foldlM_cons,List.foldlM_nil,cW,Builtin.min2,dG,Option.bind_some];congr 2;split<;>omega
theorem WS(s:ByteArray)(W:AW):∃n:Int,aD Tryz.prog .len #[9] 3 #[false] [.string s] W=some (.int .i64 n,W):=⟨_,rfl⟩
theorem BR:((#[69]:Array TypeId)[0]?).bind Tryz.prog.underlying=some (.slice 3):=by kernel_rfl
theorem a2A(W:AW):∃V,bF Tryz.prog 130 W=some (.pointer (some ⟨W.next,0,none⟩),V)/\Le W V/\V.next=W.next+1/\V.get W.next=some (.cells [.string (aJ []),.slice none 0 0,.int .i64 0]):=⟨_,a0X W,(Le.refl _).add _,AW.add_next _ _,AW.get_add _ _⟩
def YY(v:Ven)(l:List SeT):Prop:=v.secs.length<=10/\l.length<=100/\∀s∈v.secs,s.rows.length<=20
theorem a02{W:AW}{v:Ven}{sv rv:Value}{l:List SeT}(hs:Secs W sv v.secs)(hr:SeL W rv l):∃c:Bool,aK (.func (.func 15) #[] #[]) [qO v sv,rv] W=some (.bool c,W)/\(c=false->YY v l):=by
 have main:Ok (xQ aK (qO v sv) rv W) λr=>∃c:Bool,r.1=.bool c/\Le W r.2/\(c=false->YY v l):=by
  unfold xQ;obtain⟨W1,k1,k2,k3,k4⟩:=G0 v sv W;have c3:∀U,Le W1 U->aN (.pointer (some ⟨W.next,3,none⟩)) U=some (sv,U):=λU hU=>gY (bW ((hU.get _ (by omega)).trans k4)) rfl
  by_cases h10:10<(v.secs.length:Int)
  ·have d1:=decide_eq_true h10;simp only[SX,E7,E0,k1,c3 W1 (Le.refl _),hs.len yE,d1,aA];exact⟨_,rfl,k2,λx=>by cases x⟩
  have d1:=decide_eq_false h10;by_cases h100:100<(l.length:Int)
  ·have d2:=decide_eq_true h100;simp only[SX,E7,E0,k1,Nat.zero_add,c3 W1 (Le.refl _),hs.len yE,d1,hr.len nE,d2,aA];exact⟨_,rfl,k2,λx=>by cases x⟩
  have d2:=decide_eq_false h100;simp only[SX,E7,E0,k1,Nat.zero_add,c3 W1 (Le.refl _),hs.len yE,d1,hr.len nE,d2];refine bI v.secs.length (by omega) (λi R U=>Le W1 U/\R 2=.pointer (some ⟨W.next,0,none⟩)/\R 6=.int .i64 (i:Int)/\(∀j (hj:j<v.secs.length),j<i->v.secs[j].rows.length<=20)/\∃n:Int,R 5=.int .i64 n/\0<=n/\n<=(i:Int)*2000)
   (λr=>Le W1 r.2.2/\((r.1=.exit 0/\(∀s∈v.secs,s.rows.length<=20)/\∃n:Int,r.2.1 5=.int .i64 n)\/(r.1=.ret/\r.2.1 4=.bool true))) ⟨Le.refl _,rfl,rfl,λj hj hx=>by omega,0,rfl,by omega,by omega⟩ ?_ ?_ ?_
  ·rintro i R U hi ⟨u1,r2,r6,hsm,n,r5,n0,n1⟩;unfold pB;have t1:((i:Int)<(v.secs.length:Int)):=by omega
   have t2:=λW'=>aX (P:=Tryz.prog) (W:=W') (t:=3) (c:=false) (d:=true) (a:=(i:Int)) (b:=1) (by omega) (by omega)
   have e3:((i+1:Nat):Int)=(i:Int)+1:=by omega
   obtain⟨b,o,rv',i1,i2,i3,-⟩:=Secs.get hs hi;obtain⟨U1,a1,a2,a3,a4⟩:=a2A U;have hst:=xZ (n:=3) (o:=0) (v:=K4 v.secs[i] rv') a4 rfl (Nat.le_refl _) (by show(true&&(Eng.one rv'&&(true&&true)))=true;obtain⟨a,c,rfl,-⟩:=i2;rfl);have hst':eY 3 (.pointer (some ⟨U.next,0,none⟩)) (K4 v.secs[i] rv') U1=some (undef,U1.put U.next (.cells [.string (aJ v.secs[i].name),rv',.int .i64 v.secs[i].q])):=hst;obtain⟨U2,hU2⟩:∃U2,U2=U1.put U.next (.cells [.string (aJ v.secs[i].name),rv',.int .i64 v.secs[i].q]):=⟨_,rfl⟩;rw[<-hU2]at hst';have l2:Le U U2:=by rw[hU2];exact a2.put (Nat.le_refl _) _
   have n2:U2.next=U.next+1:=by rw[hU2];exact a3
   have g2:U2.get U.next=some (.cells [.string (aJ v.secs[i].name),rv',.int .i64 v.secs[i].q]):=by rw[hU2];exact AW.get_put _ _ _
   have x0:aN (.pointer (some ⟨U.next,0,none⟩)) U2=some (.string (aJ v.secs[i].name),U2):=gY (bW g2) rfl;have x1:∀Z,Le U2 Z->aN (.pointer (some ⟨U.next,1,none⟩)) Z=some (rv',Z):=λZ hZ=>gY (bW ((hZ.get _ (by omega)).trans g2)) rfl
   obtain⟨m,hm⟩:=WS (aJ v.secs[i].name) U2;have hWU:=k2.trans u1;by_cases c20:20<(v.secs[i].rows.length:Int)
   ·have d3:=decide_eq_true c20;simp only[SX,E7,E0,r2,r6,Nat.zero_add,c3 U u1,hs.len yE,t1,decide_true,i1,i3 U hWU,a1,hst',x1 U2 (Le.refl _),i2.len BR,d3,aA];exact .inr ⟨by simp,u1.trans l2,.inr ⟨trivial,rfl⟩⟩
   have d3:=decide_eq_false c20;cases d4:decide (100<m)with
   |true=>simp only[SX,E7,E0,r2,r6,Nat.zero_add,c3 U u1,hs.len yE,t1,decide_true,i1,i3 U hWU,a1,hst',x1 U2 (Le.refl _),i2.len BR,d3,x0,hm,d4,aA];exact .inr ⟨by simp,u1.trans l2,.inr ⟨trivial,rfl⟩⟩
   |false=>
    simp only[SX,E7,E0,r2,r6,Nat.zero_add,c3 U u1,hs.len yE,t1,decide_true,i1,i3 U hWU,a1,hst',x1 U2 (Le.refl _),i2.len BR,d3,x0,hm,d4];refine bI v.secs[i].rows.length (by omega) (λj Q Z=>Z=U2/\Q 2=.pointer (some ⟨W.next,0,none⟩)/\Q 6=.int .i64 (i:Int)/\Q 7=.pointer (some ⟨U.next,0,none⟩)/\Q 8=.int .i64 (j:Int)/\∃n:Int,Q 5=.int .i64 n/\0<=n/\n<=(i:Int)*2000+(j:Int)*100)
     (λr=>r.1=.exit 2/\r.2.2=U2/\r.2.1 2=.pointer (some ⟨W.next,0,none⟩)/\r.2.1 6=.int .i64 (i:Int)/\∃n:Int,r.2.1 5=.int .i64 n/\0<=n/\n<=(i:Int)*2000+2000) ⟨rfl,r2,r6,rfl,rfl,n,r5,n0,by omega⟩ ?_ ?_ ?_
    ·rintro j Q Z hj ⟨rfl,q2,q6,q7,q8,n',q5,m0,m1⟩;unfold lY;have t3:((j:Int)<(v.secs[i].rows.length:Int)):=by omega
     have t4:=λW'=>aX (P:=Tryz.prog) (W:=W') (t:=3) (c:=false) (d:=true) (a:=(j:Int)) (b:=1) (by omega) (by omega)
     have e4:((j+1:Nat):Int)=(j:Int)+1:=by omega
     obtain⟨p0,y1,y2⟩:=i2.get hj;generalize v.secs[i].rows[j]=y at *;have hz:0<=min (max y 0) 100/\min (max y 0) 100<=100:=by omega
     have t5:=λW'=>aX (P:=Tryz.prog) (W:=W') (t:=3) (c:=false) (d:=false) (a:=n') (b:=min (max y 0) 100) (by omega) (by omega)
     simp only[SX,q5,q7,q8,x1 Z (Le.refl _),Nat.zero_add,i2.len BR,t3,decide_true,y1,y2 Z (hWU.trans l2),a1V,a2j,t5,t4,aA];exact .inl ⟨trivial,trivial,q2,q6,q7,by rw[e4];rfl,_,rfl,by omega,by omega⟩
    ·rintro Q Z ⟨rfl,q2,q6,q7,q8,n',q5,m0,m1⟩;unfold lY;have t3:¬((v.secs[i].rows.length:Int)<(v.secs[i].rows.length:Int)):=by omega
     simp only[SX,q7,q8,x1 Z (Le.refl _),Nat.zero_add,i2.len BR,t3,decide_false,aA];exact⟨by simp,trivial,trivial,q2,q6,n',q5,m0,by omega⟩
    ·rintro⟨q,Q,Z⟩ ⟨rfl,rfl,q2,q6,n',q5,m0,m1⟩;simp only at q2 q6 q5;simp only[SX,q6,t2,aA];refine .inl ⟨trivial,u1.trans l2,q2,by rw[e3];rfl,λj hj hx=>?_,n',q5,m0,by omega⟩;by_cases c:j=i
     ·subst c;omega
     ·exact hsm j hj (by omega)
  ·rintro R U ⟨u1,r2,r6,hsm,n,r5,n0,n1⟩;unfold pB;have t1:¬((v.secs.length:Int)<(v.secs.length:Int)):=by omega
   simp only[SX,r2,r6,Nat.zero_add,c3 U u1,hs.len yE,t1,decide_false,aA];refine⟨by simp,u1,.inl ⟨trivial,λs hs'=>?_,n,r5⟩⟩;obtain⟨j,hj,rfl⟩:=List.mem_iff_getElem.1 hs';exact hsm j hj hj
  ·rintro⟨q,R,U⟩ ⟨u1,hq⟩;simp only at u1 hq;rcases hq with⟨rfl,hsm,n,r5⟩|⟨rfl,r4⟩
   ·simp only[SX,r5,aA];exact⟨_,rfl,k2.trans u1,λ_=>⟨by omega,by omega,hsm⟩⟩
   ·simp only[SX,r4,aA];exact⟨true,rfl,k2.trans u1,λx=>by cases x⟩
 obtain⟨⟨r,W'⟩,h1,c,h2,h3,h4⟩:=main;simp only at h2 h3;subst h2;exact⟨c,aM rfl ⟨_,h1,rfl,h3⟩ HA,h4⟩
def a28(n:Nat):List SeT:=List.replicate n DF
section
variable {W:AW} {v:Ven} {sv rv:Value} {l:List SeT}
end
structure Both (K:Nat->Prop) (V:AW) (Wa:AW) (M k:Nat) (v:Ven) (sv rv:Value) (W0:AW) (N:Int) (l:List SeT):Prop where
 map:MapS K V M k l.length v W0 N l
 low:Le Wa W0
 secs:SecsC Wa sv v.secs
 s1:Sl sv
 r1:Sl rv
 np:∃a n c,rv=.slice (some a) n c
 row:∀V',Gr V V' K->SeL V' rv l
 i64:WW l
 ve:(pD v).2=0
 tot:(l.length:Int)=c9 v.secs
section
variable {K:Nat->Prop} {V Wa:AW} {M k:Nat} {v:Ven} {sv rv:Value} {W0:AW} {N:Int} {l:List SeT}
theorem Both.vk(h:Both K V Wa M k v sv rv W0 N l):v.sh=(k:Int):=h.map.vk
theorem Both.le(h:Both K V Wa M k v sv rv W0 N l){V':AW}(hl:Le V V'):Both (λb=>K b/\b<V.next\/V'.next<=b) V' Wa M k v sv rv W0 N l:=
 {h with map:=h.map.shift hl,row:=λV2 g=>h.row V2 ⟨Nat.le_trans hl.next g.next,λb hb hn=>by
   rw[g.get b (Nat.lt_of_lt_of_le hb hl.next) λc=>by
    rcases c with c|c
    ·exact hn c.1
    ·have:=hl.next;omega];exact hl.get b hb⟩}
theorem Both.out(h:Both K V Wa M k v sv rv W0 N l){b:Nat}(hb:¬K b)(hw:V.next<=b->False)(hlo:W0.next<=b)(o:AObj)(hr:∀V',Gr (V.put b o) V' K->SeL V' rv l):Both K (V.put b o) Wa M k v sv rv W0 N l:=
 {h with map:=h.map.keep (Nat.le_refl _) (λc _ hc=>AW.get_put_ne _ _ λe=>hb (by rw[e];exact hc)) (h.map.w0.put hlo o),row:=hr}
end
structure CaT where
 what:Int
 at_:Int
 now:Int
 s:SeT
abbrev caC(x:CaT):List Value:=.int .u8 x.what::.int .i64 x.at_::.int .i64 x.now::dU x.s
abbrev caV(x:CaT):Value:=.agg #[.int .u8 x.what,.int .i64 x.at_,.int .i64 x.now,.int .i64 x.s.st,.int .u32 x.s.ow,.int .i64 x.s.dl,.int .u64 x.s.se,.int .u64 x.s.ep]
section
variable {K:Nat->Prop} {V Wa:AW} {M k:Nat} {v:Ven} {sv rv:Value} {W0:AW} {N:Int} {l:List SeT}
theorem Both.stay(h:Both K V Wa M k v sv rv W0 N l){V1 V2:AW}{rv':Value}{l':List SeT}(l1:Le V V1)(l2:Le V1 V2)(hc:(rv'=rv/\l'=l)\/BlS V1.next V2 rv' l'){V':AW}(hn:V2.next<=V'.next)(g:∀b,b<V2.next->(b<V.next/\¬K b\/V1.next<=b)->V'.get b=V2.get b):SeL V' rv' l':=by
 rcases hc with⟨rfl,rfl⟩|hc
 ·refine h.row V' ⟨Nat.le_trans (l1.trans l2).next hn,λb hb hk=>?_⟩;rw[g b (Nat.lt_of_lt_of_le hb (l1.trans l2).next) (.inl ⟨hb,hk⟩)];exact(l1.trans l2).get b hb
 ·exact(hc.keep hn λb h1 h2=>g b h2 (.inr h1)).row
end
def a3Z(l:List SeT)(k:Nat)(x:CaT)(d:List (Int×Int)):List SeT:=if x.what.tmod 8=0\/x.what.tmod 8=1\/x.what.tmod 8=2 then a2x l x.at_ x.s else if x.what.tmod 8=6 then dW l x.now d else l
section
variable {K:Nat->Prop} {V Wa:AW} {M k:Nat} {v:Ven} {sv rv:Value} {W0:AW} {N:Int} {l:List SeT}
theorem Both.done(h:Both K V Wa M k v sv rv W0 N l){V1 V2 V3 V4:AW}{rv':Value}{l':List SeT}{N':Int}(l1:Le V V1)(l2:Le V1 V2)(l3:Le V2 V3)(hc:(rv'=rv/\l'=l)\/BlS V1.next V2 rv' l')(hr:Sl rv')(hnp:∃a n c,rv'=.slice (some a) n c)(hlen:l'.length=l.length)(h64:WW l')
 (hm:MapS (λb=>K b/\b<V.next\/V3.next<=b) V4 M k l.length v W0 N' l')(g:Gr V3 V4 λb=>K b/\b<V.next\/V3.next<=b){r:Nat}(hr1:V.next<=r)(hr2:r<V1.next)(o:AObj):
 Both (λb=>K b/\b<V.next\/V3.next<=b) (V4.put r o) Wa M k v sv rv' W0 N' l'/\Gr V (V4.put r o) K/\∀b,b<V.next->(K b/\b<V.next\/V3.next<=b)->K b:=by
 have n1:=l1.next;have n2:=l2.next;have n3:=l3.next;have n4:=g.next;have hw0:=h.map.w0.next;have keep:∀b,b<V3.next->(b<V.next/\¬K b\/V.next<=b)->V4.get b=V3.get b:=λb hb hk=>g.get b hb λc=>by
  rcases c with c|c
  ·rcases hk with hk|hk
   ·exact hk.2 c.1
   ·omega
  ·omega
 refine⟨{map:=?_,low:=h.low,secs:=h.secs,s1:=h.s1,r1:=hr,np:=hnp,row:=?_,i64:=h64,ve:=h.ve,tot:=by rw[hlen];exact h.tot},?_,?_⟩
 ·rw[hlen];exact hm.keep (Nat.le_refl _) (λb hb hk=>AW.get_put_ne _ _ λe=>by subst e;rcases hk with hk|hk<;>omega) (hm.w0.put (by omega) o)
 ·intro V' g';have hn':=g'.next;rw[AW.put_next]at hn';refine h.stay l1 l2 hc (by omega) λb hb hk=>?_
  have hnk:¬(K b/\b<V.next\/V3.next<=b):=λc=>by
   rcases c with c|c
   ·rcases hk with hk|hk
    ·exact hk.2 c.1
    ·omega
   ·omega
  have hbr:b≠r\/b<V.next:=by
   rcases hk with hk|hk
   ·exact .inr hk.1
   ·exact .inl (by omega)
  rw[g'.get b (by rw[AW.put_next];omega) hnk,AW.get_put_ne _ _ (by omega),keep b (by omega) (by
   rcases hk with hk|hk
   ·exact .inl hk
   ·exact .inr (by omega))];exact l3.get b hb
 ·refine⟨by rw[AW.put_next];omega,λb hb hk=>?_⟩;rw[AW.get_put_ne _ _ (by omega),keep b (by omega) (.inl ⟨hb,hk⟩)];exact((l1.trans l2).trans l3).get b hb
 ·intro b hb hk;rcases hk with hk|hk
  ·exact hk.1
  ·omega
end
def a2g(cs:List Value)(p:Nat)(x:CaT):Prop:=(cs.drop p).take 8=caC x
abbrev CaL(W:AW)(v:Value)(l:List CaT):Prop:=Row W 8 a2g v l
theorem CaL.get{W:AW}{v:Value}{l:List CaT}(h:CaL W v l){i:Nat}(hi:i<l.length):∃p,(∀W' k,eZ 8 v (.int k (i:Int)) W'=some (p,W'))/\∀W',Le W W'->dS 8 p W'=some (caV l[i],W'):=by obtain⟨b,o,cs,h1,h2,h3,h4⟩:=h.elem hi;refine⟨_,h1,λW' hle=>?_⟩;have h5:(cs.drop o).take 8=caC l[i]:=h4;rw[rY,hle.cellsAt h2,h3];simp only[Option.bind_some,h5];rfl
def YF(v:Value):Prop:=∃a n c,v=.slice a n c
theorem WE{V:AW}{c:Nat}{v':Ven}{sv' rv' rv:Value}{l:List SeT}(h1:YF sv')(h2:YF rv')(h:SeL (V.put c (.cells (YD v' sv' rv'))) rv l):SeL V rv l:=by
 obtain⟨a,cc,rfl,hr⟩:=h;rcases hr with hr|⟨B,o,cs,rfl,q1,q2,q3⟩
 ·exact⟨a,cc,rfl,.inl hr⟩
 ·by_cases hl:l=[]
  ·exact⟨_,cc,rfl,.inl hl⟩
  ·have hne:B≠c:=λe=>by
    subst e;have hcs:cs=YD v' sv' rv':=by unfold cellsAt at q2;rw[AW.get_put]at q2;simp only at q2;injection q2 with q2;exact q2.symm
    obtain⟨-,h3,-⟩:=q3 0 (List.length_pos_iff.2 hl);rw[hcs]at h3;obtain⟨a1,n1,c1,rfl⟩:=h1;obtain⟨a2,n2,c2,rfl⟩:=h2;have ho:o+0*5+1<5:=by apply Classical.byContradiction;intro x;rw[List.getElem?_eq_none (by show 5<=_;omega)]at h3;cases h3
    rcases(by omega:o=0\/o=1\/o=2\/o=3)with rfl|rfl|rfl|rfl<;>simp at h3
   refine⟨_,cc,rfl,.inr ⟨B,o,cs,rfl,q1,?_,q3⟩⟩;unfold cellsAt at q2|-;rw[AW.get_put_ne _ _ (λe=>hne e.symm)]at q2;exact q2
section
variable {K:Nat->Prop} {V Wa:AW} {M k:Nat} {v:Ven} {sv rv:Value} {W0:AW} {N:Int} {l:List SeT}
theorem Both.box(h:Both K V Wa M k v sv rv W0 N l){c:Nat}{v':Ven}{sv' rv':Value}(h1:YF sv')(h2:YF rv')(hc:V.get c=some (.cells (YD v' sv' rv')))(hk:¬K c)(hlo:W0.next<=c)(o:AObj):Both K (V.put c o) Wa M k v sv rv W0 N l:=
 {h with
  map:=h.map.keep (Nat.le_refl _) (λb _ hb=>AW.get_put_ne _ _ λe=>hk (by rw[e];exact hb)) (h.map.w0.put hlo o)
  row:=λV' g=>by
   refine WE h1 h2 (h.row (V'.put c (.cells (YD v' sv' rv'))) ⟨g.next,λb hb hn=>?_⟩);by_cases e:b=c
   ·subst e;rw[AW.get_put,hc]
   ·rw[AW.get_put_ne _ _ (λx=>e x.symm),g.get b hb hn,AW.get_put_ne _ _ (λx=>e x.symm)]}
end
end Go.Proofs.YtnigceddndemkaaGreatDoor.Ho
namespace Go.Proofs.YtnigceddndemkaaGreatDoor.Ho
open Go Go.Eng Go.RowKit
set_option maxRecDepth 100000
theorem ZO{W:AW}{n:Nat}{c:List Value}(h:DR Tryz.prog W (n+3) 130 c):∃s:Sec,∀pre post,ND W (pre++(c++post)) pre.length s:=by
 obtain⟨c1,c2,rfl,h1,h2⟩:=(h.struct Tryz.underlying130).cons;obtain⟨c3,c4,rfl,h3,h4⟩:=h2.cons;obtain⟨c5,c6,rfl,h5,h6⟩:=h4.cons;obtain rfl:=h6.nil;obtain⟨s,rfl,_⟩:=h1.str Tryz.underlying9;obtain⟨rv,zs,rfl,hz,_⟩:=h3.ints Tryz.underlying69 Tryz.underlying3 (by kernel_rfl);obtain⟨q,rfl⟩:=h5.int Tryz.underlying3;refine⟨⟨s.data.toList,zs,q⟩,λpre post=>⟨?_,?_,rv,?_,hz⟩⟩
 ·rw[List.getElem?_append_right (by omega),JQ];simp
 ·rw[List.getElem?_append_right (by omega),Nat.add_sub_cancel_left];rfl
 ·rw[List.getElem?_append_right (by omega),Nat.add_sub_cancel_left];rfl
theorem a0r{W:AW}{n:Nat}{c:List Value}(h:DR Tryz.prog W (n+5) 24 c):∃(v:Ven) (sv:Value),c=[.int .i64 v.sh,.int .i64 v.ttl,.int .i64 v.ses,sv]/\SecsC W sv v.secs:=by obtain⟨c1,c2,rfl,h1,h2⟩:=(h.struct Tryz.underlying24).cons;obtain⟨c3,c4,rfl,h3,h4⟩:=h2.cons;obtain⟨c5,c6,rfl,h5,h6⟩:=h4.cons;obtain⟨c7,c8,rfl,h7,h8⟩:=h6.cons;obtain rfl:=h8.nil;obtain⟨a,rfl⟩:=h1.int Tryz.underlying3;obtain⟨b,rfl⟩:=h3.int Tryz.underlying2;obtain⟨d,rfl⟩:=h5.int Tryz.underlying2;obtain⟨sv,l,rfl,r1,a',c',r2,r3,r4,r5⟩:=h7.row Tryz.underlying22 (at_:=ND W) (λc _ hc=>ZO hc);exact⟨⟨a,b,d,l⟩,sv,rfl,r1,a',c',r2,.inl ⟨r3,r4⟩,r5⟩
theorem a2c{W:AW}{n:Nat}{c:List Value}(h:DR Tryz.prog W (n+2) 38 c):∃x:SeT,c=dU x/\x.dl<=9223372036854775807:=by obtain⟨c1,r1,rfl,h1,h⟩:=(h.struct Tryz.underlying38).cons;obtain⟨c2,r2,rfl,h2,h⟩:=h.cons;obtain⟨c3,r3,rfl,h3,h⟩:=h.cons;obtain⟨c4,r4,rfl,h4,h⟩:=h.cons;obtain⟨c5,r5,rfl,h5,h⟩:=h.cons;obtain rfl:=h.nil;obtain⟨x1,rfl⟩:=h1.int Tryz.underlying3;obtain⟨x2,rfl⟩:=h2.int Tryz.underlying35;obtain⟨x3,rfl,-,hb⟩:=h3.intB Tryz.underlying2;obtain⟨x4,rfl⟩:=h4.int Tryz.underlying36;obtain⟨x5,rfl⟩:=h5.int Tryz.underlying36;exact⟨⟨x1,x2,x3,x4,x5⟩,rfl,hb⟩
theorem PB{α:Type}{W:AW}{z:Nat}{f:List Value->Nat->α->Prop}{p:α->Prop}{v:Value}{l:List α}(h:Row W z (λcs q x=>f cs q x/\p x) v l):Row W z f v l/\∀x∈l,p x:=by
 obtain⟨a,c,rfl,hr⟩:=h;rcases hr with rfl|⟨b,o,cs,h1,h2,h3,h4⟩
 ·exact⟨⟨a,c,rfl,.inl rfl⟩,λx hx=>by simp at hx⟩
 ·refine⟨⟨a,c,rfl,.inr ⟨b,o,cs,h1,h2,h3,λi hi=>(h4 i hi).1⟩⟩,λx hx=>?_⟩;obtain⟨i,hi,rfl⟩:=List.mem_iff_getElem.1 hx;exact(h4 i hi).2
theorem a3c:Tryz.prog.cellsOf 38=5:=by kernel_rfl
theorem VF{W:AW}{n:Nat}{c:List Value}(h:DR Tryz.prog W (n+3) 25 c):∃(v:Value) (l:List SeT),c=[v]/\SeL W v l/\WW l:=by obtain⟨v,l,rfl,hr,-⟩:=h.row Tryz.underlying25 (at_:=λcs q x=>Y1 cs q x/\x.dl<=9223372036854775807) (λc _ hc=>by obtain⟨x,rfl,hb⟩:=a2c hc;exact⟨x,λpre post=>⟨FZ x pre post,hb⟩⟩);rw[a3c]at hr;obtain⟨h1,h2⟩:=PB hr;exact⟨v,l,rfl,h1,h2⟩
section
variable {H:Type} {enc:TypeId×Value->H} {w:World} {σ:bM} {W:AW} {v0:Value} {d:DataW H} {p:List MemPlace} {r:Reach} {b0:Nat}
theorem UB{t:TypeId}{fs:Array Field}(ht:Tryz.prog.underlying t=some (.struct fs))(hv:Value.okWide Tryz.prog w r b0 t v0):∃cs,v0=.agg cs:=by unfold Value.okWide at hv;rw[ht]at hv;obtain⟨cs,h,_⟩:=hv;exact⟨cs,h⟩
theorem SH{t e:TypeId}(ht:Tryz.prog.underlying t=some (.slice e))(hv:Value.okWide Tryz.prog w r b0 t v0):∃a n c,v0=.slice a n c:=by
 unfold Value.okWide at hv;rw[ht]at hv;simp only at hv;unfold Cell.okWide at hv;rw[ht]at hv;cases v0 with
 |slice a l c=>exact⟨a,l,c,rfl⟩
 |_=>simp only[Cell.ok,ht]at hv
theorem a2D:MZ Tryz.prog 6 24=true:=by kernel_rfl
theorem a1G:MZ Tryz.prog 6 25=true:=by kernel_rfl
theorem openVen(ho:Opened σ W w)(hv:Value.okWide Tryz.prog w r b0 24 v0)(h:DataW.Trod enc Tryz.prog w 0 (λ_=>true) true 24 v0 d p):
 ∃(σ2:bM) (W2:AW) (v:Ven) (sv:Value),Opened σ2 W2 w/\Sub σ σ2/\Le W W2/\VR σ2 (qO v sv) v0/\SecsC W2 sv v.secs:=by
 obtain⟨cs,rfl⟩:=UB Tryz.underlying24 hv;obtain⟨m,hm⟩:=h;obtain⟨σ2,W2,cs2,o2,s2,l2,r2,a2⟩:=tJ a2D hm σ W ho;obtain⟨v,sv,rfl,hs⟩:=a0r a2;exact⟨σ2,W2,v,sv,o2,s2,l2,.agg' (a:=#[.int .i64 v.sh,.int .i64 v.ttl,.int .i64 v.ses,sv]) r2,hs⟩
theorem openSeats(ho:Opened σ W w)(hv:Value.okWide Tryz.prog w r b0 25 v0)(h:DataW.Trod enc Tryz.prog w 0 (λ_=>true) true 25 v0 d p):
 ∃(σ2:bM) (W2:AW) (l:List SeT) (u:Value),Opened σ2 W2 w/\Sub σ σ2/\Le W W2/\VR σ2 u v0/\SeL W2 u l/\WW l:=by
 obtain⟨a,n,c,rfl⟩:=SH Tryz.underlying25 hv;obtain⟨m,hm⟩:=h;obtain⟨σ2,W2,cs2,o2,s2,l2,r2,a2⟩:=tJ a1G hm σ W ho;obtain⟨u,l,rfl,hr,hb⟩:=VF a2;exact⟨σ2,W2,l,u,o2,s2,l2,r2.2 0 _ _ rfl rfl,hr,hb⟩
end
theorem liftV{σ σ':bM}(hs:Sub σ σ'){v v':Value}(h:VR σ v v'):VR σ' v v':=h.mono hs
theorem kidsT:Kids Tryz.prog (· <Tryz.prog.types.size):=kids_rows (by kernel_rfl) (by kernel_rfl)
theorem fullT:∀t e,t<Tryz.prog.types.size->Tryz.prog.underlying t=some (.slice e)->0<Tryz.prog.cellsOf e:=slices_full_of Tryz.prog (by kernel_rfl)
noncomputable def globW:List (Nat×List Value):=[(5,[])]
theorem openG{w:World}(hl:EY globW w.heap):Opened (σG globW) (WG globW 6) w:=⟨Z9 rfl hl,X4,5,_,rfl⟩
theorem open_calls(hok:aS Tryz.prog PlanTab.ng aK){w:World}{σ:bM}{W:AW}(ho:Opened σ W w){i:Nat}{args args':List Value}(hr:LR σ args args')(h:aK (.func (.func i) #[] #[]) args W=some (.bool true,W)):
 Calls Tryz.prog i args'.toArray w λe w'=>e=.returned (.bool true)/\Quiet w w':=
 T9 hok ho.rel (λg hg=>by cases hg) ho.ro hr rfl h
end Go.Proofs.YtnigceddndemkaaGreatDoor.Ho
namespace Go.Proofs.YtnigceddndemkaaGreatDoor.Ho
open Go Go.Eng Go.Hp
set_option maxRecDepth 100000
theorem L8(l:List SeT)(p:Nat->Bool):((bP l p).map (·.1)).Nodup:=by unfold bP;rw[List.map_map];refine List.Pairwise.map (R:=λa b:Nat=>a≠b) _ ?_ (List.nodup_range.filter _);intro a b h e;have:(a:Int)=(b:Int):=e;omega
theorem ET{l:List SeT}{p:Nat->Bool}{now:Int}{d:List (Int×Int)}(h:gO (bP l p) now d):(d.map (·.1)).Nodup:=
 ((h.2.map (·.1)).nodup_iff).2 ((L8 l p).sublist (List.filter_sublist.map _))
theorem AN{l:List SeT}{p:Nat->Bool}{now:Int}{d:List (Int×Int)}(h:gO (bP l p) now d){x:Int×Int}:x∈d<->∃s,s<l.length/\p s=true/\(j0 l s).st=1/\(j0 l s).dl<=now/\x=A5 l s:=by
 rw[h.2.mem_iff,List.mem_filter,qY];constructor
 ·rintro⟨⟨j,h1,h2,h3,rfl⟩,h4⟩;exact⟨j,h1,h2,h3,of_decide_eq_true h4,rfl⟩
 ·rintro⟨j,h1,h2,h3,h4,rfl⟩;exact⟨⟨j,h1,h2,h3,rfl⟩,decide_eq_true h4⟩
theorem M0(now:Int):∀(d:List (Int×Int)) (l:List SeT),(∀h∈d,∃s:Nat,h.1=(s:Int)/\s<l.length)->(d.map (·.1)).Nodup->∀j,j0 (dW l now d) j=if(j:Int)∈d.map (·.1)then rJ (j0 l j) now else j0 l j
 |[],l,_,_,j=>by simp[dW]
 |h::d,l,hd,hn,j=>by
  obtain⟨s,hs,hl⟩:=hd h (List.mem_cons_self ..);rw[List.map_cons,List.nodup_cons]at hn;have hlen:(A7 now l h).length=l.length:=by unfold A7;rw[List.length_set]
  have ih:=M0 now d (A7 now l h) (λx hx=>by rw[hlen];exact hd x (List.mem_cons_of_mem _ hx)) hn.2 j;show j0 (dW (A7 now l h) now d) j=_;rw[ih];have e1:j0 (A7 now l h) j=if j=s then rJ (j0 l s) now else j0 l j:=by unfold A7;rw[hs,Int.toNat_natCast,uX hl]
  rw[e1,List.map_cons];by_cases c:j=s
  ·subst c;have:¬((j:Int)∈d.map (·.1)):=by rw[<-hs];exact hn.1
   rw[if_neg this,if_pos rfl,if_pos (by rw[<-hs];exact List.mem_cons_self ..)]
  ·rw[if_neg c];by_cases c2:(j:Int)∈d.map (·.1)
   ·rw[if_pos c2,if_pos (List.mem_cons_of_mem _ c2)]
   ·rw[if_neg c2,if_neg];intro x;rcases List.mem_cons.1 x with x|x
    ·rw[hs]at x;omega
    ·exact c2 x
theorem KG{x:SeT}{now:Int}(h1:o7 x=0)(h2:0<=now)(h3:x.st=1)(h4:x.dl<=now):rJ x now=oX x:=by
 have t1:PA x now=0:=by unfold PA;rw[if_pos h1,if_neg (by omega)]
 have t2:Q8 x 1=0:=by unfold Q8;rw[if_pos h1,if_pos h3]
 unfold rJ;rw[if_pos];unfold B3;rw[if_neg (λc=>c t1),if_neg (λc=>c t2),if_pos h4]
section
variable {l:List SeT} {p:Nat->Bool} {now:Int} {d:List (Int×Int)}
theorem NM(hd:gO (bP l p) now d):∀h∈d,∃s:Nat,h.1=(s:Int)/\s<l.length:=λh hh=>SQ hd hh
theorem II(hd:gO (bP l p) now d)(hok:∀x,x∈l->o7 x=0)(hn:0<=now){s:Nat}(hs:s<l.length)(hp:p s=true):((j0 l s).st=1/\(j0 l s).dl<=now/\j0 (dW l now d) s=oX (j0 l s))\/(¬((j0 l s).st=1/\(j0 l s).dl<=now)/\j0 (dW l now d) s=j0 l s):=by
 have he:=M0 now d l (NM hd) (ET hd) s;have hx:=hok _ (List.mem_of_getElem? (jF hs));by_cases c:(j0 l s).st=1/\(j0 l s).dl<=now
 ·have hm:(s:Int)∈d.map (·.1):=List.mem_map.2 ⟨A5 l s,(AN hd).2 ⟨s,hs,hp,c.1,c.2,rfl⟩,rfl⟩;rw[if_pos hm,KG hx hn c.1 c.2]at he;exact .inl ⟨c.1,c.2,he⟩
 ·have hm:¬((s:Int)∈d.map (·.1)):=λhm=>by
   obtain⟨x,hx1,hx2⟩:=List.mem_map.1 hm;obtain⟨s',-,-,h3,h4,rfl⟩:=(AN hd).1 hx1;have:(s':Int)=(s:Int):=hx2;have:s'=s:=by omega
   subst this;exact c ⟨h3,h4⟩
  rw[if_neg hm]at he;exact .inr ⟨c,he⟩
theorem CI(hd:gO (bP l p) now d)(hok:∀x,x∈l->o7 x=0)(hn:0<=now){s:Nat}(hs:s<l.length)(hp:p s=true):¬((j0 (dW l now d) s).st=1/\(j0 (dW l now d) s).dl<=now):=by
 rcases II hd hok hn hs hp with⟨-,-,e⟩|⟨h,e⟩
 ·rw[e];intro h;have:(0:Int)=1:=h.1;omega
 ·rw[e];exact h
theorem SN(hd:gO (bP l p) now d)(hok:∀x,x∈l->o7 x=0)(hn:0<=now){d':List (Int×Int)}(h':gO (bP (dW l now d) p) now d'):d'=[]:=by apply List.eq_nil_iff_forall_not_mem.2;intro x hx;obtain⟨s,h1,h2,h3,h4,-⟩:=(AN h').1 hx;rw[fJ]at h1;exact CI hd hok hn h1 h2 ⟨h3,h4⟩
theorem VG(hd:gO (bP l p) now d)(hok:∀x,x∈l->o7 x=0)(hn:0<=now){x:Int×Int}(hx:G2 (bP (dW l now d) p) x):¬x.2<=now:=by intro c;obtain⟨s,h1,h2,h3,rfl⟩:=qY.1 hx.1;rw[fJ]at h1;exact CI hd hok hn h1 h2 ⟨h3,c⟩
theorem a0j(hd:gO (bP l p) now d)(hok:∀x,x∈l->o7 x=0)(hn:0<=now){s:Nat}(hs:s<l.length)(hp:p s=true):o7 (j0 (dW l now d) s)=0:=by
 have hx:=hok _ (List.mem_of_getElem? (jF hs));rcases II hd hok hn hs hp with⟨-,-,e⟩|⟨h,e⟩
 ·rw[e];rfl
 ·rw[e];exact hx
theorem T5(hd:gO (bP l p) now d)(hok:∀x,x∈l->o7 x=0)(hn:0<=now){j:Nat}(hj:j<d.length):∃s:Nat,s<l.length/\d[j]=A5 l s/\(j0 l s).st=1/\(j0 l s).dl<=now/\dW l now (d.take (j+1))=(dW l now (d.take j)).set s (oX (j0 l s)):=by
 obtain⟨s,h1,h2,h3,h4,h5⟩:=(AN hd).1 (List.getElem_mem hj);refine⟨s,h1,h5,h3,h4,?_⟩;have hx:=hok _ (List.mem_of_getElem? (jF h1));rw[List.take_succ_eq_append_getElem hj,EF];unfold A7;have e1:d[j].1=(s:Int):=by rw[h5];rfl
 rw[e1,Int.toNat_natCast];have hnd:=ET hd;have e2:=M0 now (d.take j) l (λh hh=>NM hd h (List.mem_of_mem_take hh)) (hnd.sublist ((List.take_sublist _ _).map _)) s;have hm:¬((s:Int)∈(d.take j).map (·.1)):=λhm=>by rw[<-e1,List.map_take]at hm;obtain⟨i,hi,he⟩:=List.mem_iff_getElem.1 hm;rw[List.length_take,List.length_map]at hi;rw[List.getElem_take]at he;have:=(List.pairwise_iff_getElem.1 hnd i j (by rw[List.length_map];omega) (by rw[List.length_map];omega) (by omega));rw[he,List.getElem_map]at this;exact this rfl
 rw[if_neg hm]at e2;rw[e2,KG hx hn h3 h4]
end
end Go.Proofs.YtnigceddndemkaaGreatDoor.Ho
namespace Go.Proofs.YtnigceddndemkaaGreatDoor.Ho
open Go Go.Eng Go.RowKit
set_option maxRecDepth 100000
abbrev atV(s now:Int):Value:=.agg #[.int .u8 s,.int .i64 now]
abbrev otV(s:Int)(q:Value)(now:Int):Value:=.agg #[.int .u8 s,q,.int .i64 now]
theorem a2b{W:AW}{n:Nat}{c:List Value}(h:DR Tryz.prog W (n+2) 46 c):∃s t:Int,c=[.int .u8 s,.int .i64 t]/\0<=s/\s<=255:=by obtain⟨c1,r1,rfl,h1,h⟩:=(h.struct Tryz.underlying46).cons;obtain⟨c2,r2,rfl,h2,h⟩:=h.cons;obtain rfl:=h.nil;obtain⟨s,rfl,hb⟩:=h1.intB Tryz.underlying5;obtain⟨t,rfl⟩:=h2.int Tryz.underlying2;exact⟨s,t,rfl,hb⟩
section
variable {H:Type} {enc:TypeId×Value->H} {w:World} {σ:bM} {W:AW} {v0:Value} {d:DataW H} {p:List MemPlace} {r:Reach} {b0:Nat}
theorem a1P:MZ Tryz.prog 6 46=true:=by kernel_rfl
theorem openAt(ho:Opened σ W w)(hv:Value.okWide Tryz.prog w r b0 46 v0)(h:DataW.Trod enc Tryz.prog w 0 (λ_=>true) true 46 v0 d p):
 ∃(σ2:bM) (W2:AW) (s t:Int),Opened σ2 W2 w/\Sub σ σ2/\Le W W2/\VR σ2 (atV s t) v0/\0<=s/\s<=255:=by
 obtain⟨cs,rfl⟩:=UB Tryz.underlying46 hv;obtain⟨m,hm⟩:=h;obtain⟨σ2,W2,cs2,o2,s2,l2,r2,a2⟩:=tJ a1P hm σ W ho;obtain⟨s,t,rfl,hs⟩:=a2b a2;exact⟨σ2,W2,s,t,o2,s2,l2,.agg' (a:=#[.int .u8 s,.int .i64 t]) r2,hs⟩
end
end Go.Proofs.YtnigceddndemkaaGreatDoor.Ho
