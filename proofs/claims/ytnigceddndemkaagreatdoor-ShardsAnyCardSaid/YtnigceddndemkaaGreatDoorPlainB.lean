/- Contracts of functions, and their laws. -/
import Derived.Test.YtnigceddndemkaaGreatDoorPlainA
import Derived.Test.YtnigceddndemkaaGreatDoorOpnA
import Derived.KernelRfl
set_option linter.unusedVariables false
set_option linter.unusedSimpArgs false
set_option linter.unusedSectionVars false
namespace Go.Proofs.YtnigceddndemkaaGreatDoor
open Go Go.Eng
set_option maxRecDepth 100000
theorem GH{s:Sec}{b:List Sec}(h:EN s b=0):IG s.name=true/\(b.any λx=>x.name==s.name)=false/\s.rows.length≠0/\s.rows.length<=16/\(∀n∈s.rows,1<=n/\n<=64)/\0<=s.q/\s.q<=64:=by
 unfold EN at h;split at h
 ·exact absurd h (by decide)
 rename_i h1;split at h
 ·exact absurd h (by decide)
 rename_i h2;split at h
 ·exact absurd h (by decide)
 rename_i h3;split at h
 ·exact absurd h (by decide)
 rename_i h4;split at h
 ·exact absurd h (by decide)
 rename_i h5;split at h
 ·exact absurd h (by decide)
 rename_i h6;refine⟨by simpa using h1,by simpa using h2,h3,by omega,?_,?_⟩
 ·intro n hn;have:qG n 1 64=false:=by
   cases ho:qG n 1 64
   ·rfl
   ·exact absurd (List.any_eq_true.2 ⟨n,hn,ho⟩) h5
  unfold qG at this;simp only[Bool.or_eq_false_iff,decide_eq_false_iff_not]at this;omega
 ·unfold qG at h6;simp only[Bool.or_eq_true,decide_eq_true_iff]at h6;omega
theorem rM{l:List Int}{k:Nat}(hk:k<l.length):jX (l.take (k+1))=jX (l.take k)+l[k]:=by rw[<-List.take_append_getElem hk,a4E]
theorem rT{l:List Sec}{k:Nat}(hk:k<l.length):bR (l.take (k+1))=bR (l.take k)+jX l[k].rows:=by unfold bR;rw[List.map_take,List.map_take,rM (by rw[List.length_map];exact hk),List.getElem_map]
theorem vB{l:List Int}(h:∀n∈l,1<=n/\n<=64)(k:Nat):(0<=jX (l.take k)/\jX (l.take k)<=64*k)/\(min k l.length:Int)<=jX (l.take k):=by
 induction k with
 |zero=>simp[jX];omega
 |succ k ih=>
  by_cases hk:k<l.length
  ·rw[rM hk];have:=h _ (List.getElem_mem hk);omega
  ·rw[List.take_of_length_le (by omega)]at ih|-;omega
theorem PS{l:List Sec}{k:Nat}(h:rE l k=none)(hk:k<l.length):rE l (k+1)=if EN l[k] (l.take k)=0 then none else some (k,EN l[k] (l.take k)):=by show(match rE l k with|some r=>some r|none=>match l[k]? with|some s=>if EN s (l.take k)=0 then none else some (k,EN s (l.take k))|none=>none)=_;rw[h,List.getElem?_eq_getElem hk]
theorem PM{l:List Sec}{k:Nat}(h:rE l k=none):∀i (hi:i<k) (hl:i<l.length),EN l[i] (l.take i)=0:=by
 induction k with
 |zero=>intro i hi;omega
 |succ k ih=>
  have h1:rE l k=none:=by
   cases hb:rE l k with
   |none=>rfl
   |some r=>rw[GN hb (Nat.le_succ k)]at h;cases h
  intro i hi hl;by_cases e:i=k
  ·subst e;rw[PS h1 hl]at h;split at h
   ·assumption
   ·cases h
  ·exact ih h1 i (by omega) hl
theorem VC{l:List Sec}{k:Nat}(h:rE l k=none)(hk:k<=l.length):0<=bR (l.take k)/\bR (l.take k)<=1024*k:=by
 induction k with
 |zero=>simp[bR,jX]
 |succ k ih=>
  have h1:rE l k=none:=by
   cases hb:rE l k with
   |none=>rfl
   |some r=>rw[GN hb (Nat.le_succ k)]at h;cases h
  have h2:=ih h1 (by omega);have hk':k<l.length:=by omega
  obtain⟨_,_,_,h3,h4,_⟩:=GH (PM h k (by omega) hk');rw[rT hk'];have h5:=(vB h4 l[k].rows.length).1;rw[List.take_length]at h5;omega
theorem H8{v:Ven}{sv:Value}{W:AW}(hs:SecsC W sv v.secs)(hv:v.secs.length<1000):aL (.func (.func 129) #[] #[]) [sI v sv] W=some (.tuple #[.int .i64 (j6 v).1,.int .i64 (j6 v).2],W):=by
 refine aN rfl ?_ KF;unfold IR;have hle:Le W (W.add (.cells [.int .i64 v.sh,.int .i64 v.ttl,.int .i64 v.ses,sv])):=(Le.refl W).add _;have hc:cellsAt (W.add (.cells [.int .i64 v.sh,.int .i64 v.ttl,.int .i64 v.ses,sv])) W.next=some [.int .i64 v.sh,.int .i64 v.ttl,.int .i64 v.ses,sv]:=dI;have hn:W.next<(W.add (.cells [.int .i64 v.sh,.int .i64 v.ttl,.int .i64 v.ses,sv])).next:=by rw[AW.add_next];omega
 simp only[SX,VT,Nat.zero_add];generalize hW1:W.add (.cells [.int .i64 v.sh,.int .i64 v.ttl,.int .i64 v.ses,sv])=W1 at *;have c0:aP (.pointer (some ⟨W.next,0,none⟩)) W1=some (.int .i64 v.sh,W1):=d9 hc rfl;have c1:aP (.pointer (some ⟨W.next,1,none⟩)) W1=some (.int .i64 v.ttl,W1):=d9 hc rfl;have c2:aP (.pointer (some ⟨W.next,2,none⟩)) W1=some (.int .i64 v.ses,W1):=d9 hc rfl;have c3:∀W',Le W1 W'->aP (.pointer (some ⟨W.next,3,none⟩)) W'=some (sv,W'):=λW' k=>d9 (by rw[k.cellsAt hn];exact hc) rfl
 simp only[SX,c0,p9];unfold j6 qZ;cases n1:qG v.sh 1 16;case true=>simp only[SX,Bool.true_or,if_true,aB];exact⟨trivial,hle⟩
 simp only[SX,Nat.zero_add,c1,wX];cases n2:qG v.ttl 1 1000000000;case true=>simp only[SX,Bool.true_or,Bool.or_true,if_true,aB];exact⟨trivial,hle⟩
 simp only[SX,Nat.zero_add,c2,wX];cases n3:qG v.ses 1 1000000000;case true=>simp only[SX,Bool.true_or,Bool.or_true,if_true,aB];exact⟨trivial,hle⟩
 simp only[SX,Nat.zero_add,c3 _ (.refl _),hs.1.len BB,Bool.or_self,Bool.false_eq_true,if_false];by_cases n4:v.secs.length=0;case pos=>
  have e:((v.secs.length:Int)=0):=by omega
  simp only[SX,e,if_pos n4,aB];exact⟨trivial,hle⟩
 have e4:¬((v.secs.length:Int)=0):=by omega
 simp only[SX,e4,if_neg n4,Nat.zero_add,c3 _ (.refl _),hs.1.len BB];by_cases n5:8<v.secs.length;case pos=>
  have e:((8:Int)<(v.secs.length:Int)):=by omega
  simp only[SX,e,if_pos n5,aB];exact⟨trivial,hle⟩
 have e5:¬((8:Int)<(v.secs.length:Int)):=by omega
 simp only[SX,e5,if_neg n5,Nat.zero_add,c3 _ (.refl _),hs.1.len BB];refine bF v.secs.length (by omega) (λk R W'=>Le W1 W'/\R 1=.pointer (some ⟨W.next,0,none⟩)/\R 4=.int .i64 (bR (v.secs.take k))/\R 35=sv/\R 36=.int .i64 (v.secs.length:Int)/\R 37=.int .i64 (k:Int)/\rE v.secs k=none)
  (λr=>Le W1 r.2.2/\((r.1=.exit 1/\r.2.1 4=.int .i64 (bR v.secs)/\rE v.secs v.secs.length=none)\/(r.1=.ret/\∃i e,r.2.1 2=.int .i64 ((i:Nat):Int)/\r.2.1 3=.int .i64 e/\rE v.secs v.secs.length=some (i,e)))) ⟨.refl _,rfl,rfl,rfl,rfl,rfl,rfl⟩ ?_ ?_ ?_
 ·rintro k R W' hk ⟨hl,h1,h4,h35,h36,h37,hb⟩;unfold sP;obtain⟨b,o,rv,g1,g2,g3,_⟩:=hs.1.get hk;obtain⟨u,u1,u2⟩:=hs.pre hk;have e1:((k:Int)<(v.secs.length:Int)):=by omega
  simp only[SX,h35,h36,h37,e1,g1,g3 _ (hle.trans hl),a4b,aBo dQ (BF _) (Row.one g2) (tJ _ _),pE];have hl2:Le W1 (W'.add (.cells [.string (aM v.secs[k].name),rv,.int .i64 v.secs[k].q])):=hl.add _;have hc2:cellsAt (W'.add (.cells [.string (aM v.secs[k].name),rv,.int .i64 v.secs[k].q])) W'.next=some [.string (aM v.secs[k].name),rv,.int .i64 v.secs[k].q]:=dI;generalize hW2:W'.add (.cells [.string (aM v.secs[k].name),rv,.int .i64 v.secs[k].q])=W2 at *;have d3:eU 3 (.pointer (some ⟨W'.next,0,none⟩)) W2=some (UL v.secs[k] rv,W2):=zA hc2 rfl;have d1:aP (.pointer (some ⟨W'.next,1,none⟩)) W2=some (rv,W2):=d9 hc2 rfl;have hlr:=(g2.mono (hle.trans hl2)).len (P:=Tryz.prog) FC;simp only[SX,d3,h1,Nat.zero_add,c3 _ hl2,u1,a1w (g2.mono (hle.trans hl2)) (u2.mono (hle.trans hl2)) (by rw[List.length_take];omega)];have hbs:=PS hb hk;by_cases hz:EN v.secs[k] (v.secs.take k)=0
  ·rw[if_pos hz]at hbs;obtain⟨_,_,_,hr1,hr2,_⟩:=GH hz;have htb:=VC hb (by omega);simp only[SX,hz,d1,hlr];refine bF v.secs[k].rows.length (by omega) (λj R' W3=>W3=W2/\R' 1=.pointer (some ⟨W.next,0,none⟩)/\R' 4=.int .i64 (bR (v.secs.take k)+jX (v.secs[k].rows.take j))/\R' 35=sv/\R' 36=.int .i64 (v.secs.length:Int)/\R' 37=.int .i64 (k:Int)/\R' 53=rv/\R' 54=.int .i64 (v.secs[k].rows.length:Int)/\R' 55=.int .i64 (j:Int))
    (λr=>r.2.2=W2/\r.1=.exit 3/\r.2.1 1=.pointer (some ⟨W.next,0,none⟩)/\r.2.1 4=.int .i64 (bR (v.secs.take (k+1)))/\r.2.1 35=sv/\r.2.1 36=.int .i64 (v.secs.length:Int)/\r.2.1 37=.int .i64 (k:Int)) ⟨rfl,h1,by rw[List.take_zero,show jX []=0 from rfl,Int.add_zero];exact h4,h35,h36,h37,rfl,rfl,rfl⟩ ?_ ?_ ?_
   ·rintro j R' W3 hj ⟨rfl,h1,h4,h35,h36,h37,h53,h54,h55⟩;unfold mZ;obtain⟨p,p1,p2⟩:=g2.get hj;have e1:((j:Int)<(v.secs[k].rows.length:Int)):=by omega
    have e2:(j:Int)+1=((j+1:Nat):Int):=by omega
    have ea:=aQ (P:=Tryz.prog) (W:=W3) (t:=3) (c:=false) (d:=true) (a:=(j:Int)) (b:=1) (by omega) (by omega);have hsb:=(vB hr2 j).1;have hsn:=hr2 _ (List.getElem_mem hj);have eb:=aQ (P:=Tryz.prog) (W:=W3) (t:=3) (c:=false) (d:=false) (a:=bR (v.secs.take k)+jX (v.secs[k].rows.take j)) (b:=v.secs[k].rows[j]) (by omega) (by omega);simp only[SX,h4,h53,h54,h55,e1,p1,p2 _ (hle.trans hl2),ea,eb,aB];refine .inl ⟨trivial,trivial,h1,?_,h35,h36,h37,h53,h54,by rw[<-e2];rfl⟩;rw[rM hj,<-Int.add_assoc];rfl
   ·rintro R' W3 ⟨rfl,h1,h4,h35,h36,h37,h53,h54,h55⟩;unfold mZ;have e1:¬((v.secs[k].rows.length:Int)<(v.secs[k].rows.length:Int)):=by omega
    simp only[SX,h54,h55,e1,aB];refine⟨by simp,trivial,trivial,h1,?_,h35,h36,h37⟩;rw[rT hk];rw[List.take_length]at h4;exact h4
   ·rintro⟨x,R',W3⟩ ⟨hW,rfl,h1,h4,h35,h36,h37⟩;simp only at hW h1 h4 h35 h36 h37;subst hW;have e2:(k:Int)+1=((k+1:Nat):Int):=by omega
    have ea:=aQ (P:=Tryz.prog) (W:=W3) (t:=3) (c:=false) (d:=true) (a:=(k:Int)) (b:=1) (by omega) (by omega);simp only[SX,h37,ea,aB];exact .inl ⟨trivial,hl2,h1,h4,h35,h36,by rw[<-e2];rfl,hbs⟩
  ·rw[if_neg hz]at hbs;simp only[SX,hz,aB];exact .inr ⟨by simp,hl2,.inr ⟨trivial,k,_,rfl,rfl,GN hbs (by omega)⟩⟩
 ·rintro R W' ⟨hl,h1,h4,h35,h36,h37,hb⟩;unfold sP;have e1:¬((v.secs.length:Int)<(v.secs.length:Int)):=by omega
  rw[List.take_length]at h4;simp only[SX,h36,h37,e1,aB];exact⟨by simp,hl,.inl ⟨trivial,h4,hb⟩⟩
 ·rintro⟨x,R,W'⟩ ⟨hl,hq⟩;simp only at hl hq;rcases hq with⟨rfl,h4,hb⟩|⟨rfl,i,e,h2,h3,hb⟩
  ·rw[hb];by_cases n6:4096<bR v.secs
   ·simp only[SX,h4,n6,if_true,aB];exact⟨trivial,hle.trans hl⟩
   ·simp only[SX,h4,n6,if_false,aB];exact⟨trivial,hle.trans hl⟩
  ·rw[hb];simp only[SX,h2,h3,aB];exact⟨trivial,hle.trans hl⟩
abbrev Plc:=Nat×Nat×Nat
def N8(i k m:Nat):List Plc:=(List.range m).map λj=>(i,k,j)
def V7(i:Nat)(rows:List Int)(k:Nat):List Plc:=(List.range k).flatMap λj=>N8 i j (rows.getD j 0).toNat
def XD(l:List Sec)(n:Nat):List Plc:=(List.range n).flatMap λi=>match l[i]? with
 |some s=>V7 i s.rows s.rows.length
 |none=>[]
def mO(l:List Sec):List Plc:=XD l l.length
theorem P7(i:Nat)(rows:List Int){k:Nat}(hk:k<rows.length):V7 i rows (k+1)=V7 i rows k++N8 i k rows[k].toNat:=by unfold V7;rw[List.range_succ,List.flatMap_append,List.flatMap_cons,List.flatMap_nil,List.append_nil,List.getD_eq_getElem?_getD,List.getElem?_eq_getElem hk,Option.getD_some]
theorem QT(l:List Sec){n:Nat}(hn:n<l.length):XD l (n+1)=XD l n++V7 n l[n].rows l[n].rows.length:=by unfold XD;rw[List.range_succ,List.flatMap_append,List.flatMap_cons,List.flatMap_nil,List.append_nil,List.getElem?_eq_getElem hn]
structure Good (l:List Sec):Prop where
 len:l.length<=8
 rows:∀s∈l,s.rows.length≠0/\s.rows.length<=16/\∀n∈s.rows,1<=n/\n<=64
theorem Good.of{l:List Sec}(h:l.length<=8)(hb:rE l l.length=none):Good l:=
 ⟨h,λs hs=>by obtain⟨i,hi,rfl⟩:=List.getElem_of_mem hs;obtain⟨_,_,h3,h4,h5,_⟩:=GH (PM hb i hi hi);exact⟨h3,h4,h5⟩⟩
theorem a5f(i k m:Nat):(N8 i k m).length=m:=by simp[N8]
theorem VP{i:Nat}{rows:List Int}(h:∀n∈rows,1<=n/\n<=64):∀{k:Nat},k<=rows.length->((V7 i rows k).length:Int)=jX (rows.take k)
 |0,_=>by simp[V7,jX]
 |k+1,hk=>by
  have hk':k<rows.length:=by omega
  rw[P7 i rows hk',List.length_append,a5f,rM hk',<-VP (i:=i) h (by omega:k<=rows.length)];have:=h _ (List.getElem_mem hk');omega
theorem F6{l:List Sec}(h:Good l):∀{n:Nat},n<=l.length->((XD l n).length:Int)=bR (l.take n)/\(XD l n).length<=1024*n
 |0,_=>by simp[XD,bR,jX]
 |n+1,hn=>by
  have hn':n<l.length:=by omega
  obtain⟨h1,h2,h3⟩:=h.rows _ (List.getElem_mem hn');have ih:=F6 h (by omega:n<=l.length);have hl:=VP (i:=n) h3 (Nat.le_refl _);have hb:=(vB h3 l[n].rows.length).1;rw[List.take_length]at hl hb;rw[QT l hn',List.length_append,rT hn'];omega
theorem a0v{l:List Sec}(h:Good l):((mO l).length:Int)=bR l:=by have:=(F6 h (Nat.le_refl l.length)).1;rwa [List.take_length]at this
def aC0(p:Plc):List Value:=[.int .i64 (p.1:Int),.int .i64 (p.2.1:Int),.int .i64 (p.2.2:Int)]
def aAw(cs:List Value)(p:Nat)(a:Plc):Prop:=cs[p]? =some (.int .i64 (a.1:Int))/\cs[p+1]? =some (.int .i64 (a.2.1:Int))/\cs[p+2]? =some (.int .i64 (a.2.2:Int))
abbrev Plcs(W:AW)(v:Value)(l:List Plc):Prop:=Row W 3 aAw v l
theorem oH{v:Ven}(h:(j6 v).2=0):Good v.secs/\qZ v=false/\0<v.secs.length/\rE v.secs v.secs.length=none/\bR v.secs<=4096/\(j6 v).1=0:=by
 unfold j6 at h|-;split at h
 ·exact absurd h (by decide)
 rename_i h1;split at h
 ·exact absurd h (by decide)
 rename_i h2;split at h
 ·exact absurd h (by decide)
 rename_i h3;cases hb:rE v.secs v.secs.length with
 |some r=>
  obtain⟨i,e⟩:=r;rw[hb]at h;simp only at h;subst h;exfalso;have:∀n,rE v.secs n≠some (i,0):=by
   intro n;induction n with
   |zero=>simp[rE]
   |succ n ih=>
    intro hn;have hn':(match rE v.secs n with|some r=>some r|none=>match v.secs[n]? with|some s=>if EN s (v.secs.take n)=0 then none else some (n,EN s (v.secs.take n))|none=>none)=some (i,0):=hn;cases hbn:rE v.secs n with
    |some r=>rw[hbn]at hn';simp only at hn';rw[hn']at hbn;exact ih hbn
    |none=>
     rw[hbn]at hn';simp only at hn';split at hn'
     ·split at hn'
      ·cases hn'
      ·rename_i hz;injection hn' with hn';injection hn' with _ e;exact hz e
     ·cases hn'
  exact this _ hb
 |none=>
  rw[hb]at h;simp only at h|-;split at h
  ·exact absurd h (by decide)
  rename_i h4;rw[if_neg h4,if_neg h1,if_neg h2,if_neg h3];exact⟨Good.of (by omega) hb,by simpa using h1,by omega,trivial,by omega,rfl⟩
theorem YR(v:Ven)(sv:Value)(W:AW):∃W1,dK (sI v sv) W=some (.pointer (some ⟨W.next,0,none⟩),W1)/\Le W W1/\W.next<W1.next/\
 (∀W',Le W1 W'->eU 4 (.pointer (some ⟨W.next,0,none⟩)) W'=some (sI v sv,W'))/\(∀W',Le W1 W'->aP (.pointer (some ⟨W.next,0,none⟩)) W'=some (.int .i64 v.sh,W'))/\(∀W',Le W1 W'->aP (.pointer (some ⟨W.next,3,none⟩)) W'=some (sv,W')):=by
 have hc:cellsAt (W.add (.cells [.int .i64 v.sh,.int .i64 v.ttl,.int .i64 v.ses,sv])) W.next=some [.int .i64 v.sh,.int .i64 v.ttl,.int .i64 v.ses,sv]:=dI;have hn:W.next<(W.add (.cells [.int .i64 v.sh,.int .i64 v.ttl,.int .i64 v.ses,sv])).next:=by rw[AW.add_next];omega
 exact⟨_,VT _ _ _ _ W,(Le.refl W).add _,hn,λW' k=>zA (by rw[k.cellsAt hn];exact hc) rfl,λW' k=>d9 (by rw[k.cellsAt hn];exact hc) rfl,λW' k=>d9 (by rw[k.cellsAt hn];exact hc) rfl⟩
def jC(v:Ven):Int×Int:=if(j6 v).2=0 then(bR v.secs,0)else(0,(j6 v).2)
structure RowT where
 sec:Nat
 row:Nat
 first:Int
 many:Int
abbrev WN(r:RowT):Value:=.agg #[.int .i64 (r.sec:Int),.int .i64 (r.row:Int),.int .i64 r.first,.int .i64 r.many]
def D9(l:List Sec)(i:Nat)(rows:List Int)(k:Nat):List RowT:=(List.range k).map λj=>⟨i,j,bR (l.take i)+jX (rows.take j),rows.getD j 0⟩
def tC(l:List Sec)(n:Nat):List RowT:=(List.range n).flatMap λi=>match l[i]? with
 |some s=>D9 l i s.rows s.rows.length
 |none=>[]
def fF(l:List Sec):List RowT:=tC l l.length
theorem rO(l:List Sec)(i:Nat)(rows:List Int){k:Nat}(hk:k<rows.length):D9 l i rows (k+1)=D9 l i rows k++[⟨i,k,bR (l.take i)+jX (rows.take k),rows[k]⟩]:=by unfold D9;rw[List.range_succ,List.map_append,List.map_cons,List.map_nil,List.getD_eq_getElem?_getD,List.getElem?_eq_getElem hk,Option.getD_some]
theorem o7(l:List Sec){n:Nat}(hn:n<l.length):tC l (n+1)=tC l n++D9 l n l[n].rows l[n].rows.length:=by unfold tC;rw[List.range_succ,List.flatMap_append,List.flatMap_cons,List.flatMap_nil,List.append_nil,List.getElem?_eq_getElem hn]
theorem a3Z{l:List Sec}{i:Nat}{rows:List Int}{k n:Nat}(h:k<=n)(hn:n<=rows.length):D9 l i rows k<+:D9 l i rows n:=by
 induction n with
 |zero=>obtain rfl:k=0:=by omega
        exact List.prefix_refl _
 |succ n ih=>
  by_cases e:k=n+1
  ·subst e;exact List.prefix_refl _
  ·rw[rO l i rows (by omega)];exact(ih (by omega) (by omega)).trans (List.prefix_append _ _)
theorem a1z{l:List Sec}{k n:Nat}(h:k<=n)(hn:n<=l.length):tC l k<+:tC l n:=by
 induction n with
 |zero=>obtain rfl:k=0:=by omega
        exact List.prefix_refl _
 |succ n ih=>
  by_cases e:k=n+1
  ·subst e;exact List.prefix_refl _
  ·rw[o7 l (by omega)];exact(ih (by omega) (by omega)).trans (List.prefix_append _ _)
theorem a4p{l:List Sec}{i k:Nat}(hi:i<l.length)(hk:k<l[i].rows.length):(tC l i++D9 l i l[i].rows k)++[⟨i,k,bR (l.take i)+jX (l[i].rows.take k),l[i].rows[k]⟩]<+:fF l:=by rw[List.append_assoc,<-rO l i _ hk];refine List.IsPrefix.trans ?_ (a1z (k:=i+1) (by omega) (Nat.le_refl _));rw[o7 l hi];exact(List.prefix_append_right_inj _).2 (a3Z (by omega) (Nat.le_refl _))
theorem aBV(a b c d:Int)(W:AW):gK Tryz.prog 210 [(0,.int .i64 a),(1,.int .i64 b),(2,.int .i64 c),(3,.int .i64 d)] W=some (.agg #[.int .i64 a,.int .i64 b,.int .i64 c,.int .i64 d],W):=Eq.trans (by kernel_rfl) rfl
theorem a6u{v:Ven}{sv f:Value}{bx:Nat}{W0 W:AW}(hs:Secs W0 sv v.secs)(hg:Good v.secs)(hb:aP (.pointer (some ⟨bx,3,none⟩)) W=some (sv,W))(I:List RowT->AW->Prop)(Q:AW->Prop)
 (hI:I [] W)(hS:∀pre W',I pre W'->Le W0 W')(hA:∀pre W' cs,I pre W'->I pre (W'.add (.cells cs)))
 (step:∀pre r W',pre++[r]<+:fF v.secs->I pre W'->∃b W2,aL f [WN r] W'=some (.bool b,W2)/\(b=true->I (pre++[r]) W2)/\(b=false->Q W2)):
 ∃W2,aL (.func (.func 190) #[] #[.pointer (some ⟨bx,0,none⟩)]) [f] W=some (.tuple #[],W2)/\(I (fF v.secs) W2\/Q W2):=by
 have main:Ok (wG aL f (.pointer (some ⟨bx,0,none⟩)) W) λr=>r.1=.tuple #[]/\(I (fF v.secs) r.2\/Q r.2):=by
  unfold wG;have hlen:=hg.len;have add1:∀(k:Nat) (W':AW),k<1000000->aH Tryz.prog .add 3 false true (.int .i64 (k:Int)) (.int .i64 1) W'=some (.int .i64 ((k+1:Nat):Int),W'):=λk W' hk=>aQ (by omega) (by omega)
  simp only[SX,Nat.zero_add,hb,hs.len BB];refine bF v.secs.length (by omega) (λi R W'=>R 0=f/\R 3=.int .i64 (bR (v.secs.take i))/\R 9=sv/\R 10=.int .i64 (v.secs.length:Int)/\R 11=.int .i64 (i:Int)/\I (tC v.secs i) W')
   (λr=>(r.1=.exit 0/\I (fF v.secs) r.2.2)\/(r.1=.ret/\Q r.2.2)) ⟨rfl,rfl,rfl,rfl,rfl,hI⟩ ?_ ?_ ?_
  ·rintro i R W' hi ⟨h0,h3,h9,h10,h11,hi'⟩;unfold qE;have e1:((i:Int)<(v.secs.length:Int)):=by omega
   obtain⟨b,o,rv,g1,g2,g3,_⟩:=hs.get hi;obtain⟨r1,r2,r3⟩:=hg.rows _ (List.getElem_mem hi);have htb:0<=bR (v.secs.take i)/\bR (v.secs.take i)<=1024*i:=by have:=F6 hg (by omega:i<=v.secs.length);omega
   have hI2:=hA _ _ [.string (aM v.secs[i].name),rv,.int .i64 v.secs[i].q] hi';have hc2:cellsAt (W'.add (.cells [.string (aM v.secs[i].name),rv,.int .i64 v.secs[i].q])) W'.next=some [.string (aM v.secs[i].name),rv,.int .i64 v.secs[i].q]:=dI;simp only[SX,h9,h10,h11,e1,g1,g3 _ (hS _ _ hi'),a4b,aBo dQ (BF _) (Row.one g2) (tJ _ _),pE,Nat.zero_add];generalize hW2:W'.add (.cells [.string (aM v.secs[i].name),rv,.int .i64 v.secs[i].q])=W2 at *;have d1:aP (.pointer (some ⟨W'.next,1,none⟩)) W2=some (rv,W2):=d9 hc2 rfl;simp only[SX,d1,g2.len FC];refine bF v.secs[i].rows.length (by omega) (λk R W'=>R 0=f/\R 3=.int .i64 (bR (v.secs.take i)+jX (v.secs[i].rows.take k))/\R 4=.int .i64 (i:Int)/\R 9=sv/\R 10=.int .i64 (v.secs.length:Int)/\R 11=.int .i64 (i:Int)/\R 17=rv/\R 18=.int .i64 (v.secs[i].rows.length:Int)/\R 19=.int .i64 (k:Int)/\I (tC v.secs i++D9 v.secs i v.secs[i].rows k) W')
    (λr=>(r.1=.exit 2/\r.2.1 0=f/\r.2.1 3=.int .i64 (bR (v.secs.take (i+1)))/\r.2.1 9=sv/\r.2.1 10=.int .i64 (v.secs.length:Int)/\r.2.1 11=.int .i64 (i:Int)/\I (tC v.secs (i+1)) r.2.2)\/(r.1=.ret/\Q r.2.2))
    ⟨h0,by rw[List.take_zero,show jX []=0 from rfl,Int.add_zero];exact h3,rfl,h9,h10,h11,rfl,rfl,rfl,by rw[show D9 v.secs i v.secs[i].rows 0=[]from rfl,List.append_nil];exact hI2⟩ ?_ ?_ ?_
   ·rintro k R W' hk ⟨h0,h3,h4,h9,h10,h11,h17,h18,h19,hi'⟩;unfold lC;have e1:((k:Int)<(v.secs[i].rows.length:Int)):=by omega
    obtain⟨p,p1,p2⟩:=g2.get hk;obtain⟨c,W3,s1,s2,s3⟩:=step _ ⟨i,k,bR (v.secs.take i)+jX (v.secs[i].rows.take k),v.secs[i].rows[k]⟩ W' (a4p hi hk) hi';have hsb:=(vB r3 k).1;have hsn:=r3 _ (List.getElem_mem hk);have eb:=aQ (P:=Tryz.prog) (W:=W3) (t:=3) (c:=false) (d:=false) (a:=bR (v.secs.take i)+jX (v.secs[i].rows.take k)) (b:=v.secs[i].rows[k]) (by omega) (by omega);simp only[SX,h0,h3,h4,h17,h18,h19,e1,p1,p2 _ (hS _ _ hi'),aBV,s1];cases c
    ·simp only[SX,aB];exact .inr ⟨by simp,.inr ⟨trivial,s3 rfl⟩⟩
    ·simp only[SX,eb,add1 k _ (by omega),aB];refine .inl ⟨trivial,h0,?_,h4,h9,h10,h11,h17,h18,rfl,?_⟩
     ·rw[rM hk,<-Int.add_assoc];rfl
     ·rw[rO _ _ _ hk,<-List.append_assoc];exact s2 rfl
   ·rintro R W' ⟨h0,h3,h4,h9,h10,h11,h17,h18,h19,hi'⟩;unfold lC;have e1:¬((v.secs[i].rows.length:Int)<(v.secs[i].rows.length:Int)):=by omega
    simp only[SX,h18,h19,e1,aB];refine⟨by simp,.inl ⟨trivial,h0,?_,h9,h10,h11,?_⟩⟩
    ·rw[rT hi];rw[List.take_length]at h3;exact h3
    ·rw[o7 _ hi];exact hi'
   ·rintro⟨x,R,W'⟩ hq;rcases hq with⟨rfl,h0,h3,h9,h10,h11,hi'⟩|⟨rfl,hq⟩
    ·simp only at h0 h3 h9 h10 h11 hi';simp only[SX,h11,add1 i _ (by omega),aB];exact .inl ⟨trivial,h0,h3,h9,h10,rfl,hi'⟩
    ·simp only[SX,aB];exact .inr ⟨by simp,.inr ⟨trivial,hq⟩⟩
  ·rintro R W' ⟨h0,h3,h9,h10,h11,hi'⟩;unfold qE;have e1:¬((v.secs.length:Int)<(v.secs.length:Int)):=by omega
   simp only[SX,h10,h11,e1,aB];exact⟨by simp,.inl ⟨trivial,hi'⟩⟩
  ·rintro⟨x,R,W'⟩ hq;rcases hq with⟨rfl,hi'⟩|⟨rfl,hq⟩
   ·simp only[SX,aB];exact⟨trivial,.inl hi'⟩
   ·simp only[SX,aB];exact⟨trivial,.inr hq⟩
 obtain⟨⟨r,W'⟩,h1,h2,h3⟩:=main;simp only at h2 h3;subst h2;exact⟨W',by rw[J4 h1,dV rfl],h3⟩
theorem a1n{v:Ven}{sv:Value}(W:AW):∃W1,aL (.func (.func 130) #[] #[]) [sI v sv] W=some (.func (.func 190) #[] #[.pointer (some ⟨W.next,0,none⟩)],W1)/\Le W W1/\W.next<W1.next/\(∀W',Le W1 W'->aP (.pointer (some ⟨W.next,3,none⟩)) W'=some (sv,W')):=by
 obtain⟨W1,hB,hle,hn,c4,c0,c3⟩:=YR v sv W;refine⟨W1,?_,hle,hn,c3⟩;have:BP aL (sI v sv) W=some (.func (.func 190) #[] #[.pointer (some ⟨W.next,0,none⟩)],W1):=by unfold BP;simp only[SX,hB]
 rw[NV this,dV rfl]
theorem ZK{v:Ven}{sv:Value}{W0 W:AW}{bx nt:Nat}{R:Nat->Value}{ps:Array Tmp}{ac bd:Code}(hs:Secs W0 sv v.secs)(hg:Good v.secs)
 (hb:aP (.pointer (some ⟨bx,3,none⟩)) (W.add (.loop .ready none R nt ps ac bd))=some (sv,W.add (.loop .ready none R nt ps ac bd)))(hp:ps.size=1)
 (J:List RowT->AW->Prop)(Q:X->AW->Prop)(h0:J [] (W.add (.loop .ready none R nt ps ac bd)))
 (hS:∀pre W',J pre W'->Le W0 W')(hA:∀pre W' cs,J pre W'->W.next<W'.next->J pre (W'.add (.cells cs)))(hP:∀pre W' o,J pre W'->J pre (W'.put W.next o))(hQ:∀x W' o,Q x W'->Q x (W'.put W.next o))
 (d:Nat)(has:∀r W' R',R'=pW ps.toList [WN r] R->iI Tryz.prog aL false nt ac LT R' W' rG=some (.normal,dR R' (some d) (.pointer (some ⟨W'.next,0,none⟩)),W'.add (.cells [.int .i64 (r.sec:Int),.int .i64 (r.row:Int),.int .i64 r.first,.int .i64 r.many])))
 (step:∀pre r W' b R',R'=dR (pW ps.toList [WN r] R) (some d) (.pointer (some ⟨b,0,none⟩))->pre++[r]<+:fF v.secs->J pre W'->W.next<W'.next->rwCells W' b=some [.int .i64 (r.sec:Int),.int .i64 (r.row:Int),.int .i64 r.first,.int .i64 r.many]->W.next<b->b<W'.next->
   Ok (iI Tryz.prog aL false nt bd LT R' W' rG) λq=>W'.next<=q.2.2.next/\q.2.2.get W.next=W'.get W.next/\((q.1=.normal/\J (pre++[r]) q.2.2)\/(q.1≠ .normal/\Q q.1 q.2.2))):
 ∃x W2,mP aL (.func (.func 190) #[] #[.pointer (some ⟨bx,0,none⟩)]) (.loop .ready none R nt ps ac bd) W=some (x,W2.kill W.next)/\((x=.normal/\J (fF v.secs) W2)\/(x≠ .normal/\Q x W2)):=by
 obtain⟨W2,h1,h2⟩:=a6u (f:=.func (.yield W.next) #[] #[]) (W:=W.add (.loop .ready none R nt ps ac bd)) hs hg hb
  (λpre W'=>J pre W'/\W.next<W'.next/\W'.get W.next=some (.loop .ready none R nt ps ac bd))
  (λW'=>∃x,x≠ .normal/\Q x W'/\W'.get W.next=some (.loop .done x.jump R nt ps ac bd))
  ⟨h0,by rw[AW.add_next];omega,AW.get_add _ _⟩ (λpre W' h=>hS _ _ h.1)
  (λpre W' cs h=>⟨hA _ _ _ h.1 h.2.1,by rw[AW.add_next];omega,by rw[AW.get_add_ne _ _ (by omega)];exact h.2.2⟩)
  (λpre r W' hpre ⟨hJ,hlt,hget⟩=>by
    have hJ2:=hP _ _ (.loop .busy none R nt ps ac bd) (hA _ _ [.int .i64 (r.sec:Int),.int .i64 (r.row:Int),.int .i64 r.first,.int .i64 r.many] hJ hlt);obtain⟨⟨x,R2,W3⟩,k1,k2,k3,k4⟩:=step pre r _ W'.next _ rfl hpre hJ2 (by rw[AW.put_next,AW.add_next];omega) (by rw[dZ _ (by omega)];exact dQ) hlt (by rw[AW.put_next,AW.add_next];omega);simp only at k1 k2 k3 k4;rw[AW.get_put]at k3;have hy:=PL (P:=Tryz.prog) (args:=[WN r]) hget (by rw[hp];rfl) (has r W' _ rfl) (by rw[AW.get_add_ne _ _ (by omega)];exact hget) k1 k3;have hn3:W.next<W3.next:=by rw[AW.put_next,AW.add_next]at k2;omega
    rcases k4 with⟨rfl,k4⟩|⟨kx,k4⟩
    ·exact⟨true,_,hy,λ_=>⟨hP _ _ _ k4,by rw[AW.put_next];exact hn3,AW.get_put _ _ _⟩,λh=>by cases h⟩
    ·refine⟨false,W3.put W.next (.loop .done x.jump R nt ps ac bd),?_,λh=>by(cases h),λ_=>⟨x,kx,hQ _ _ _ k4,AW.get_put _ _ _⟩⟩;refine hy.trans ?_;cases x with
     |normal=>exact absurd rfl kx
     |exit i=>rfl
     |ret=>rfl)
 rcases h2 with⟨h2,h3,h4⟩|⟨x,h2,h3,h4⟩
 ·exact⟨.normal,W2,CO h1 h4 (by simp),.inl ⟨rfl,h2⟩⟩
 ·exact⟨x,W2,M5 h1 h4,.inr ⟨h2,h3⟩⟩
theorem a0W{v:Ven}{sv:Value}{W0 W:AW}{bx nt:Nat}{R:Nat->Value}{ps:Array Tmp}{ac bd:Code}{ρ:Type}{K:X×AW->Option ρ}{G:ρ->Prop}(hs:Secs W0 sv v.secs)(hg:Good v.secs)
 (hb:aP (.pointer (some ⟨bx,3,none⟩)) (W.add (.loop .ready none R nt ps ac bd))=some (sv,W.add (.loop .ready none R nt ps ac bd)))(hp:ps.size=1)
 (J:List RowT->AW->Prop)(Q:X->AW->Prop)(h0:J [] (W.add (.loop .ready none R nt ps ac bd)))
 (hS:∀pre W',J pre W'->Le W0 W')(hA:∀pre W' cs,J pre W'->W.next<W'.next->J pre (W'.add (.cells cs)))(hP:∀pre W' o,J pre W'->J pre (W'.put W.next o))(hQ:∀x W' o,Q x W'->Q x (W'.put W.next o))
 (d:Nat)(has:∀r W' R',R'=pW ps.toList [WN r] R->iI Tryz.prog aL false nt ac LT R' W' rG=some (.normal,dR R' (some d) (.pointer (some ⟨W'.next,0,none⟩)),W'.add (.cells [.int .i64 (r.sec:Int),.int .i64 (r.row:Int),.int .i64 r.first,.int .i64 r.many])))
 (step:∀pre r W' b R',R'=dR (pW ps.toList [WN r] R) (some d) (.pointer (some ⟨b,0,none⟩))->pre++[r]<+:fF v.secs->J pre W'->W.next<W'.next->rwCells W' b=some [.int .i64 (r.sec:Int),.int .i64 (r.row:Int),.int .i64 r.first,.int .i64 r.many]->W.next<b->b<W'.next->
   Ok (iI Tryz.prog aL false nt bd LT R' W' rG) λq=>W'.next<=q.2.2.next/\q.2.2.get W.next=W'.get W.next/\((q.1=.normal/\J (pre++[r]) q.2.2)\/(q.1≠ .normal/\Q q.1 q.2.2)))
 (after:∀x W2,(x=.normal/\J (fF v.secs) W2)\/(x≠ .normal/\Q x W2)->Ok (K (x,W2.kill W.next)) G):
 Ok (aA (mP aL (.func (.func 190) #[] #[.pointer (some ⟨bx,0,none⟩)]) (.loop .ready none R nt ps ac bd) W) K) G:=by
 obtain⟨x,W2,h1,h2⟩:=ZK hs hg hb hp J Q h0 hS hA hP hQ d has step;rw[h1,uT];exact after x W2 h2
def dJ(l:List RowT):Int:=jX (l.map (·.many))
def Firsts:Int->List RowT->Prop
 |_,[]=>True
 |s,r::l=>r.first=s/\Firsts (s+r.many) l
theorem lJ:dJ []=0:=rfl
theorem eQ(r:RowT)(l:List RowT):dJ (r::l)=r.many+dJ l:=rfl
theorem nD(a b:List RowT):dJ (a++b)=dJ a+dJ b:=by
 induction a with
 |nil=>simp[lJ]
 |cons r a ih=>rw[List.cons_append,eQ,eQ,ih];omega
theorem Firsts.append:∀{a b:List RowT} {s:Int},Firsts s a->Firsts (s+dJ a) b->Firsts s (a++b)
 |[],_,s,_,h=>by rw[lJ,Int.add_zero]at h;exact h
 |r::a,b,s,⟨h1,h2⟩,h=>⟨h1,Firsts.append h2 (by rw[eQ,<-Int.add_assoc]at h;exact h)⟩
theorem Firsts.at:∀{a b:List RowT} {r:RowT} {s:Int},Firsts s (a++r::b)->r.first=s+dJ a
 |[],_,_,s,⟨h,_⟩=>by rw[h,lJ,Int.add_zero]
 |x::a,b,r,s,⟨_,h⟩=>by rw[Firsts.at h,eQ,Int.add_assoc]
theorem LJ(l:List Sec)(i:Nat)(rows:List Int):∀{k:Nat},k<=rows.length->dJ (D9 l i rows k)=jX (rows.take k)
 |0,_=>rfl
 |k+1,hk=>by rw[rO l i rows (by omega),nD,LJ l i rows (by omega),rM (by omega),eQ,lJ,Int.add_zero]
theorem IZ(l:List Sec)(i:Nat)(rows:List Int):∀{k:Nat},k<=rows.length->Firsts (bR (l.take i)) (D9 l i rows k)
 |0,_=>trivial
 |k+1,hk=>by rw[rO l i rows (by omega)];exact(IZ l i rows (by omega)).append ⟨by rw[LJ l i rows (by omega)],trivial⟩
theorem GU(l:List Sec):∀{n:Nat},n<=l.length->dJ (tC l n)=bR (l.take n)
 |0,_=>rfl
 |n+1,hn=>by rw[o7 l (by omega),nD,GU l (by omega),LJ l n _ (Nat.le_refl _),rT (by omega),List.take_length]
theorem E5(l:List Sec):∀{n:Nat},n<=l.length->Firsts 0 (tC l n)
 |0,_=>trivial
 |n+1,hn=>by rw[o7 l (by omega)];refine(E5 l (by omega)).append ?_;rw[GU l (by omega),Int.zero_add];exact IZ l n _ (Nat.le_refl _)
theorem UQ(l:List Sec):dJ (fF l)=bR l:=by have:=GU l (Nat.le_refl l.length);rwa [List.take_length]at this
theorem IY(l:List Sec):Firsts 0 (fF l):=E5 l (Nat.le_refl _)
def RowOf(l:List Sec)(r:RowT):Prop:=∃(hi:r.sec<l.length) (hk:r.row<l[r.sec].rows.length),r.many=l[r.sec].rows[r.row]
theorem xE{l:List Sec}{r:RowT}(h:r∈fF l):RowOf l r:=by unfold fF tC at h;obtain⟨i,hi,h⟩:=List.mem_flatMap.1 h;rw[List.mem_range]at hi;rw[List.getElem?_eq_getElem hi]at h;unfold D9 at h;obtain⟨k,hk,rfl⟩:=List.mem_map.1 h;rw[List.mem_range]at hk;exact⟨hi,hk,by simp[List.getD_eq_getElem?_getD,List.getElem?_eq_getElem hk]⟩
theorem RowOf.many{l:List Sec}{r:RowT}(h:RowOf l r)(hg:Good l):1<=r.many/\r.many<=64/\r.sec<8/\r.row<16:=by obtain⟨hi,hk,hm⟩:=h;obtain⟨_,h2,h3⟩:=hg.rows _ (List.getElem_mem hi);have:=h3 _ (List.getElem_mem hk);have:=hg.len;omega
theorem FK{l:List RowT}(h:∀r∈l,1<=r.many):(l.length:Int)<=dJ l:=by
 induction l with
 |nil=>simp[lJ]
 |cons r l ih=>
  have h1:=h r (by simp);have h2:=ih λx hx=>h x (by simp[hx])
  rw[eQ,List.length_cons];omega
theorem QK{a l:List RowT}(h:a<+:l)(hm:∀r∈l,1<=r.many):0<=dJ a/\dJ a<=dJ l:=by
 obtain⟨b,rfl⟩:=h;have h1:=FK (l:=a) λr hr=>hm r (by simp[hr])
 have h2:=FK (l:=b) λr hr=>hm r (by simp[hr])
 rw[nD];omega
theorem a2F{l:List Sec}(hg:Good l):0<=bR l/\bR l<=8192:=by have h:=(F6 hg (Nat.le_refl l.length));rw[List.take_length]at h;have:=hg.len;omega
theorem VK{l:List Sec}(hg:Good l){pre:List RowT}{r:RowT}(h:pre++[r]<+:fF l):RowOf l r/\r.first=dJ pre/\0<=dJ pre/\dJ (pre++[r])<=8192/\1<=r.many/\r.many<=64/\dJ (pre++[r])=dJ pre+r.many:=by
 have hm:∀r∈fF l,1<=r.many:=λr hr=>((xE hr).many hg).1
 have hr:r∈fF l:=h.subset (by simp);have h1:=QK h hm;have h2:=QK ((List.prefix_append pre [r]).trans h) hm;rw[UQ]at h1;obtain⟨b,hb⟩:=h;have hf:=IY l;rw[<-hb,List.append_assoc]at hf;have:=Firsts.at hf;have hx:=(xE hr).many hg;have:=a2F hg;refine⟨xE hr,by omega,by omega,by omega,by omega,by omega,?_⟩;rw[nD,eQ,lJ,Int.add_zero]
theorem PG(l:List Sec)(i:Nat)(rows:List Int):∀{k:Nat},k<=rows.length->V7 i rows k=(D9 l i rows k).flatMap λr=>N8 r.sec r.row r.many.toNat
 |0,_=>rfl
 |k+1,hk=>by rw[P7 i rows (by omega),rO l i rows (by omega),List.flatMap_append,<-PG l i rows (by omega),List.flatMap_cons,List.flatMap_nil,List.append_nil]
theorem WM(l:List Sec):mO l=(fF l).flatMap λr=>N8 r.sec r.row r.many.toNat:=by
 have:∀n,n<=l.length->XD l n=(tC l n).flatMap λr=>N8 r.sec r.row r.many.toNat:=by
  intro n;induction n with
  |zero=>intro _;rfl
  |succ n ih=>intro hn;rw[QT l (by omega),o7 l (by omega),List.flatMap_append,<-ih (by omega),<-PG l n _ (Nat.le_refl _)]
 exact this _ (Nat.le_refl _)
theorem oL3(x:Value)(W:AW):wV Tryz.prog 3 x W=aP x W:=by kernel_rfl
theorem al3(W:AW):bE Tryz.prog 3 W=some (.pointer (some ⟨W.next,0,none⟩),W.add (.cells [.int .i64 0])):=Eq.trans (by kernel_rfl) rfl
theorem aAE(W:AW):bE Tryz.prog 210 W=some (.pointer (some ⟨W.next,0,none⟩),W.add (.cells [.int .i64 0,.int .i64 0,.int .i64 0,.int .i64 0])):=Eq.trans (by kernel_rfl) rfl
theorem aBl{b:Nat}{a c d e x y z u:Value}{W:AW}(h:rwCells W b=some [x,y,z,u])(h1:Eng.one a=true)(h2:Eng.one c=true)(h3:Eng.one d=true)(h4:Eng.one e=true):fZ 4 (.pointer (some ⟨b,0,none⟩)) (.agg #[a,c,d,e]) W=some (undef,W.put b (.cells [a,c,d,e])):=by rw[YT,h,Option.bind_some];have hc:(Value.agg #[a,c,d,e]).cells=#[a,c,d,e]:=QB _;rw[hc,if_pos ⟨rfl,by simp,by simp[h1,h2,h3,h4]⟩];rfl
theorem stI{b:Nat}{x:Value}{n:Int}{W:AW}(h:rwCells W b=some [x]):fZ 1 (.pointer (some ⟨b,0,none⟩)) (.int .i64 n) W=some (undef,W.put b (.cells [.int .i64 n])):=by rw[a6R,h];rfl
theorem UD{b:Nat}{x:Value}{W:AW}(h:rwCells W b=some [x]):aP (.pointer (some ⟨b,0,none⟩)) W=some (x,W):=d9 (eH h) rfl
theorem a3q{v:Ven}{sv:Value}{W:AW}(hs:SecsC W sv v.secs)(hv:v.secs.length<1000):aL (.func (.func 67) #[] #[]) [sI v sv] W=some (.tuple #[.int .i64 (jC v).1,.int .i64 (jC v).2],W):=by
 refine aN rfl ?_ KX;unfold IA jC;obtain⟨W1,hB,hle,hn,c4,c0,c3⟩:=YR v sv W;have l2:Le W1 (W1.add (.cells [.int .i64 0])):=(Le.refl W1).add _;have hr:rwCells (W1.add (.cells [.int .i64 0])) W1.next=some [.int .i64 0]:=dQ;have hn2:W1.next<(W1.add (.cells [.int .i64 0])).next:=by rw[AW.add_next];omega
 simp only[SX,hB,al3];generalize W1.add (.cells [.int .i64 0])=W2 at *;simp only[SX,c4 _ l2,H8 (hs.mono (hle.trans l2)) hv];by_cases he:(j6 v).2=0;case neg=>simp only[SX,he,if_false,stI hr,kP,oL3,UD (fH _),Option.bind_some,aB];exact⟨trivial,(hle.trans l2).put (by have:=hle.next;omega) _⟩
 obtain⟨hg,-⟩:=oH he;obtain⟨W3,q1,q2,q3,q4⟩:=a1n (v:=v) (sv:=sv) W2;have l3:W1.next<W3.next:=by have:=q2.next;omega
 simp only[SX,decide_eq_true he,c4 _ l2,q1,if_pos he];refine a0W (hs.mono hle).1 hg (q4 _ ((Le.refl _).add _)) rfl (λpre W'=>Le W1 W'/\rwCells W' W1.next=some [.int .i64 (dJ pre)]) (λ_ _=>False) ⟨(l2.trans q2).add _,by rw[lK _ l3,q2.rwCells hn2];exact hr⟩ (λ_ _ h=>h.1)
  (λpre W' cs h hl=>⟨h.1.add _,by rw[lK _ (by omega)];exact h.2⟩) (λpre W' o h=>⟨h.1.put (by omega) _,by rw[dZ _ (by omega)];exact h.2⟩) (λ_ _ _ h=>h) 6 ?_ ?_ ?_
 ·intro r W' R' hR;have r17:R' 17=WN r:=by rw[hR];rfl
  rw[BA];unfold wK;simp only[SX,aAE,r17,aBl dQ (tJ _ _) (tJ _ _) (tJ _ _) (tJ _ _),pE]
 ·intro pre r W' b R' hR hpre ⟨h1,h2⟩ hl hb hb1 hb2;have r2:R' 2=.pointer (some ⟨W1.next,0,none⟩):=by rw[hR];rfl
  have r6:R' 6=.pointer (some ⟨b,0,none⟩):=by rw[hR];rfl
  clear hR;rw[BU];unfold wW;obtain⟨k1,k2,k3,k4,k5,k6,k7⟩:=VK hg hpre;have ea:=aQ (P:=Tryz.prog) (W:=W') (t:=3) (c:=false) (d:=false) (a:=dJ pre) (b:=r.many) (by omega) (by omega);simp only[SX,r2,r6,UD h2,jE (o:=3) hb rfl,ea,stI h2,Nat.zero_add,aB];exact⟨by rw[AW.put_next];omega,by rw[AW.get_put_ne _ _ (by omega)],.inl ⟨trivial,h1.put (Nat.le_refl _) _,by rw[k7];exact fH _⟩⟩
 ·rintro x W4 (⟨rfl,h1,h2⟩|⟨_,h⟩);case inr=>exact h.elim
  have h3:rwCells (W4.kill W3.next) W1.next=some [.int .i64 (dJ (fF v.secs))]:=by rw[<-h2];unfold rwCells;rw[AW.get_kill_ne _ (by omega)]
  simp only[SX,UD h3,stI h3,kP,oL3,UD (fH _),Option.bind_some,UQ,aB];exact⟨trivial,(hle.trans (h1.kill (by omega))).put (by have:=hle.next;omega) _⟩
abbrev aCB(r:RowT):List Value:=[.int .i64 (r.sec:Int),.int .i64 (r.row:Int),.int .i64 r.first,.int .i64 r.many]
theorem aBW(n:Int)(W:AW):∃W1,dK (.int .i64 n) W=some (.pointer (some ⟨W.next,0,none⟩),W1)/\W1.next=W.next+1/\Le W W1/\rwCells W1 W.next=some [.int .i64 n]:=
 ⟨_,KG _ _,AW.add_next _ _,(Le.refl W).add _,dQ⟩
theorem aBq(W:AW):∃W1,bE Tryz.prog 3 W=some (.pointer (some ⟨W.next,0,none⟩),W1)/\W1.next=W.next+1/\Le W W1/\rwCells W1 W.next=some [.int .i64 0]:=⟨_,al3 W,AW.add_next _ _,(Le.refl W).add _,dQ⟩
theorem a1q{W:AW}{b c:Nat}(h:b≠c):rwCells (W.kill b) c=rwCells W c:=by unfold rwCells;rw[W.get_kill_ne h]
theorem aAB{b:Nat}{a c d e:Int}{x y z u:Value}{W:AW}(h:rwCells W b=some [x,y,z,u]):fZ 4 (.pointer (some ⟨b,0,none⟩)) (.agg #[.int .i64 a,.int .i64 c,.int .i64 d,.int .i64 e]) W=some (undef,W.put b (.cells [.int .i64 a,.int .i64 c,.int .i64 d,.int .i64 e])):=aBl h rfl rfl rfl rfl
def aBt(seat:Int)(r:RowT):Bool:=decide (r.first<=seat)&&decide (seat<r.first+r.many)
abbrev zs:List Value:=[.int .i64 0,.int .i64 0,.int .i64 0,.int .i64 0]
abbrev aBk:RowT:=⟨0,0,0,0⟩
def Y9(v:Ven)(seat:Int):RowT×Int:=if(j6 v).2=0 then(match(fF v.secs).find? (aBt seat)with
 |some r=>(r,0)
 |none=>(aBk,4))else(aBk,(j6 v).2)
def fO(sec:Int)(r:RowT):Bool:=decide ((r.sec:Int)=sec)
def YS:List RowT->Int
 |[]=>0
 |r::_=>r.first
def IX(v:Ven)(sec:Int):Int×Int×Int:=if(j6 v).2=0 then
 if dJ ((fF v.secs).filter (fO sec))=0 then(0,0,4)else(YS ((fF v.secs).filter (fO sec)),dJ ((fF v.secs).filter (fO sec)),0)
 else(0,0,(j6 v).2)
theorem uZ{α:Type}{p:α->Bool}{pre:List α}{r:α}(h:p r=true):(pre++[r]).filter p=pre.filter p++[r]:=by simp[List.filter_append,h]
theorem MN{α:Type}{p:α->Bool}{pre:List α}{r:α}(h:p r=false):(pre++[r]).filter p=pre.filter p:=by simp[List.filter_append,h]
theorem a1E{l:List RowT}{r:RowT}(h:l≠[]):YS (l++[r])=YS l:=by
 cases l with
 |nil=>exact absurd rfl h
 |cons=>rfl
theorem aAy{v:Ven}{sv:Value}{W:AW}{sec:Int}(hs:SecsC W sv v.secs)(hv:v.secs.length<1000):aL (.func (.func 156) #[] #[]) [sI v sv,.int .i64 sec] W=some (.tuple #[.int .i64 (IX v sec).1,.int .i64 (IX v sec).2.1,.int .i64 (IX v sec).2.2],W):=by
 refine aN rfl ?_ WF;unfold V6 IX;obtain⟨W1,hB,hle,hn,c4,c0,c3⟩:=YR v sv W;obtain⟨W2,b2,n2,l2,r2⟩:=aBW sec W1;obtain⟨W3,b3,n3,l3,r3⟩:=aBq W2;obtain⟨W4,b4,n4,l4,r4⟩:=aBq W3;have r34:rwCells W4 W2.next=some [.int .i64 0]:=by rw[l4.rwCells (by omega)];exact r3
 have l24:=l3.trans l4;have l02:=hle.trans l2;have hsn:=hle.next;have e2:∀(W':AW) a b,rwCells ((W'.put W2.next (.cells a)).put W3.next b) W2.next=some a:=λW' a b=>by rw[dZ _ (by omega)];exact fH _
 have e3:∀(W':AW) a,rwCells (W'.put W2.next a) W3.next=rwCells W' W3.next:=λW' a=>dZ _ (by omega)
 simp only[SX,hB,b2,b3,b4,c4 _ (l2.trans l24),H8 (hs.mono (l02.trans l24)) hv];by_cases he:(j6 v).2=0;case neg=>simp only[SX,he,if_false,stI r34,stI ((e3 _ _).trans r4),LV,oL3,UD (e2 _ _ _),UD (fH _),Option.bind_some,aB];exact⟨trivial,((l02.trans l24).put (by omega) _).put (by omega) _⟩
 obtain⟨hg,-⟩:=oH he;obtain⟨W5,q1,q2,q3,q4⟩:=a1n (v:=v) (sv:=sv) W4;have hn5:=q2.next;simp only[SX,decide_eq_true he,c4 _ (l2.trans l24),q1,if_pos he];refine a0W (hs.mono l02).1 hg (q4 _ ((Le.refl _).add _)) rfl (λpre W'=>Le W2 W'/\rwCells W' W2.next=some [.int .i64 (YS (pre.filter (fO sec)))]/\rwCells W' W3.next=some [.int .i64 (dJ (pre.filter (fO sec)))])
  (λx W'=>False)
  ⟨(l24.trans q2).add _,by rw[lK _ (by omega),q2.rwCells (by omega)];exact r34,by rw[lK _ (by omega),q2.rwCells (by omega)];exact r4⟩ (λ_ _ h=>h.1)
  (λpre W' cs h hl=>⟨h.1.add _,by rw[lK _ (by omega)];exact h.2.1,by rw[lK _ (by omega)];exact h.2.2⟩)
  (λpre W' o h=>⟨h.1.put (by omega) _,by rw[dZ _ (by omega)];exact h.2.1,by rw[dZ _ (by omega)];exact h.2.2⟩)
  (λx W' o h=>h) 9 ?_ ?_ ?_
 ·intro r W' R' hR;have r17:R' 20=WN r:=by rw[hR];rfl
  rw[J6];unfold CR;simp only[SX,aAE,r17,aAB dQ,pE]
 ·intro pre r W' b R' hR hpre ⟨h1,h2,h3⟩ hl hb hb1 hb2;have f3:R' 3=.pointer (some ⟨W1.next,0,none⟩):=by rw[hR];rfl
  have f4:R' 4=.pointer (some ⟨W2.next,0,none⟩):=by rw[hR];rfl
  have f5:R' 5=.pointer (some ⟨W3.next,0,none⟩):=by rw[hR];rfl
  have f8:R' 9=.pointer (some ⟨b,0,none⟩):=by rw[hR];rfl
  clear hR;rw[J7];unfold EO;obtain⟨k1,k2,k3,k4,k5,k6,k7⟩:=VK hg hpre;have hse:rwCells W' W1.next=some [.int .i64 sec]:=by rw[h1.rwCells (by omega)];exact r2
  have hmp:∀x∈pre,1<=x.many:=λx hx=>((xE (((List.prefix_append pre [r]).trans hpre).subset hx)).many hg).1
  have hms:=FK (l:=pre.filter (fO sec)) (λx hx=>hmp x (List.mem_filter.1 hx).1);have hms2:dJ (pre.filter (fO sec))<=dJ pre:=by
   have:∀l:List RowT,(∀x∈l,1<=x.many)->dJ (l.filter (fO sec))<=dJ l:=by
    intro l;induction l with
    |nil=>intro _;exact Int.le_refl _
    |cons x l ih=>
     intro h;have:=ih λy hy=>h y (by simp[hy])
     have:=h x (by simp);rw[List.filter_cons];split
     ·rw[eQ,eQ];omega
     ·rw[eQ];omega
   exact this _ hmp
  have ea:∀W',aH Tryz.prog .add 3 false false (.int .i64 (dJ (pre.filter (fO sec)))) (.int .i64 r.many) W'=some (.int .i64 (dJ (pre.filter (fO sec))+r.many),W'):=λW'=>aQ (by omega) (by omega)
  simp only[SX,f3,f8,UD hse,jE (o:=0) hb rfl,Nat.zero_add];by_cases t1:(r.sec:Int)=sec;case neg=>have hin:fO sec r=false:=decide_eq_false t1;simp only[SX,t1,aB];exact⟨Nat.le_refl _,trivial,.inl ⟨trivial,h1,by rw[MN hin];exact h2,by rw[MN hin];exact h3⟩⟩
  have hin:fO sec r=true:=decide_eq_true t1;have hms3:dJ (pre.filter (fO sec)++[r])=dJ (pre.filter (fO sec))+r.many:=by rw[nD,eQ,lJ,Int.add_zero]
  simp only[SX,decide_eq_true t1,f5,UD h3];by_cases t2:dJ (pre.filter (fO sec))=0
  ·have hnil:pre.filter (fO sec)=[]:=by rw[t2]at hms;exact List.length_eq_zero_iff.1 (by omega)
   have hb':rwCells (W'.put W2.next (.cells [.int .i64 r.first])) b=some (aCB r):=by rw[dZ _ (by omega)];exact hb
   simp only[SX,decide_eq_true t2,f4,f5,f8,jE (o:=2) hb rfl,jE (o:=3) hb' rfl,Nat.zero_add,stI h2,UD ((e3 _ _).trans h3),ea,stI ((e3 _ _).trans h3),aB];exact⟨Nat.le_refl _,by rw[AW.get_put_ne _ _ (by omega),AW.get_put_ne _ _ (by omega)],.inl ⟨trivial,(h1.put (by omega) _).put (by omega) _,by rw[e2,uZ hin,hnil];rfl,by rw[fH,uZ hin,hms3]⟩⟩
  ·have hne:pre.filter (fO sec)≠[]:=λe=>t2 (by rw[e];rfl)
   simp only[SX,t2,f4,f5,f8,jE (o:=3) hb rfl,Nat.zero_add,UD h3,ea,stI h3,aB];exact⟨Nat.le_refl _,by rw[AW.get_put_ne _ _ (by omega)],.inl ⟨trivial,h1.put (by omega) _,by rw[dZ _ (by omega),uZ hin,a1E hne];exact h2,by rw[fH,uZ hin,hms3]⟩⟩
 ·rintro x W6 (⟨rfl,h1,h2,h3⟩|⟨_,h⟩);case inr=>exact h.elim
  have k2:rwCells (W6.kill W5.next) W2.next=some [.int .i64 (YS ((fF v.secs).filter (fO sec)))]:=by rw[a1q (by omega)];exact h2
  have k3:rwCells (W6.kill W5.next) W3.next=some [.int .i64 (dJ ((fF v.secs).filter (fO sec)))]:=by rw[a1q (by omega)];exact h3
  simp only[SX,UD k3];by_cases t2:dJ ((fF v.secs).filter (fO sec))=0
  ·simp only[SX,decide_eq_true t2,if_pos t2,stI k2,stI ((e3 _ _).trans k3),LV,oL3,UD (e2 _ _ _),UD (fH _),Option.bind_some,aB];exact⟨trivial,(((l02.trans h1).kill (by omega)).put (by omega) _).put (by omega) _⟩
  ·have hag:UE true (some (.int .i64 (dJ ((fF v.secs).filter (fO sec))),(W6.kill W5.next).put W2.next (.cells [.int .i64 (YS ((fF v.secs).filter (fO sec)))]))) (.int .i64 (dJ ((fF v.secs).filter (fO sec))))=true:=a3e rfl (zJ _ _);simp only[SX,t2,if_neg t2,UD k2,UD k3,stI k2,UD ((e3 _ _).trans k3),hag,Bool.and_self,stI ((e3 _ _).trans k3),LV,oL3,UD (e2 _ _ _),UD (fH _),Option.bind_some,aB];exact⟨by simp only[if_false],(((l02.trans h1).kill (by omega)).put (by omega) _).put (by omega) _⟩
def aB8(v:Ven)(seat:Int):Plc×Int:=if(Y9 v seat).2=0 then(((Y9 v seat).1.sec,(Y9 v seat).1.row,(seat-(Y9 v seat).1.first).toNat),0)else((0,0,0),(Y9 v seat).2)
abbrev aCv(p:Plc):Value:=.agg #[.int .i64 (p.1:Int),.int .i64 (p.2.1:Int),.int .i64 (p.2.2:Int)]
theorem Plcs.get{W:AW}{v:Value}{l:List Plc}(h:Plcs W v l){i:Nat}(hi:i<l.length):∃b o,(∀W' k,jI 3 v (.int k (i:Int)) W'=some (.pointer (some ⟨b,o,none⟩),W'))/\
 ∀W',Le W W'->aP (.pointer (some ⟨b,o,none⟩)) W'=some (.int .i64 (l[i].1:Int),W')/\aP (.pointer (some ⟨b,o+1,none⟩)) W'=some (.int .i64 (l[i].2.1:Int),W')/\eU 3 (.pointer (some ⟨b,o,none⟩)) W'=some (aCv l[i],W'):=by
 obtain⟨a,c,rfl,h⟩:=h;rcases h with rfl|⟨b,o,cs,rfl,hb,hc,hat⟩
 ·simp at hi
 ·refine⟨b,o+i*3,λW' k=>nC hi,λW' hle=>?_⟩;have hc':=(hle.cellsAt hb).trans hc;obtain⟨h1,h2,h3⟩:=hat i hi;refine⟨d9 hc' h1,d9 hc' h2,?_⟩;have:=a4R h1 h2 h3;rw[AP,hc',Option.bind_some,this];rfl
def a7t{α:Type}(p:α->Bool)(l:List α):Nat:=if(l.filter p).length=0 then 0 else l.findIdx p
def o5(sec:Int)(q:Plc):Bool:=decide ((q.1:Int)=sec)
def a0q(v:Ven)(sec:Int):Int×Int×Int:=if(j6 v).2=0 then
 if((mO v.secs).filter (o5 sec)).length=0 then(0,0,4)else((a7t (o5 sec) (mO v.secs):Nat),(((mO v.secs).filter (o5 sec)).length:Nat),0)
 else(0,0,(j6 v).2)
def sZ(r:RowT):List Plc:=N8 r.sec r.row r.many.toNat
theorem FU(r:RowT):(sZ r).length=r.many.toNat:=by simp[sZ,N8]
theorem P6{sec:Int}{r:RowT}(h:fO sec r=true):∀q∈sZ r,o5 sec q=true:=by intro q hq;unfold sZ N8 at hq;obtain⟨j,_,rfl⟩:=List.mem_map.1 hq;exact h
theorem YE{sec:Int}{r:RowT}(h:fO sec r=false):∀q∈sZ r,o5 sec q=false:=by intro q hq;unfold sZ N8 at hq;obtain⟨j,_,rfl⟩:=List.mem_map.1 hq;exact h
theorem CQ{sec:Int}:∀{L:List RowT},(∀r∈L,1<=r.many)->(((L.flatMap sZ).filter (o5 sec)).length:Int)=dJ (L.filter (fO sec))
 |[],_=>rfl
 |r::L,hm=>by
  have hr:=hm r (by simp);have ih:=CQ (sec:=sec) (L:=L) (λy hy=>hm y (by simp[hy]));rw[List.flatMap_cons,List.filter_append,List.length_append,List.filter_cons];cases h:fO sec r with
  |true=>rw[if_pos rfl,eQ,<-ih,List.filter_eq_self.2 (P6 h),FU];omega
  |false=>rw[if_neg (by simp),<-ih,List.filter_eq_nil_iff.2 (λq hq=>by rw[YE h q hq];simp)];simp
theorem BV{sec:Int}:∀{L:List RowT} {s:Int} {r0:RowT} {l0:List RowT},Firsts s L->(∀r∈L,1<=r.many)->L.filter (fO sec)=r0::l0->s+((L.flatMap sZ).findIdx (o5 sec):Int)=r0.first
 |[],_,_,_,_,_,h=>by cases h
 |r::L,s,r0,l0,⟨hf,hF⟩,hm,h=>by
  have hr:=hm r (by simp);rw[List.flatMap_cons];rw[List.filter_cons]at h;cases hs:fO sec r with
  |true=>
   rw[hs,if_pos rfl]at h;injection h with h1 h2;subst h1;have:((sZ r++L.flatMap sZ).findIdx (o5 sec))=0:=by
    cases hc:sZ r with
    |nil=>have:=FU r;rw[hc]at this;simp at this;omega
    |cons q l=>have:=P6 hs q (by rw[hc];simp);rw[List.cons_append,List.findIdx_cons,this];rfl
   rw[this];omega
  |false=>
   rw[hs,if_neg (by simp)]at h;have ih:=BV hF (λy hy=>hm y (by simp[hy])) h;have hn:(sZ r).findIdx (o5 sec)=(sZ r).length:=by rw[List.findIdx_eq_length];intro x hx;exact YE hs x hx
   rw[List.findIdx_append,hn,if_neg (by omega),FU];omega
theorem a8G(v:Ven)(sec:Int):a0q v sec=IX v sec:=by
 unfold a0q IX;by_cases he:(j6 v).2=0;case neg=>rw[if_neg he,if_neg he]
 rw[if_pos he,if_pos he];obtain⟨hg,-⟩:=oH he;have hm:∀x∈fF v.secs,1<=x.many:=λx hx=>((xE hx).many hg).1
 have hc:=CQ (sec:=sec) hm;have hpl:(fF v.secs).flatMap sZ=mO v.secs:=(WM v.secs).symm;rw[hpl]at hc;by_cases h0:((mO v.secs).filter (o5 sec)).length=0
 ·rw[if_pos h0,if_pos (by omega)]
 ·rw[if_neg h0,if_neg (by omega)];have hf:((a7t (o5 sec) (mO v.secs):Nat):Int)=YS ((fF v.secs).filter (fO sec)):=by
   unfold a7t;rw[if_neg h0];cases hl:(fF v.secs).filter (fO sec)with
   |nil=>rw[hl]at hc;rw[lJ]at hc;omega
   |cons r l=>have:=BV (IY v.secs) hm hl;rw[hpl]at this;show _=r.first;omega
  rw[hf,hc]
def a9T(v:Ven)(seat:Int):Plc×Int:=if(jC v).2=0 then(if seat<0\/(jC v).1<=seat then((0,0,0),4)else((mO v.secs).getD seat.toNat (0,0,0),0))else((0,0,0),(jC v).2)
end Go.Proofs.YtnigceddndemkaaGreatDoor
namespace Go.Proofs.YtnigceddndemkaaGreatDoor.Ho
open Go Go.Eng Go.Hp
set_option maxRecDepth 100000
theorem a6a{o t:Option (Value×AW)}{v:Value}{W W':AW}(hv:(aX v&& !isU v)=false)(h:Ok t λr=>r=(v,W'))(hom:∀{r},t=some r->o=some (gc W r)):o=some (v,W'):=by obtain⟨r,h1,rfl⟩:=h;rw[hom h1,dV hv]
theorem Gr.mono{W W':AW}{A B:Nat->Prop}(h:Gr W W' A)(hs:∀b,A b->B b):Gr W W' B:=⟨h.next,λb hb hn=>h.get b hb λha=>hn (hs b ha)⟩
theorem Le.gr{W W':AW}(h:Le W W')(In:Nat->Prop):Gr W W' In:=⟨h.next,λb hb _=>h.get b hb⟩
structure St where
 q:Nat
 mh:Nat
 hm:Nat
 nx:Int
 n:Nat
 f:Nat->En
abbrev St.es(s:St):List (Int×Int):=vG s.n s.f
abbrev HT(W:AW)(In:Nat->Prop)(H:Nat)(many:Nat)(s:St):Prop:=HS W In H s.q s.mh s.hm (many:Int) s.nx s.n s.f
def SlS(W:AW)(B:Nat)(v:Value)(xs:List SeT):Prop:=(xs=[]/\v=.slice none 0 0)\/(xs≠[]/\B<W.next/\v=.slice (some ⟨B,0,none⟩) xs.length (bS+5)/\W.get B=some (.cells (xs.flatMap eZ)))
section
variable {W W':AW} {B:Nat} {v:Value} {xs:List SeT}
theorem SlS.keep(h:SlS W B v xs)(hn:W.next<=W'.next)(hg:xs≠[]->W'.get B=W.get B):SlS W' B v xs:=by
 rcases h with h|⟨h0,h1,h2,h3⟩
 ·exact .inl h
 ·exact .inr ⟨h0,by omega,h2,by rw[hg h0];exact h3⟩
theorem SlS.lt(h:SlS W B v xs)(h0:xs≠[]):B<W.next:=by
 rcases h with⟨h,-⟩|⟨-,h1,-⟩
 ·exact absurd h h0
 ·exact h1
theorem SlS.ix(h:SlS W B v xs){j:Nat}{x:SeT}(hj:xs[j]? =some x)(W':AW)(k:IntKind):jI 5 v (.int k (j:Int)) W'=some (.pointer (some ⟨B,j*5,none⟩),W'):=by
 obtain⟨hi,-⟩:=List.getElem?_eq_some_iff.1 hj;rcases h with⟨rfl,-⟩|⟨h0,h1,rfl,h3⟩
 ·simp at hi
 ·have:=nC (W:=W') (z:=5) (b:=B) (o:=0) (l:=xs.length) (c:=bS+5) (i:=j) (k:=k) hi;rwa [Nat.zero_add]at this
theorem SlS.cells(h:SlS W B v xs){j:Nat}{x:SeT}(hj:xs[j]? =some x):W.get B=some (.cells (xs.flatMap eZ)):=by
 obtain⟨hi,-⟩:=List.getElem?_eq_some_iff.1 hj;rcases h with⟨rfl,-⟩|⟨h0,h1,rfl,h3⟩
 ·simp at hi
 ·exact h3
theorem SlS.all(h:SlS W B v xs){j:Nat}{x:SeT}(hj:xs[j]? =some x):eU 5 (.pointer (some ⟨B,j*5,none⟩)) W=some (pU x,W):=by rw[AP,bC (h.cells hj)];simp only[Option.bind_some,QU gV hj,gV,if_true]
theorem SlS.st(h:SlS W B v xs){j:Nat}{x:SeT}(hj:xs[j]? =some x):aP (.pointer (some ⟨B,j*5,none⟩)) W=some (.int .i64 x.st,W):=d9 (bC (h.cells hj)) (oG (o:=0) gV hj (by omega))
theorem SlS.put(h:SlS W B v xs){j:Nat}{x:SeT}(hj:xs[j]? =some x)(y:SeT):fZ 5 (.pointer (some ⟨B,j*5,none⟩)) (pU y) W=some (undef,W.put B (.cells ((xs.set j y).flatMap eZ)))/\SlS (W.put B (.cells ((xs.set j y).flatMap eZ))) B v (xs.set j y):=by
 obtain⟨hi,-⟩:=List.getElem?_eq_some_iff.1 hj;refine⟨?_,?_⟩
 ·have:=xY (n:=5) (b:=B) (o:=j*5) (v:=pU y) (h.cells hj) rfl (by show j*5+5<=_;rw[aR gV];omega) rfl;rw[this];show some (undef,W.put B (.cells (iX (xs.flatMap eZ) (j*5) (eZ y))))=_;rw[BX gV hj]
 ·rcases h with⟨rfl,-⟩|⟨h0,h1,rfl,h3⟩
  ·simp at hi
  ·exact .inr ⟨λe=>h0 ((List.set_eq_nil_iff _ _).1 e),h1,by rw[List.length_set],AW.get_put _ _ _⟩
theorem SlS.row(h:SlS W B v xs):SeL W v xs:=by
 have:Lst 0 W 5 eZ v xs:=by
  rcases h with h|⟨h0,h1,h2,h3⟩
  ·exact .inl h
  ·exact .inr ⟨h0,B,Nat.zero_le _,h1,h2,h3⟩
 exact Lst.seats this
end
structure Md where
 M:Nat
 SB:Nat
 k:Nat
 many:Nat
 v:Ven
 sv:Value
 W0:AW
 T:Nat->Nat
 H:Nat->Nat
 tv:Nat->Value
 A:Nat->Nat->Prop
 s:Nat->St
def shE(H:Nat->Nat)(tv:Nat->Value)(i:Nat):List Value:=[hP (H i),tv i]
theorem CK(H:Nat->Nat)(tv:Nat->Value)(i:Nat):(shE H tv i).length=2:=rfl
def shC(k:Nat)(H:Nat->Nat)(tv:Nat->Value):List Value:=(List.range k).flatMap (shE H tv)
abbrev mV(M:Nat):Value:=.pointer (some ⟨M,0,none⟩)
def LeX(X:Nat->Prop)(A V:AW):Prop:=A.next<=V.next/\∀b,b<A.next->¬X b->V.get b=A.get b
theorem LeX.next{X:Nat->Prop}{A V:AW}(h:LeX X A V):A.next<=V.next:=h.1
theorem LeX.get{X:Nat->Prop}{A V:AW}(h:LeX X A V)(b:Nat)(hb:b<A.next)(hx:¬X b):V.get b=A.get b:=h.2 b hb hx
theorem LeX.trans{X:Nat->Prop}{A V V':AW}(h:LeX X A V)(hl:Le V V'):LeX X A V':=⟨Nat.le_trans h.1 hl.next,λb hb hx=>(hl.get b (Nat.lt_of_lt_of_le hb h.1)).trans (h.2 b hb hx)⟩
theorem LeX.full{A V:AW}(h:LeX (λ_=>False) A V):Le A V:=⟨h.1,λb hb=>h.2 b hb λx=>x⟩
theorem LeX.of{X:Nat->Prop}{A V:AW}(h:Le A V):LeX X A V:=⟨h.next,λb hb _=>h.get b hb⟩
structure MapP (X K:Nat->Prop) (V:AW) (d:Md) (l:List SeT) (e:Nat->List (Int×Int)):Prop where
 up:∀b,V.next<=b->K b
 mc:V.get d.M=some (.cells [.int .i64 d.v.sh,.int .i64 d.v.ttl,.int .i64 d.v.ses,d.sv,.int .i64 (d.many:Int),.slice (some ⟨d.SB,0,none⟩) d.k d.k])
 ml:d.M<V.next
 kM:K d.M
 sc:V.get d.SB=some (.cells (shC d.k d.H d.tv))
 sl:d.SB<V.next
 sk:K d.SB
 ne:d.SB≠d.M
 vk:d.v.sh=(d.k:Int)
 kp:1<=d.k/\d.k<=16
 mn:d.many<=4096
 ll:l.length<=d.many
 col:∀i,i<d.k->SlS V (d.T i) (d.tv i) (fD l d.k i)
 tk:∀i,i<d.k->fD l d.k i≠[]->K (d.T i)/\d.T i≠d.M/\d.T i≠d.SB
 tt:∀i j,i<d.k->j<d.k->fD l d.k i≠[]->fD l d.k j≠[]->d.T i=d.T j->i=j
 ho:∀i,i<d.k->HT V (d.A i) (d.H i) d.many (d.s i)
 al:∀i,i<d.k->∀b,d.A i b->b<V.next
 ak:∀i,i<d.k->∀b,d.A i b->K b
 am:∀i,i<d.k->∀b,d.A i b->b≠d.M/\b≠d.SB
 at_:∀i j,i<d.k->j<d.k->fD l d.k j≠[]->¬d.A i (d.T j)
 aa:∀i j,i<d.k->j<d.k->∀b,d.A i b->d.A j b->i=j
 es:∀i,i<d.k->(d.s i).es.Perm (e i)
 w0:LeX X d.W0 V
 wk:∀b,K b->d.W0.next<=b
 secs:∀U,LeX X d.W0 U->SecsC U d.sv d.v.secs
section
variable {X K:Nat->Prop} {V:AW} {d:Md} {l:List SeT} {e:Nat->List (Int×Int)}
theorem aB9:((#[137]:Array TypeId)[0]?).bind Tryz.prog.underlying=some (.slice 144):=by kernel_rfl
theorem MapP.l4(h:MapP X K V d l e):aP (.pointer (some ⟨d.M,4,none⟩)) V=some (.int .i64 (d.many:Int),V):=jE (bU h.mc) rfl
theorem MapP.l5(h:MapP X K V d l e):aP (.pointer (some ⟨d.M,5,none⟩)) V=some (.slice (some ⟨d.SB,0,none⟩) d.k d.k,V):=jE (bU h.mc) rfl
theorem MapP.lv(h:MapP X K V d l e):eU 4 (.pointer (some ⟨d.M,0,none⟩)) V=some (sI d.v d.sv,V):=qP (bC h.mc) rfl
theorem wM(b k c:Nat)(W:AW):aG Tryz.prog .len #[137] 3 #[false] [.slice (some ⟨b,0,none⟩) k c] W=some (.int .i64 (k:Int),W):=iB aB9 _ _ _
theorem a1k{k i:Nat}(H:Nat->Nat)(tv:Nat->Value)(hi:i<k):(shC k H tv)[i*2]? =some (hP (H i))/\(shC k H tv)[i*2+1]? =some (tv i):=by have hr:(List.range k)[i]? =some i:=List.getElem?_range hi;exact⟨oG (o:=0) (CK H tv) hr (by omega),oG (o:=1) (CK H tv) hr (by omega)⟩
theorem MapP.h0(h:MapP X K V d l e){i:Nat}(hi:i<d.k):aP (.pointer (some ⟨d.SB,i*2,none⟩)) V=some (hP (d.H i),V):=jE (bU h.sc) (a1k _ _ hi).1
theorem MapP.h1(h:MapP X K V d l e){i:Nat}(hi:i<d.k):aP (.pointer (some ⟨d.SB,i*2+1,none⟩)) V=some (d.tv i,V):=jE (bU h.sc) (a1k _ _ hi).2
theorem TZ{b k i:Nat}(hi:i<k)(W:AW)(q:IntKind):jI 2 (.slice (some ⟨b,0,none⟩) k k) (.int q (i:Int)) W=some (.pointer (some ⟨b,i*2,none⟩),W):=by have:=nC (W:=W) (z:=2) (b:=b) (o:=0) (l:=k) (c:=k) (i:=i) (k:=q) hi;rwa [Nat.zero_add]at this
theorem YX(s k:Nat)(hk:0<k)(t:TypeId)(c d:Bool)(W:AW):aH Tryz.prog .rem t c d (.int .i64 (s:Int)) (.int .i64 (k:Int)) W=some (.int .i64 ((s % k:Nat):Int),W):=by rw[a4G (by omega)];rw[Int.tmod_eq_emod_of_nonneg (by omega)];rfl
theorem aBZ(s k:Nat)(hk:0<k)(hs:s<9223372036854775808)(t:TypeId)(c d:Bool)(W:AW):aH Tryz.prog .quo t c d (.int .i64 (s:Int)) (.int .i64 (k:Int)) W=some (.int .i64 ((s/k:Nat):Int),W):=by rw[MX (by omega)];rw[Int.tdiv_eq_ediv_of_nonneg (by omega)];have h1:((s:Int)/(k:Int))=((s/k:Nat):Int):=rfl;have h2:s/k<=s:=Nat.div_le_self _ _;rw[h1];generalize s/k=q at *;rw[rR (by omega) (by omega)]
theorem u28:Tryz.prog.underlying 28=some (.pointer 139):=by kernel_rfl
theorem aBS(b:Nat)(c d:Bool)(W:AW):aH Tryz.prog .neq 28 c d (.pointer (some ⟨b,0,none⟩)) (.pointer none) W=some (.bool true,W):=by unfold aH lY jY;simp only[u28];rfl
theorem a9M(h:MapP X K V d l e):aL (.func (.func 84) #[] #[]) [mV d.M] V=some (.bool true,V):=by refine aN rfl ?_ FL;unfold zU;have hk:decide ((0:Int)<(d.k:Int))=true:=decide_eq_true (by have:=h.kp.1;omega);simp only[SX,aBS,aD,Nat.zero_add,h.l5,wM,hk,aB];exact⟨trivial,Le.refl _⟩
theorem MM(h:MapP X K V d l e){s:Nat}{x:SeT}(hs:l[s]? =some x):aL (.func (.func 81) #[] #[]) [mV d.M,.int .i64 (s:Int)] V=some (.pointer (some ⟨d.T (s % d.k),s/d.k*5,none⟩),V):=by refine a6a rfl ?_ H5;unfold zZ;have hk:0<d.k:=h.kp.1;have hi:=Nat.mod_lt s hk;obtain⟨hlt,-⟩:=List.getElem?_eq_some_iff.1 hs;have:=h.ll;have:=h.mn;have hc:=JS hk hs;simp only[SX,aD,Nat.zero_add,h.l5,wM,YX s d.k hk,TZ hi,h.h1 hi,aBZ s d.k hk (by omega),(h.col _ hi).ix hc,aB]
end
theorem HS.same{W W':AW}{In In':Nat->Prop}{H q mh hm:Nat}{se nx nx':Int}{n n':Nat}{f f':Nat->En}(h:HS W In H q mh hm se nx n f)(h':HS W' In' H q mh hm se nx' n' f')(hq:W'.get q=W.get q):nx=nx'/\n=n':=by
 obtain⟨⟨lv,bl,k1,-⟩,-⟩:=h.qs;obtain⟨⟨lv',bl',k1',-⟩,-⟩:=h'.qs;rw[k1.qc,k1'.qc]at hq;injection hq with hq;injection hq with hq;simp only[List.cons.injEq,and_true]at hq;obtain⟨e1,-,-,e2⟩:=hq;injection e2 with _ e2;refine⟨e2.symm,?_⟩;have p1:=k1.pile.sl;have p2:=k1'.pile.sl;rw[e1]at p2;cases p1 with
 |nil h=>cases p2 with
  |nil h'=>rw[h,h']
 |row b j h1 h2 h3=>cases p2 with
  |row b' j' h1' h2' h3'=>rfl
theorem HS.ql{W:AW}{In:Nat->Prop}{H q mh hm:Nat}{se nx:Int}{n:Nat}{f:Nat->En}(h:HS W In H q mh hm se nx n f):q<W.next:=by obtain⟨⟨lv,bl,k1,-⟩,-⟩:=h.qs;exact k1.lt
section
variable {X K:Nat->Prop} {V V':AW} {d:Md} {l:List SeT} {e:Nat->List (Int×Int)}
theorem MapP.le(h:MapP X K V d l e)(hl:Le V V'):MapP X K V' d l e:=by
 have g:=λb hb=>hl.get b hb
 have hn:=hl.next
 exact{up:=λb hb=>h.up b (by omega),mc:=(g _ h.ml).trans h.mc,ml:=by have:=h.ml;omega,kM:=h.kM,sc:=(g _ h.sl).trans h.sc,sl:=by have:=h.sl;omega,sk:=h.sk,ne:=h.ne,vk:=h.vk,kp:=h.kp,mn:=h.mn,ll:=h.ll
       col:=λi hi=>(h.col i hi).keep hn λh0=>g _ ((h.col i hi).lt h0),tk:=h.tk,tt:=h.tt,ho:=λi hi=>(h.ho i hi).keep hn (λb hb _=>g b hb) (λb _ hx=>hx)
       al:=λi hi b hb=>by have:=h.al i hi b hb;omega
       ak:=h.ak,am:=h.am,at_:=h.at_,aa:=h.aa,es:=h.es,w0:=h.w0.trans hl,wk:=h.wk,secs:=h.secs}
theorem MapP.shift(h:MapP X K V d l e)(hl:Le V V'):MapP X (λb=>K b/\b<V.next\/V'.next<=b) V' d l e:=by
 have g:=λb hb=>hl.get b hb
 have hn:=hl.next
 exact{up:=λb hb=>.inr hb,mc:=(g _ h.ml).trans h.mc,ml:=by have:=h.ml;omega,kM:=.inl ⟨h.kM,h.ml⟩,sc:=(g _ h.sl).trans h.sc,sl:=by have:=h.sl;omega,sk:=.inl ⟨h.sk,h.sl⟩,ne:=h.ne,vk:=h.vk,kp:=h.kp,mn:=h.mn,ll:=h.ll
       col:=λi hi=>(h.col i hi).keep hn λh0=>g _ ((h.col i hi).lt h0),tk:=λi hi h0=>⟨.inl ⟨(h.tk i hi h0).1,(h.col i hi).lt h0⟩,(h.tk i hi h0).2⟩,tt:=h.tt,ho:=λi hi=>(h.ho i hi).keep hn (λb hb _=>g b hb) (λb _ hx=>hx)
       al:=λi hi b hb=>by have:=h.al i hi b hb;omega
       ak:=λi hi b hb=>.inl ⟨h.ak i hi b hb,h.al i hi b hb⟩,am:=h.am,at_:=h.at_,aa:=h.aa,es:=h.es,w0:=h.w0.trans hl
       wk:=λb hb=>by
        rcases hb with hb|hb
        ·exact h.wk b hb.1
        ·have:=h.w0.next;omega
       secs:=h.secs}
theorem MapP.weak{K':Nat->Prop}(h:MapP X K V d l e)(hk:∀b,K b->K' b)(hw:∀b,K' b->d.W0.next<=b):MapP X K' V d l e:=
 {h with up:=λb hb=>hk b (h.up b hb),kM:=hk _ h.kM,sk:=hk _ h.sk,tk:=λi hi h0=>⟨hk _ (h.tk i hi h0).1,(h.tk i hi h0).2⟩,ak:=λi hi b hb=>hk b (h.ak i hi b hb),wk:=hw}
theorem MapP.ent{e':Nat->List (Int×Int)}(h:MapP X K V d l e)(he:∀i,i<d.k->(e i).Perm (e' i)):MapP X K V d l e':={h with es:=λi hi=>(h.es i hi).trans (he i hi)}
theorem MapP.back{K':Nat->Prop}{U:AW}{l':List SeT}{e':Nat->List (Int×Int)}(hU:MapP X K' U d l e)(h:MapP X K V' d l' e')(hne:∀i,i<d.k->fD l' d.k i≠[]->fD l d.k i≠[])(hg:Le U V'):MapP X K' U d l' e':=by
 have hc:∀i,i<d.k->SlS U (d.T i) (d.tv i) (fD l' d.k i):=λi hi=>by
  rcases h.col i hi with k|⟨k0,k1,k2,k3⟩
  ·exact .inl k
  ·have ht:=(hU.col i hi).lt (hne i hi k0);exact .inr ⟨k0,ht,k2,(hg.get _ ht).symm.trans k3⟩
 exact{hU with ll:=h.ll,col:=hc,tk:=λi hi h0=>hU.tk i hi (hne i hi h0),tt:=λi j hi hj h0 h1=>hU.tt i j hi hj (hne i hi h0) (hne j hj h1),at_:=λi j hi hj h0=>hU.at_ i j hi hj (hne j hj h0),es:=h.es}
def Md.on(d:Md)(i:Nat)(V V':AW)(s':St):Md:={d with A:=λj b=>if j=i then(d.A i b\/V.next<=b)/\b<V'.next else d.A j b,s:=λj=>if j=i then s' else d.s j}
theorem MapP.on(h:MapP X K V d l e){i:Nat}(hi:i<d.k):HT V (λb=>d.A i b\/V.next<=b) (d.H i) d.many (d.s i)/\(∀b,(d.A i b\/V.next<=b)->K b)/\
 ∀V' s' ei,Gr V V' (λb=>d.A i b\/V.next<=b)->HT V' (λb=>d.A i b\/V.next<=b) (d.H i) d.many s'->s'.es.Perm ei->MapP X K V' (d.on i V V' s') l (λj=>if j=i then ei else e j):=by
 have hik:∀b,(d.A i b\/V.next<=b)->K b:=λb hb=>by
  rcases hb with hb|hb
  ·exact h.ak i hi b hb
  ·exact h.up b hb
 refine⟨(h.ho i hi).keep (Nat.le_refl _) (λ_ _ _=>rfl) (λb _ hb=>.inl hb),hik,λV' s' ei g hs he=>?_⟩;have hn:=g.next;have gM:V'.get d.M=V.get d.M:=g.get _ h.ml λhx=>by
  rcases hx with hx|hx
  ·exact(h.am i hi _ hx).1 rfl
  ·have:=h.ml;omega
 have gS:V'.get d.SB=V.get d.SB:=g.get _ h.sl λhx=>by
  rcases hx with hx|hx
  ·exact(h.am i hi _ hx).2 rfl
  ·have:=h.sl;omega
 have gT:∀j,j<d.k->fD l d.k j≠[]->V'.get (d.T j)=V.get (d.T j):=λj hj h0=>g.get _ ((h.col j hj).lt h0) λhx=>by
  rcases hx with hx|hx
  ·exact h.at_ i j hi hj h0 hx
  ·have:=(h.col j hj).lt h0;omega
 have hA:∀j b,(d.on i V V' s').A j b->(j=i/\(d.A i b\/V.next<=b)/\b<V'.next)\/(j≠i/\d.A j b):=λj b hb=>by
  have hb':(if j=i then(d.A i b\/V.next<=b)/\b<V'.next else d.A j b):=hb;split at hb'
  ·rename_i c;exact .inl ⟨c,hb'⟩
  ·rename_i c;exact .inr ⟨c,hb'⟩
 have hx:∀j,j<d.k->∀b,(d.on i V V' s').A j b->(b<V.next/\d.A j b)\/(j=i/\V.next<=b/\b<V'.next):=λj hj b hb=>by
  rcases hA j b hb with⟨rfl,h1|h1,h2⟩|⟨c,h1⟩
  ·exact .inl ⟨h.al j hj b h1,h1⟩
  ·exact .inr ⟨rfl,h1,h2⟩
  ·exact .inl ⟨h.al j hj b h1,h1⟩
 refine{up:=λb hb=>h.up b (by omega),mc:=gM.trans h.mc,ml:=by have:=h.ml;exact Nat.lt_of_lt_of_le this hn,kM:=h.kM,sc:=gS.trans h.sc,sl:=Nat.lt_of_lt_of_le h.sl hn,sk:=h.sk,ne:=h.ne,vk:=h.vk,kp:=h.kp,mn:=h.mn,ll:=h.ll,col:=λj hj=>(h.col j hj).keep hn (gT j hj),tk:=h.tk,tt:=h.tt,ho:=?_,al:=?_,ak:=?_,am:=?_,at_:=?_,aa:=?_,es:=?_,w0:=?_,wk:=h.wk,secs:=h.secs}
 ·intro j hj;by_cases c:j=i
  ·subst c;show HT V' (λb=>if j=j then _ else _) (d.H j) d.many (if j=j then s' else d.s j);simp only[if_true];exact hs.keep (Nat.le_refl _) (λ_ _ _=>rfl) (λb hb hx=>⟨hx,hb⟩)
  ·show HT V' (λb=>if j=i then _ else d.A j b) (d.H j) d.many (if j=i then s' else d.s j);simp only[if_neg c];exact(h.ho j hj).keep hn (λb hb hx=>g.get b hb λhy=>by
    rcases hy with hy|hy
    ·exact c (h.aa j i hj hi b hx hy)
    ·omega) (λb _ hx=>hx)
 ·intro j hj b hb;rcases hx j hj b hb with⟨h1,-⟩|⟨-,-,h1⟩
  ·omega
  ·exact h1
 ·intro j hj b hb;rcases hx j hj b hb with⟨-,h1⟩|⟨-,h1,-⟩
  ·exact h.ak j hj b h1
  ·exact h.up b h1
 ·intro j hj b hb;rcases hx j hj b hb with⟨-,h1⟩|⟨-,h1,-⟩
  ·exact h.am j hj b h1
  ·exact⟨by have:=h.ml;show b≠d.M;omega,by have:=h.sl;show b≠d.SB;omega⟩
 ·intro j m hj hm h0 hb;rcases hx j hj _ hb with⟨-,h1⟩|⟨-,h1,-⟩
  ·exact h.at_ j m hj hm h0 h1
  ·have:=(h.col m hm).lt h0;exact absurd h1 (by show¬V.next<=d.T m;omega)
 ·intro j m hj hm b hb hb2;rcases hx j hj _ hb with⟨h0,h1⟩|⟨h0,h1,-⟩<;>rcases hx m hm _ hb2 with⟨h2,h3⟩|⟨h2,h3,-⟩
  ·exact h.aa j m hj hm b h1 h3
  ·omega
  ·omega
  ·rw[h0,h2]
 ·intro j hj;show((if j=i then s' else d.s j):St).es.Perm (if j=i then ei else e j);by_cases c:j=i
  ·rw[if_pos c,if_pos c];exact he
  ·rw[if_neg c,if_neg c];exact h.es j hj
 ·refine⟨Nat.le_trans h.w0.next hn,λb hb hX=>(g.get b (Nat.lt_of_lt_of_le hb h.w0.next) λhy=>?_).trans (h.w0.get b hb hX)⟩;exact absurd hb (Nat.not_lt.2 (h.wk b (hik b hy)))
theorem MapP.set(h:MapP X K V d l e){s:Nat}{x:SeT}(hs:l[s]? =some x)(y:SeT):
 ∃V',fZ 5 (.pointer (some ⟨d.T (s % d.k),s/d.k*5,none⟩)) (pU y) V=some (undef,V')/\MapP X K V' d (l.set s y) e/\Gr V V' K/\V'.next=V.next/\∀b,b≠d.T (s % d.k)->V'.get b=V.get b:=by
 have hk:0<d.k:=h.kp.1;have hi:=Nat.mod_lt s hk;obtain⟨hlt,-⟩:=List.getElem?_eq_some_iff.1 hs;have hc:=JS hk hs;have h0:fD l d.k (s % d.k)≠[]:=λc=>by rw[c]at hc;simp at hc
 obtain⟨p1,p2⟩:=(h.col _ hi).put hc y;have hcol:∀i,i<d.k->fD (l.set s y) d.k i=if s % d.k=i then(fD l d.k i).set (s/d.k) y else fD l d.k i:=λi hi=>WK hi hlt
 have hnil:∀i,i<d.k->(fD (l.set s y) d.k i≠[]<->fD l d.k i≠[]):=λi hi=>by
  rw[hcol i hi];split
  ·rw[ne_eq,List.set_eq_nil_iff]
  ·exact Iff.rfl
 have tK:=h.tk _ hi h0;have hg:∀b,b≠d.T (s % d.k)->(V.put (d.T (s % d.k)) (.cells (((fD l d.k (s % d.k)).set (s/d.k) y).flatMap eZ))).get b=V.get b:=λb hb=>AW.get_put_ne _ _ λc=>hb c.symm
 refine⟨_,p1,?_,⟨Nat.le_refl _,λb hb hn=>hg b λc=>hn (by rw[c];exact tK.1)⟩,rfl,hg⟩
 exact{h with
  mc:=(hg _ λc=>tK.2.1 c.symm).trans h.mc,sc:=(hg _ λc=>tK.2.2 c.symm).trans h.sc,ll:=by rw[List.length_set];exact h.ll
  col:=λi hi'=>by
   rw[hcol i hi'];by_cases c:s % d.k=i
   ·subst c;rw[if_pos rfl];exact p2
   ·rw[if_neg c];exact(h.col i hi').keep (Nat.le_refl _) λh1=>hg _ λe=>c (h.tt i (s % d.k) hi' hi h1 h0 e).symm
  tk:=λi hi' h1=>h.tk i hi' ((hnil i hi').1 h1)
  tt:=λi j hi' hj h1 h2=>h.tt i j hi' hj ((hnil i hi').1 h1) ((hnil j hj).1 h2)
  ho:=λi hi'=>(h.ho i hi').keep (Nat.le_refl _) (λb hb hx=>hg b λc=>h.at_ i (s % d.k) hi' hi h0 (by rw[<-c];exact hx)) (λb _ hx=>hx)
  at_:=λi j hi' hj h1=>h.at_ i j hi' hj ((hnil j hj).1 h1)
  w0:=⟨h.w0.next,λb hb hX=>(hg b λc=>by have:=h.wk _ tK.1;omega).trans (h.w0.get b hb hX)⟩}
end
abbrev nP(k i:Nat):Nat->Bool:=λj=>j % k==i
abbrev RO(k i s:Nat):Nat->Bool:=λj=>nP k i j&& !(j==s)
theorem a3t{l:List SeT}{k i s:Nat}{p:Int×Int}(h:p∈bV l (RO k i s)):p.1≠(s:Int):=by
 obtain⟨j,h1,h2,h3,rfl⟩:=kQ.1 h;intro c;have:j=s:=by have c':(j:Int)=(s:Int):=c;omega
 simp[this]at h2
theorem a5W{l:List SeT}{k i s:Nat}(hs:s<l.length)(y:SeT):bV (l.set s y) (RO k i s)=bV l (RO k i s):=NJ (by rw[List.length_set]) λj hj hp=>by rw[CX hs,if_neg];intro c;subst c;simp at hp
theorem a8U{l:List SeT}{k i s:Nat}(hs:s<l.length)(hi:s % k≠i)(y:SeT):bV (l.set s y) (nP k i)=bV l (nP k i):=NJ (by rw[List.length_set]) λj hj hp=>by rw[CX hs,if_neg];intro c;subst c;exact hi (by simpa using hp)
theorem a8v{l:List SeT}{k s:Nat}(hs:s<l.length)(y:SeT):(bV (l.set s y) (nP k (s % k))).Perm (if y.st=1 then((s:Int),y.dl)::bV l (RO k (s % k) s)else bV l (RO k (s % k) s)):=by
 have:=KE (l:=l.set s y) (p:=nP k (s % k)) (s:=s) (by rw[List.length_set];exact hs) (by simp);have e:iK (l.set s y) s=y:=by rw[CX hs,if_pos rfl]
 unfold FB at this;rw[e]at this;have e2:=a5W (k:=k) (i:=s % k) hs y;unfold RO at e2;rw[e2]at this;exact this
def MapX(X K:Nat->Prop)(V:AW)(M k many:Nat)(v:Ven)(W0:AW)(N:Int)(l:List SeT):Prop:=
 ∃d:Md,d.M=M/\d.k=k/\d.many=many/\d.v=v/\d.W0=W0/\(∀i,i<k->(d.s i).nx<=N)/\l.length=many/\(∀x,x∈l->x9 x=0)/\MapP X K V d l λi=>bV l (nP k i)
abbrev MapS(K:Nat->Prop)(V:AW)(M k many:Nat)(v:Ven)(W0:AW)(N:Int)(l:List SeT):Prop:=MapX (λ_=>False) K V M k many v W0 N l
section
variable {X K:Nat->Prop} {V:AW} {d:Md} {l:List SeT} {e:Nat->List (Int×Int)}
theorem a03(h:MapP X K V d l e){i:Nat}(hi:i<d.k):(d.s i).n=(e i).length:=by have:=(h.es i hi).length_eq;rw[Y6]at this;exact this
theorem ZG(h:MapP X K V d l e){i:Nat}(hi:i<d.k){p:Int×Int}{r:List (Int×Int)}(hp:(e i).Perm (p::r))(hr:(e i).length<=4096):
 ∃V' s',aL (.func (.func 150) #[] #[]) [hP (d.H i),.int .i64 p.1] V=some (.tuple #[.int .i64 p.2,.int .i64 0],V')/\MapP X K V' (d.on i V V' s') l (λj=>if j=i then r else e j)/\Gr V V' K/\s'.q=(d.s i).q/\s'.mh=(d.s i).mh/\s'.hm=(d.s i).hm/\s'.nx=(d.s i).nx/\s'.n+1=(d.s i).n:=by
 obtain⟨o1,o2,o3⟩:=h.on hi;have hn:=a03 h hi;have hm:p∈(d.s i).es:=((h.es i hi).trans hp).mem_iff.2 (List.mem_cons_self ..);obtain⟨x,hx,ex⟩:=CY.1 hm;have hes:=h.es i hi;generalize hs:d.s i=s at *;obtain⟨q,mh,hm',nx,n,f⟩:=s;obtain⟨m,rfl⟩:∃m,n=m+1:=⟨n-1,by simp only at hx;omega⟩;simp only at hn hx ex hes;obtain⟨V',g,k1,k2,k3,k4⟩:=a5d o1 hx (by omega);rw[ex]at k1 k3;refine⟨V',⟨q,mh,hm',nx,m,g⟩,k1,o3 V' ⟨q,mh,hm',nx,m,g⟩ r k4 k2 ?_,k4.mono o2,rfl,rfl,rfl,rfl,rfl⟩;exact List.Perm.cons_inv (k3.trans (hes.trans hp))
theorem FF(h:MapP X K V d l e){i:Nat}(hi:i<d.k){p:Int×Int}(hp:∀x,x∈e i->x.1≠p.1)(hb:0<=p.1/\p.1<(d.many:Int)/\0<=p.2)(hr:(e i).length<=4096)(hnx:(d.s i).nx<1000000000000000):
 ∃V' s',aL (.func (.func 74) #[] #[]) [hP (d.H i),.int .i64 p.1,.int .i64 p.2] V=some (.int .i64 0,V')/\MapP X K V' (d.on i V V' s') l (λj=>if j=i then p::e i else e j)/\Gr V V' K/\s'.q=(d.s i).q/\s'.mh=(d.s i).mh/\s'.hm=(d.s i).hm/\s'.nx=(d.s i).nx+1/\s'.n=(d.s i).n+1:=by
 obtain⟨o1,o2,o3⟩:=h.on hi;have hn:=a03 h hi;have hes:=h.es i hi;generalize hs:d.s i=s at *;obtain⟨q,mh,hm',nx,n,f⟩:=s;simp only at hn hes hnx;have CB:CB (d.many:Int) p.1 p.2=false:=by unfold CB;rw[decide_eq_false (by omega),decide_eq_false (by omega),decide_eq_false (by omega)];rfl
 obtain⟨V',g,k1,k2,k3,k4⟩:=a7r o1 CB (λx hx c=>hp _ (hes.mem_iff.1 (CY.2 ⟨x,hx,rfl⟩)) c) (show n<5000 by omega) hnx (λb hb=>.inr hb);exact⟨V',⟨q,mh,hm',nx+1,n+1,g⟩,k1,o3 V' ⟨q,mh,hm',nx+1,n+1,g⟩ _ k4 k2 (k3.trans (List.Perm.cons _ hes)),k4.mono o2,rfl,rfl,rfl,rfl,rfl⟩
theorem MC{K':Nat->Prop}{V':AW}{d':Md}{l':List SeT}{e':Nat->List (Int×Int)}(h:MapP X K V d l e)(h':MapP X K' V' d' l' e'){i:Nat}(hi:i<d.k)(hi':i<d'.k)(hH:d'.H i=d.H i)(hm:d'.many=d.many)(hq:(d'.s i).q=(d.s i).q)(hmh:(d'.s i).mh=(d.s i).mh)(hhm:(d'.s i).hm=(d.s i).hm)(hl:Le V V'):(d.s i).nx=(d'.s i).nx/\(d.s i).n=(d'.s i).n:=by have a:=h.ho i hi;have b:=h'.ho i hi';unfold HT at a b;rw[hH,hm,hq,hmh,hhm]at b;exact a.same b (hl.get _ a.ql)
end
section
variable {X K:Nat->Prop} {V:AW} {M k many:Nat} {v:Ven} {W0:AW} {N:Int} {l:List SeT}
theorem tY(d:Md)(i:Nat)(V V':AW)(s':St)(j:Nat):(d.on i V V' s').s j=if j=i then s' else d.s j:=rfl
theorem YA{d:Md}(hnx:∀i,i<d.k->(d.s i).nx<=N)(hlen:l.length=d.many)(hok:∀x,x∈l->x9 x=0)(hM:MapP X K V d l λi=>bV l (nP d.k i)){s:Nat}{x y:SeT}(hs:l[s]? =some x)(hy:x9 y=0)(hN:N<1000000000000000):
 ∃V',aL (.func (.func 82) #[] #[]) [mV d.M,.int .i64 (s:Int),pU y] V=some (.tuple #[],V')/\MapX X K V' d.M d.k d.many d.v d.W0 (N+1) (l.set s y)/\Gr V V' K/\
  ∀(K':Nat->Prop) U,MapP X K' U d l (λi=>bV l (nP d.k i))->Le U V->Le U V'->MapP X K' U d (l.set s y) λi=>bV (l.set s y) (nP d.k i):=by
 have hk:0<d.k:=hM.kp.1;have hi:=Nat.mod_lt s hk;obtain⟨hlt,ex⟩:=List.getElem?_eq_some_iff.1 hs;have hmn:=hM.mn;have hx:x9 x=0:=hok x (by rw[<-ex];exact List.getElem_mem _);have sx:iK l s=x:=yA hs;have hdl:∀z:SeT,x9 z=0->z.st=1->0<=z.dl:=λz hz h1=>by rw[M8 h1]at hz;split at hz<;>omega
 have hok':∀z,z∈l.set s y->x9 z=0:=λz hz=>by
  rcases List.mem_or_eq_of_mem_set hz with c|c
  ·exact hok z c
  ·rw[c];exact hy
 have l1:Le V (V.add (.cells (eZ y))):=(Le.refl _).add _;have g1:(V.add (.cells (eZ y))).get V.next=some (.cells (eZ y)):=AW.get_add _ _;have n1:(V.add (.cells (eZ y))).next=V.next+1:=AW.add_next _ _;have p1:=hM.shift l1;have main:Ok (rY aL (mV d.M) (.int .i64 (s:Int)) (pU y) V) λr=>r.1=.tuple #[]/\MapX X K r.2 d.M d.k d.many d.v d.W0 (N+1) (l.set s y)/\Gr V r.2 K/\∀(K':Nat->Prop) U,MapP X K' U d l (λi=>bV l (nP d.k i))->Le U V->Le U r.2->MapP X K' U d (l.set s y) λi=>bV (l.set s y) (nP d.k i):=by
  unfold rY;simp only[SX,I1,Nat.zero_add];generalize V.add (.cells (eZ y))=V1 at *;obtain⟨K1,hK1⟩:∃K1:Nat->Prop,K1=λb=>K b/\b<V.next\/V1.next<=b:=⟨_,rfl⟩
  rw[<-hK1]at p1;have hK:∀b,K1 b->K b:=λb hb=>by
   rw[hK1]at hb;rcases hb with hb|hb
   ·exact hb.1
   ·exact hM.up b (by omega)
  have hKn:¬K1 V.next:=λhb=>by rw[hK1]at hb;rcases hb with hb|hb<;>omega
  have fin:∀(V2:AW) (d2:Md) (e2:Nat->List (Int×Int)),MapP X K1 V2 d2 l e2->d2.M=d.M->d2.k=d.k->d2.many=d.many->d2.v=d.v->d2.W0=d.W0->d2.T=d.T->(∀i,i<d.k->(d2.s i).nx<=N+1)->Gr V1 V2 K1->
   (∀i,i<d.k->(e2 i).Perm (bV (l.set s y) (nP d.k i)))->∃V3,fZ 5 (.pointer (some ⟨d.T (s % d.k),s/d.k*5,none⟩)) (pU y) V2=some (undef,V3)/\MapP X K1 V3 d2 (l.set s y) e2/\MapX X K V3 d.M d.k d.many d.v d.W0 (N+1) (l.set s y)/\Gr V V3 K:=by
   intro V2 d2 e2 p2 eM ek em ev eW eT hn2 gr he2;obtain⟨V3,q1,q2,q3,q4,q5⟩:=p2.set hs y;rw[eT,ek]at q1;refine⟨V3,q1,q2,⟨d2,eM,ek,em,ev,eW,hn2,by rw[List.length_set];exact hlen,hok',?_⟩,?_⟩
   ·exact(q2.ent λi hi'=>he2 i (by rw[<-ek];exact hi')).weak hK (by rw[eW];exact hM.wk)
   ·have g0:Gr V V2 K:=⟨Nat.le_trans l1.next gr.next,λb hb hn=>(gr.get b (by omega) λc=>hn (hK b c)).trans (l1.get b hb)⟩;exact g0.trans (q3.mono hK)
  have box:∀V2,Gr V1 V2 K1->V2.get V.next=some (.cells (eZ y)):=λV2 gr=>(gr.get _ (by omega) hKn).trans g1
  have aT:∀o V2,vsame (.pointer (some ⟨o,V2,none⟩)) (.pointer (some ⟨o,V2,none⟩))=true:=λo V2=>a2g _ _
  have hc:=JS hk hs;have hst:aP (.pointer (some ⟨d.T (s % d.k),s/d.k*5,none⟩)) V1=some (.int .i64 x.st,V1):=(p1.col _ hi).st hc;have at1:=MM p1 hs;have es0:(bV l (nP d.k (s % d.k))).length<=4096:=Nat.le_trans (qB _ _) (by omega);have eb0:(bV l (RO d.k (s % d.k) s)).length<=4096:=Nat.le_trans (qB _ _) (by omega);have hsp:=KE (l:=l) (p:=nP d.k (s % d.k)) (s:=s) hlt (by simp);rw[sx]at hsp;have hps:=a8v (k:=d.k) hlt y;have hoth:∀i,i<d.k->i≠s % d.k->(bV l (nP d.k i)).Perm (bV (l.set s y) (nP d.k i)):=λi _ hne=>by rw[a8U hlt (λc=>hne c.symm)]
  by_cases cx:x.st=1
  ·have dx:=decide_eq_true cx;rw[if_pos cx]at hsp;have hv:FB l s=((s:Int),x.dl):=by unfold FB;rw[sx]
   rw[hv]at hsp;obtain⟨V2,s2,r1,p2,gr2,e1,e2,e3,e4,e5⟩:=ZG p1 hi hsp es0;have b2:=box V2 gr2;have hn2:∀i,i<d.k->((d.on (s % d.k) V1 V2 s2).s i).nx<=N:=λi hi'=>by
    rw[tY];split
    ·rw[e4];exact hnx _ hi
    ·exact hnx i hi'
   by_cases cy:y.st=1
   ·have dy:=decide_eq_true cy;rw[if_pos cy]at hps;have hi2:s % d.k<(d.on (s % d.k) V1 V2 s2).k:=hi;obtain⟨V3,s3,t1,p3,gr3,f1,f2,f3,f4,f5⟩:=FF (p:=((s:Int),y.dl)) p2 hi2 (λz hz=>by rw[if_pos rfl]at hz;exact a3t hz) ⟨by show(0:Int)<=(s:Int);omega,by show(s:Int)<(d.many:Int);omega,hdl y hy cy⟩ (by rw[if_pos rfl];exact eb0) (by have:=hn2 _ hi;omega);have b3:=box V3 (gr2.trans gr3);have es3:∀i,i<d.k->((λj=>if j=s % d.k then((s:Int),y.dl)::(if s % d.k=s % d.k then bV l (RO d.k (s % d.k) s)else bV l (nP d.k (s % d.k)))else(if j=s % d.k then bV l (RO d.k (s % d.k) s)else bV l (nP d.k j))) i).Perm (bV (l.set s y) (nP d.k i)):=λi hi'=>by
     by_cases c:i=s % d.k
     ·simp only[c,if_true];exact hps.symm
     ·simp only[if_neg c];exact hoth i hi' c
    obtain⟨V4,u1,u2,u3,u4⟩:=fin V3 _ _ p3 rfl rfl rfl rfl rfl rfl (λi hi'=>by
     rw[tY];split
     ·rw[f4,tY,if_pos rfl,e4];have:=hnx _ hi;omega
     ·have:=hn2 i hi';omega) (gr2.trans gr3) es3;have at3:aL (.func (.func 81) #[] #[]) [mV d.M,.int .i64 (s:Int)] V3=some (.pointer (some ⟨d.T (s % d.k),s/d.k*5,none⟩),V3):=MM p3 hs;have h02:aP (.pointer (some ⟨d.SB,s % d.k*2,none⟩)) V2=some (hP (d.H (s % d.k)),V2):=p2.h0 hi2;have t1':aL (.func (.func 74) #[] #[]) [hP (d.H (s % d.k)),.int .i64 (s:Int),.int .i64 y.dl] V2=some (.int .i64 0,V3):=t1;simp only[SX,aD,Nat.zero_add,Nat.add_zero,p1.l5,wM,YX s d.k hk,TZ hi,at1,hst,dx,p1.h0 hi,r1,kK b2,dy,h02,oU b2,t1',cB b3,at3,iW,qA,Bool.and_true,u1,aB];refine⟨trivial,u3,u4,λK' U hU hUV hl=>?_⟩;have:=(MC hU u2 (i:=s % d.k) hi hi rfl rfl (by rw[tY,if_pos rfl,f1,tY,if_pos rfl,e1]) (by rw[tY,if_pos rfl,f2,tY,if_pos rfl,e2]) (by rw[tY,if_pos rfl,f3,tY,if_pos rfl,e3]) hl).1;rw[tY,if_pos rfl,f4,tY,if_pos rfl,e4]at this;omega
   ·have dy:=decide_eq_false cy;rw[if_neg cy]at hps;obtain⟨V4,u1,u2,u3,u4⟩:=fin V2 _ _ p2 rfl rfl rfl rfl rfl rfl (λi hi'=>by have:=hn2 i hi';omega) gr2 (λi hi'=>by
     by_cases c:i=s % d.k
     ·simp only[c,if_true];exact hps.symm
     ·simp only[if_neg c];exact hoth i hi' c);have at3:aL (.func (.func 81) #[] #[]) [mV d.M,.int .i64 (s:Int)] V2=some (.pointer (some ⟨d.T (s % d.k),s/d.k*5,none⟩),V2):=MM p2 hs;simp only[SX,aD,Nat.zero_add,Nat.add_zero,p1.l5,wM,YX s d.k hk,TZ hi,at1,hst,dx,p1.h0 hi,r1,kK b2,dy,cB b2,at3,iW,qA,Bool.and_true,u1,aB];refine⟨trivial,u3,u4,λK' U hU hUV hl=>?_⟩;have:=(MC hU u2 (i:=s % d.k) hi hi rfl rfl (by rw[tY,if_pos rfl,e1]) (by rw[tY,if_pos rfl,e2]) (by rw[tY,if_pos rfl,e3]) hl).2;rw[tY,if_pos rfl]at this;omega
  ·have dx:=decide_eq_false cx;rw[if_neg cx]at hsp;by_cases cy:y.st=1
   ·have dy:=decide_eq_true cy;rw[if_pos cy]at hps;obtain⟨V3,s3,t1,p3,gr3,f1,f2,f3,f4,f5⟩:=FF (p:=((s:Int),y.dl)) p1 hi (λz hz=>a3t (hsp.mem_iff.1 hz)) ⟨by show(0:Int)<=(s:Int);omega,by show(s:Int)<(d.many:Int);omega,hdl y hy cy⟩ es0 (by have:=hnx _ hi;omega);have b3:=box V3 gr3;obtain⟨V4,u1,u2,u3,u4⟩:=fin V3 _ _ p3 rfl rfl rfl rfl rfl rfl (λi hi'=>by
     rw[tY];split
     ·rw[f4];have:=hnx _ hi;omega
     ·have:=hnx i hi';omega) gr3 (λi hi'=>by
     by_cases c:i=s % d.k
     ·simp only[c,if_true];exact(List.Perm.cons _ hsp).trans hps.symm
     ·simp only[if_neg c];exact hoth i hi' c);have at3:aL (.func (.func 81) #[] #[]) [mV d.M,.int .i64 (s:Int)] V3=some (.pointer (some ⟨d.T (s % d.k),s/d.k*5,none⟩),V3):=MM p3 hs;have t1':aL (.func (.func 74) #[] #[]) [hP (d.H (s % d.k)),.int .i64 (s:Int),.int .i64 y.dl] V1=some (.int .i64 0,V3):=t1;simp only[SX,aD,Nat.zero_add,Nat.add_zero,p1.l5,wM,YX s d.k hk,TZ hi,at1,hst,dx,kK g1,dy,p1.h0 hi,oU g1,t1',cB b3,at3,iW,qA,Bool.and_true,u1,aB];refine⟨trivial,u3,u4,λK' U hU hUV hl=>?_⟩;have:=(MC hU u2 (i:=s % d.k) hi hi rfl rfl (by rw[tY,if_pos rfl,f1]) (by rw[tY,if_pos rfl,f2]) (by rw[tY,if_pos rfl,f3]) hl).2;rw[tY,if_pos rfl]at this;omega
   ·have dy:=decide_eq_false cy;rw[if_neg cy]at hps;obtain⟨V4,u1,u2,u3,u4⟩:=fin V1 d _ p1 rfl rfl rfl rfl rfl rfl (λi hi'=>by have:=hnx i hi';omega) (Gr.refl _ _) (λi hi'=>by
     by_cases c:i=s % d.k
     ·rw[c];exact hsp.trans hps.symm
     ·exact hoth i hi' c);simp only[SX,aD,Nat.zero_add,Nat.add_zero,p1.l5,wM,YX s d.k hk,TZ hi,at1,hst,dx,kK g1,dy,cB g1,iW,qA,Bool.and_true,u1,aB];refine⟨trivial,u3,u4,λK' U hU hUV hl=>?_⟩;refine hU.back (u2.ent λi hi'=>?_) (λi hi' h0=>?_) hl
    ·by_cases c:i=s % d.k
     ·rw[c];exact hsp.trans hps.symm
     ·exact hoth i hi' c
    ·intro c;apply h0;rw[WK hi' hlt,c];split<;>rfl
 obtain⟨⟨r,V'⟩,h1,h2,h3,h4,h5⟩:=main;simp only at h2 h3 h4 h5;subst h2;exact⟨V',by rw[DT h1,dV rfl],h3,h4,h5⟩
theorem a6g(h:MapX X K V M k many v W0 N l){s:Nat}{x y:SeT}(hs:l[s]? =some x)(hy:x9 y=0)(hN:N<1000000000000000):
 ∃V',aL (.func (.func 82) #[] #[]) [mV M,.int .i64 (s:Int),pU y] V=some (.tuple #[],V')/\MapX X K V' M k many v W0 (N+1) (l.set s y)/\Gr V V' K:=by
 obtain⟨d,rfl,rfl,rfl,rfl,rfl,hnx,hlen,hok,hM⟩:=h;obtain⟨V',h1,h2,h3,-⟩:=YA hnx hlen hok hM hs hy hN;exact⟨V',h1,h2,h3⟩
end
theorem aBr(W:AW):gK Tryz.prog 38 [] W=some (pU J5,W):=Eq.trans (by kernel_rfl) rfl
theorem aCm(W:AW):∃W1,bE Tryz.prog 38 W=some (.pointer (some ⟨W.next,0,none⟩),W1)/\Le W W1/\W1.next=W.next+1/\W1.get W.next=some (.cells (eZ J5)):=⟨_,a8f W,(Le.refl _).add _,AW.add_next _ _,AW.get_add _ _⟩
def noE(n:Int)(many:Nat):Int:=if n<0\/(many:Int)<=n then 4 else 0
def lT(i:Int)(k:Nat)(now:Int):Int:=if i<0\/(k:Int)<=i then 4 else if now<0 then 7 else 0
section
variable {X K:Nat->Prop} {V:AW} {M k many:Nat} {v:Ven} {W0:AW} {N:Int} {l:List SeT}
theorem MapX.le{V':AW}(h:MapX X K V M k many v W0 N l)(hl:Le V V'):MapX X K V' M k many v W0 N l:=by obtain⟨d,a,b,c,e,f,g,i,j,p⟩:=h;exact⟨d,a,b,c,e,f,g,i,j,p.le hl⟩
theorem MapX.shift{V':AW}(h:MapX X K V M k many v W0 N l)(hl:Le V V'):MapX X (λb=>K b/\b<V.next\/V'.next<=b) V' M k many v W0 N l:=by obtain⟨d,a,b,c,e,f,g,i,j,p⟩:=h;exact⟨d,a,b,c,e,f,g,i,j,p.shift hl⟩
theorem MapX.weak{K':Nat->Prop}(h:MapX X K V M k many v W0 N l)(hk:∀b,K b->K' b)(hw:∀b,K' b->W0.next<=b):MapX X K' V M k many v W0 N l:=by obtain⟨d,a,b,c,e,rfl,g,i,j,p⟩:=h;exact⟨d,a,b,c,e,rfl,g,i,j,p.weak hk hw⟩
theorem MapX.up(h:MapX X K V M k many v W0 N l){b:Nat}(hb:V.next<=b):K b:=by obtain⟨d,-,-,-,-,-,-,-,-,p⟩:=h;exact p.up b hb
theorem MapX.wk(h:MapX X K V M k many v W0 N l){b:Nat}(hb:K b):W0.next<=b:=by obtain⟨d,-,-,-,-,rfl,-,-,-,p⟩:=h;exact p.wk b hb
theorem MapX.grow{N':Int}(h:MapX X K V M k many v W0 N l)(hN:N<=N'):MapX X K V M k many v W0 N' l:=by obtain⟨d,a,b,c,e,f,g,i,j,p⟩:=h;exact⟨d,a,b,c,e,f,λi hi=>Int.le_trans (g i hi) hN,i,j,p⟩
theorem MapX.len(h:MapX X K V M k many v W0 N l):l.length=many:=by obtain⟨d,a,b,c,e,f,g,i,j,p⟩:=h;exact i
theorem MapX.kp(h:MapX X K V M k many v W0 N l):1<=k/\k<=16:=by obtain⟨d,a,rfl,c,e,f,g,i,j,p⟩:=h;exact p.kp
theorem MapX.mn(h:MapX X K V M k many v W0 N l):many<=4096:=by obtain⟨d,a,b,rfl,e,f,g,i,j,p⟩:=h;exact p.mn
theorem MapX.vk(h:MapX X K V M k many v W0 N l):v.sh=(k:Int):=by obtain⟨d,a,rfl,c,rfl,f,g,i,j,p⟩:=h;exact p.vk
theorem MapX.ok(h:MapX X K V M k many v W0 N l){x:SeT}(hx:x∈l):x9 x=0:=by obtain⟨d,a,b,c,e,f,g,i,j,p⟩:=h;exact j x hx
theorem OE(h:MapX X K V M k many v W0 N l):aL (.func (.func 84) #[] #[]) [mV M] V=some (.bool true,V):=by obtain⟨d,rfl,-,-,-,-,-,-,-,p⟩:=h;exact a9M p
theorem sM4(h:MapX X K V M k many v W0 N l):aP (.pointer (some ⟨M,4,none⟩)) V=some (.int .i64 (many:Int),V):=by obtain⟨d,rfl,-,rfl,-,-,-,-,-,p⟩:=h;exact p.l4
theorem sM5(h:MapX X K V M k many v W0 N l):∃B,aP (.pointer (some ⟨M,5,none⟩)) V=some (.slice (some ⟨B,0,none⟩) k k,V):=by obtain⟨d,rfl,rfl,-,-,-,-,-,-,p⟩:=h;exact⟨_,p.l5⟩
theorem KM(h:MapX X K V M k many v W0 N l)(n:Int):aL (.func (.func 95) #[] #[]) [mV M,.int .i64 n] V=some (.int .i64 (noE n many),V):=by
 refine aN rfl ?_ AA;unfold wR;unfold noE;by_cases c1:n<0
 ·have d1:=decide_eq_true c1;rw[if_pos (.inl c1)];simp only[SX,IJ,I8,OE h,d1,aB];exact⟨trivial,Le.refl _⟩
 ·have d1:=decide_eq_false c1;by_cases c2:(many:Int)<=n
  ·have d2:=decide_eq_true c2;rw[if_pos (.inr c2)];simp only[SX,IJ,I8,OE h,d1,d2,aD,Nat.zero_add,sM4 h,aB];exact⟨trivial,Le.refl _⟩
  ·have d2:=decide_eq_false c2;rw[if_neg (by omega)];simp only[SX,IJ,I8,OE h,d1,d2,aD,Nat.zero_add,sM4 h,aB];exact⟨trivial,Le.refl _⟩
theorem PK(h:MapX X K V M k many v W0 N l)(i now:Int):aL (.func (.func 75) #[] #[]) [mV M,.int .i64 i,.int .i64 now] V=some (.int .i64 (lT i k now),V):=by
 refine aN rfl ?_ zT;unfold uD;unfold lT;obtain⟨B,hB⟩:=sM5 h;by_cases c1:i<0
 ·have d1:=decide_eq_true c1;rw[if_pos (.inl c1)];simp only[SX,IJ,I8,OE h,d1,aB];exact⟨trivial,Le.refl _⟩
 ·have d1:=decide_eq_false c1;by_cases c2:(k:Int)<=i
  ·have d2:=decide_eq_true c2;rw[if_pos (.inr c2)];simp only[SX,IJ,I8,OE h,d1,d2,aD,Nat.zero_add,hB,wM,aB];exact⟨trivial,Le.refl _⟩
  ·have d2:=decide_eq_false c2;rw[if_neg (by omega)];by_cases c3:now<0
   ·have d3:=decide_eq_true c3;simp only[SX,IJ,I8,OE h,d1,d2,d3,aD,Nat.zero_add,hB,wM,if_pos c3,aB];exact⟨trivial,Le.refl _⟩
   ·have d3:=decide_eq_false c3;simp only[SX,IJ,I8,OE h,d1,d2,d3,aD,Nat.zero_add,hB,wM,if_neg c3,aB];exact⟨trivial,Le.refl _⟩
theorem sH(h:MapX X K V M k many v W0 N l):aL (.func (.func 34) #[] #[]) [mV M] V=some (.int .i64 (k:Int),V):=by refine aN rfl ?_ yR;unfold tH;obtain⟨B,hB⟩:=sM5 h;simp only[SX,OE h,aD,Nat.zero_add,hB,wM,aB];exact⟨trivial,Le.refl _⟩
theorem sAt(h:MapX X K V M k many v W0 N l){s:Nat}{x:SeT}(hs:l[s]? =some x):∃b o,aL (.func (.func 81) #[] #[]) [mV M,.int .i64 (s:Int)] V=some (.pointer (some ⟨b,o,none⟩),V)/\eU 5 (.pointer (some ⟨b,o,none⟩)) V=some (pU x,V)/\aP (.pointer (some ⟨b,o,none⟩)) V=some (.int .i64 x.st,V):=by obtain⟨d,rfl,rfl,-,-,-,-,-,-,p⟩:=h;have hk:0<d.k:=p.kp.1;have hc:=JS hk hs;have hi:=Nat.mod_lt s hk;exact⟨_,_,MM p hs,(p.col _ hi).all hc,(p.col _ hi).st hc⟩
def a1G(l:List SeT)(n:Int):SeT:=if noE n l.length=0 then iK l n.toNat else J5
theorem a5J{n:Int}{m:Nat}(h:noE n m=0):∃s:Nat,n=(s:Int)/\s<m:=by
 unfold noE at h;split at h
 ·omega
 ·rename_i c;exact⟨n.toNat,by omega,by omega⟩
theorem a1o(h:MapX X K V M k many v W0 N l)(n:Int):aL (.func (.func 29) #[] #[]) [mV M,.int .i64 n] V=some (.tuple #[pU (a1G l n),.int .i64 (noE n l.length)],V):=by
 refine aN rfl ?_ DK;unfold xL;obtain⟨V1,k1,l1,n1,g1⟩:=aCm V;have h1:=h.le l1;have hlen:=h.len;have st:=λy=>a7p (x:=y) g1
 have ld:=λy=>cB (x:=y) (W:=V1.put V.next (.cells (eZ y))) (b:=V.next) (AW.get_put _ _ _)
 have hse:=KM h1 n;rw[<-hlen]at hse;unfold a1G;by_cases c:noE n l.length=0
 ·have dc:=decide_eq_true c;obtain⟨s,rfl,hs⟩:=a5J c;obtain⟨b,o,a1,a2,-⟩:=sAt h1 (kV hs);have d0:decide ((0:Int)=0)=true:=rfl;rw[c]at hse;simp only[SX,k1,hse,d0,a1,aD,a2,st,kP,a0c,ld,Option.bind_some,aB];exact⟨by rw[c,if_pos rfl];rfl,l1.put (Nat.le_refl _) _⟩
 ·have dc:=decide_eq_false c;simp only[SX,k1,hse,dc,aBr,st,kP,a0c,ld,Option.bind_some,aB];exact⟨by rw[if_neg c],l1.put (Nat.le_refl _) _⟩
def YY(l:List SeT)(n:Int)(y:SeT):Int:=if noE n l.length≠0 then noE n l.length else if x9 y≠0 then 6 else 0
def NF(l:List SeT)(n:Int)(y:SeT):List SeT:=if YY l n y=0 then l.set n.toNat y else l
theorem a6d(h:MapX X K V M k many v W0 N l)(n:Int)(y:SeT)(hN:N<1000000000000000):
 ∃V',aL (.func (.func 30) #[] #[]) [mV M,.int .i64 n,pU y] V=some (.int .i64 (YY l n y),V')/\MapX X K V' M k many v W0 (N+1) (NF l n y)/\Gr V V' K:=by
 have hlen:=h.len;by_cases c:YY l n y=0;case neg=>
  refine⟨V,?_,?_,Gr.refl _ _⟩
  ·refine aN rfl ?_ nG;unfold mJ;have l1:Le V (V.add (.cells (eZ y))):=(Le.refl _).add _;have g1:(V.add (.cells (eZ y))).get V.next=some (.cells (eZ y)):=AW.get_add _ _;simp only[SX,I1,Nat.zero_add];generalize V.add (.cells (eZ y))=V1 at *;have hse:=KM (h.le l1) n;rw[<-hlen]at hse;unfold YY at c|-;by_cases c1:noE n l.length=0
   ·have c0:¬noE n l.length≠0:=λx=>x c1
    rw[if_neg c0]at c|-;have c2:x9 y≠0:=λe=>by rw[if_neg (λx=>x e)]at c;exact c rfl
    rw[c1]at hse;have d0:decide ((0:Int)=0)=true:=rfl;have d1:=decide_eq_false c2;simp only[SX,hse,d0,cB g1,iP,d1,aB];exact⟨by rw[if_pos c2],l1⟩
   ·rw[if_pos c1];have d1:=decide_eq_false c1;simp only[SX,hse,d1,aB];exact⟨trivial,l1⟩
  ·unfold NF;rw[if_neg c];exact h.grow (by omega)
 have c1:noE n l.length=0:=by apply Classical.byContradiction;intro x;unfold YY at c;rw[if_pos x]at c;exact x c
 have c2:x9 y=0:=by apply Classical.byContradiction;intro x;unfold YY at c;rw[if_neg (λz=>z c1),if_pos x]at c;omega
 obtain⟨s,rfl,hs⟩:=a5J c1;have hl':NF l (s:Int) y=l.set s y:=by unfold NF;rw[if_pos c];rfl
 rw[hl',c];obtain⟨d,rfl,rfl,rfl,rfl,rfl,hnx,-,hok,p⟩:=h;have main:Ok (mJ aL (mV d.M) (.int .i64 (s:Int)) (pU y) V) λr=>r.1=.int .i64 0/\MapX X K r.2 d.M d.k d.many d.v d.W0 (N+1) (l.set s y)/\Gr V r.2 K/\(Le V r.2->MapX X K V d.M d.k d.many d.v d.W0 (N+1) (l.set s y)):=by
  unfold mJ;have l1:Le V (V.add (.cells (eZ y))):=(Le.refl _).add _;have g1:(V.add (.cells (eZ y))).get V.next=some (.cells (eZ y)):=AW.get_add _ _;simp only[SX,I1,Nat.zero_add];generalize V.add (.cells (eZ y))=V1 at *;have p1:=p.le l1;have hS:MapX X K V1 d.M d.k d.many d.v d.W0 N l:=⟨d,rfl,rfl,rfl,rfl,rfl,hnx,hlen,hok,p1⟩;have hse:=KM hS s;rw[<-hlen,c1]at hse;have d0:decide ((0:Int)=0)=true:=rfl;obtain⟨V',q1,q2,q3,q4⟩:=YA hnx hlen hok p1 (kV hs) c2 hN;simp only[SX,hse,d0,cB g1,iP,c2,q1,aB];refine⟨trivial,q2,(Le.gr l1 K).trans q3,λhl=>⟨d,rfl,rfl,rfl,rfl,rfl,λi hi=>by have:=hnx i hi;omega,by rw[List.length_set];exact hlen,λz hz=>?_,q4 K V p l1 hl⟩⟩;rcases List.mem_or_eq_of_mem_set hz with c|c
  ·exact hok z c
  ·rw[c];exact c2
 obtain⟨⟨r,V'⟩,h1,h2,h3,h4,h5⟩:=main;simp only at h2 h3 h4 h5;subst h2;rcases yN (W:=V) (W':=V') (.int .i64 0)with hg|⟨hg,hle⟩
 ·exact⟨V',by rw[nG h1,hg],h3,h4⟩
 ·exact⟨V,by rw[nG h1,hg],h5 hle,Gr.refl _ _⟩
end
section
variable {α:Type} {z:Nat} {f:α->List Value} {at_:List Value->Nat->α->Prop} {W:AW} {v:Value} {l:List α}
theorem DX(hf:∀a,(f a).length=z):∀(l:List α) (cs:List Value) (o:Nat),(∀i (h:i<l.length),(cs.drop (o+i*z)).take z=f l[i])->(cs.drop o).take (l.length*z)=l.flatMap f
 |[],cs,o,h=>by simp
 |a::l,cs,o,h=>by
  have h0:(cs.drop o).take z=f a:=by have:=h 0 (by simp);rw[Nat.zero_mul,Nat.add_zero]at this;exact this
  have ih:=DX hf l cs (o+z) λi hi=>by
   have h1:=h (i+1) (by simp;omega);have e:o+(i+1)*z=o+z+i*z:=by rw[Nat.add_mul,Nat.one_mul];omega
   rw[e]at h1;exact h1
  rw[List.length_cons,Nat.add_mul,Nat.one_mul,Nat.add_comm,List.take_add,h0,List.drop_drop,ih,List.flatMap_cons]
def OwnL(lo:Nat)(W:AW)(z:Nat)(f:α->List Value)(v:Value)(l:List α):Prop:=
 ∃B c,lo<=B/\B<W.next/\v=.slice (some ⟨B,0,none⟩) l.length c/\(l≠[]->W.get B=some (.cells (l.flatMap f)))
theorem OwnL.row{lo:Nat}(hf:∀a,(f a).length=z)(h:OwnL lo W z f v l)(hat:∀a pre post,at_ (pre++(f a++post)) pre.length a):Row W z at_ v l:=by
 obtain⟨B,c,h0,h1,rfl,h2⟩:=h;by_cases he:l=[]
 ·exact⟨_,c,rfl,.inl he⟩
 ·refine⟨_,c,rfl,.inr ⟨B,0,_,rfl,h1,bC (h2 he),λi hi=>?_⟩⟩;obtain⟨e1,e2⟩:=eP hf (List.getElem?_eq_getElem hi);rw[e1,Nat.zero_add,<-e2];exact hat _ _ _
theorem OwnL.one{lo:Nat}(h:OwnL lo W z f v l):Eng.one v=true:=by obtain⟨B,c,h0,h1,rfl,h2⟩:=h;rfl
theorem OwnL.same{lo:Nat}(h:OwnL lo W z f v l):XQ v v=true:=by obtain⟨B,c,h0,h1,rfl,h2⟩:=h;exact zI _ _ _ _
theorem OwnL.mono{lo:Nat}{W':AW}(h:OwnL lo W z f v l)(hl:Le W W'):OwnL lo W' z f v l:=by obtain⟨B,c,h0,h1,rfl,h2⟩:=h;exact⟨B,c,h0,Nat.lt_of_lt_of_le h1 hl.next,rfl,λhe=>(hl.get _ h1).trans (h2 he)⟩
theorem a3H{ts:Array TypeId}{bytes:Nat}(hk:mD Tryz.prog ts z bytes=true)(hf:∀a,(f a).length=z)(h1:∀a,(f a).all Eng.one=true)(h:Row W z at_ v l)(hat:∀cs p a,at_ cs p a->(cs.drop p).take z=f a)
 (hn:l.length<1099511627776)(hb:(2*l.length+192)*bytes<=281474976710656){b:Nat}(hbl:b<W.next):∃u W',bJ Tryz.prog W ts (.slice (some ⟨b,0,none⟩) 0 0) v=some (u,W')/\Le W W'/\OwnL b W' z f u l:=by
 obtain⟨a,c,rfl,h⟩:=h;by_cases he:l=[]
 ·subst he;exact⟨_,W,yE hk (Nat.le_refl 0) (by omega) (by simpa using hb),.refl _,b,0,Nat.le_refl _,hbl,rfl,λx=>absurd rfl x⟩
 ·rcases h with h|⟨B,o,cs,rfl,h2,h3,h4⟩
  ·exact absurd h he
  ·have e:l.flatMap f=(cs.drop o).take (l.length*z):=(DX hf l cs o λi hi=>hat _ _ _ (h4 i hi)).symm;have hall:(l.flatMap f).all Eng.one=true:=by rw[List.all_flatMap,List.all_eq_true];exactλa _=>h1 a
   refine⟨_,_,EG hk h3 e (aR hf l) (List.length_pos_iff.2 he) hall hn hb,(Le.refl _).add _,W.next,_,by omega,by rw[AW.add_next];omega,rfl,λ_=>AW.get_add _ _⟩
end
theorem u25:Tryz.prog.underlying 25=some (.slice 38):=by kernel_rfl
theorem b25:(Tryz.prog.info? 38).map (·.bytes)=some 40:=by kernel_rfl
theorem t25:nI Tryz.prog 38=some 5:=by kernel_rfl
theorem z25:kR Tryz.prog 38=some (pU J5):=by kernel_rfl
theorem WS(n:Nat):BD (eZ J5) n=(List.replicate n J5).flatMap eZ:=by
 induction n with
 |zero=>rfl
 |succ n ih=>show eZ J5++BD (eZ J5) n=_;rw[ih,List.replicate_succ,List.flatMap_cons]
theorem aCq{n:Nat}(h:n<=10000)(W:AW):jO Tryz.prog 25 (.int .i64 (n:Int)) (.int .i64 (n:Int)) W=some (.slice (some ⟨W.next,0,none⟩) n n,W.add (.cells ((List.replicate n J5).flatMap eZ))):=by
 show jO Tryz.prog 25 (.int .i64 (Int.ofNat n)) (.int .i64 (Int.ofNat n)) W=_;unfold jO;have e:=KJ (z:=pU J5) (len:=n) (n:=5) rfl;have e2:(kH (pU J5) (n*5)).toList=(List.replicate n J5).flatMap eZ:=by rw[e];exact WS n
 have e3:((List.replicate n J5).flatMap eZ).all bW=true:=by rw[<-WS];exact DI _ _ rfl n
 simp only[u25,t25,z25,b25];rw[e2,if_pos ⟨Nat.le_refl _,by omega,by omega,e3⟩]
section
variable {X K:Nat->Prop} {V:AW} {M k many:Nat} {v:Ven} {W0:AW} {N:Int} {l:List SeT}
theorem SlS.own{W:AW}{B:Nat}{v:Value}{xs:List SeT}(h:SlS W B v xs):SeL W v xs:=h.row
def shL(l:List SeT)(k:Nat)(i:Int):List SeT:=if lT i k 0=0 then fD l k i.toNat else []
theorem a9v{i now:Int}{k:Nat}(h:lT i k now=0):∃s:Nat,i=(s:Int)/\s<k/\0<=now:=by
 unfold lT at h;split at h
 ·omega
 ·split at h
  ·omega
  ·rename_i c c2;exact⟨i.toNat,by omega,by omega,by omega⟩
def a9d(l:List (Int×Int))(x:Int×Int):Prop:=x∈l/\∀y,y∈l->lX y x=false
theorem HS.first{W:AW}{In:Nat->Prop}{H q mh hm:Nat}{se nx:Int}{n:Nat}{f:Nat->En}(h:HS W In H q mh hm se nx n f)(hn:0<n):a9d (vG n f) (a3L n f):=by
 have hh:=h.qs.hp;refine⟨CY.2 ⟨0,hn,by unfold a3L;rw[if_neg (by omega)]⟩,λy hy=>?_⟩;obtain⟨i,hi,rfl⟩:=CY.1 hy;unfold a3L;rw[if_neg (by omega)];cases hc:lX (f i).v (f 0).v
 ·rfl
 ·exfalso;have hb:jD lX (f i) (f 0)=true:=by unfold jD;rw[hc];rfl
  have:=hh.first DJ i hi;rw[hb]at this;cases this
def nxE(l:List SeT)(k:Nat)(i:Int):Int:=if lT i k 0≠0 then lT i k 0 else if bV l (nP k i.toNat)=[]then 4 else 0
def FX(l:List SeT)(i:Nat):List SeT:=l.take i++List.replicate (l.length-i) J5
theorem a3G(l:List SeT)(i:Nat):(FX l i).length=l.length:=by unfold FX;rw[List.length_append,List.length_take,List.length_replicate];omega
theorem a3K{l:List SeT}{i:Nat}(hi:i<l.length):(FX l i)[i]? =some J5/\(FX l i).set i (iK l i)=FX l (i+1):=by
 have e:l.length-i=(l.length-(i+1))+1:=by omega
 have hlen:(l.take i).length=i:=by rw[List.length_take];omega
 unfold FX;rw[e,List.replicate_succ];refine⟨by rw[List.getElem?_append_right (by omega),hlen,Nat.sub_self];rfl,?_⟩;rw[List.set_append_right _ _ (by omega),hlen,Nat.sub_self,List.set_cons_zero,List.take_add_one,kV hi];simp
theorem a5s(l:List SeT):FX l l.length=l:=by unfold FX;rw[List.take_length,Nat.sub_self,List.replicate_zero,List.append_nil]
theorem a9y(a:Option Addr)(n c:Nat)(W:AW):aG Tryz.prog .len #[25] 3 #[false] [.slice a n c] W=some (.int .i64 (n:Int),W):=iB wO _ _ _
theorem EU(h:MapX X K V M k many v W0 N l):∃u V',aL (.func (.func 26) #[] #[]) [mV M] V=some (u,V')/\Le V V'/\SeL V' u l:=by
 refine a9q ?_ BC;unfold wL;have hmn:=h.mn;have hlen:=h.len;have l1:Le V (V.add (.cells ((List.replicate many J5).flatMap eZ))):=(Le.refl _).add _;have n1:(V.add (.cells ((List.replicate many J5).flatMap eZ))).next=V.next+1:=AW.add_next _ _;have g1:(V.add (.cells ((List.replicate many J5).flatMap eZ))).get V.next=some (.cells ((List.replicate many J5).flatMap eZ)):=AW.get_add _ _;simp only[SX,OE h,aD,Nat.zero_add,Nat.add_zero,sM4 h,aCq (show many<=10000 by omega),a9y];generalize V.add (.cells ((List.replicate many J5).flatMap eZ))=V1 at *;refine bF many (by omega) (λi R U=>U.next=V1.next/\Le V U/\U.get V.next=some (.cells ((FX l i).flatMap eZ))/\R 0=mV M/\R 3=.slice (some ⟨V.next,0,none⟩) many many/\R 14=.int .i64 (many:Int)/\R 15=.int .i64 (i:Int))
  (λr=>r.1=.exit 0/\r.2.2.next=V1.next/\Le V r.2.2/\r.2.2.get V.next=some (.cells (l.flatMap eZ))/\r.2.1 3=.slice (some ⟨V.next,0,none⟩) many many) ⟨rfl,l1,by rw[g1];unfold FX;rw[List.take_zero,hlen,Nat.sub_zero,List.nil_append],rfl,rfl,rfl,rfl⟩ ?_ ?_ ?_
 ·rintro i R U hi ⟨u1,u2,u3,r0,r3,r14,r15⟩;unfold lF;have t1:((i:Int)<(many:Int)):=by omega
  have t2:=λW'=>aQ (P:=Tryz.prog) (W:=W') (t:=3) (c:=false) (d:=true) (a:=(i:Int)) (b:=1) (by omega) (by omega)
  have e3:((i+1:Nat):Int)=(i:Int)+1:=by omega
  obtain⟨b,o,a1,a2,-⟩:=sAt (h.le u2) (kV (l:=l) (j:=i) (by omega));have ix:=λW' q=>nC (W:=W') (z:=5) (b:=V.next) (o:=0) (l:=many) (c:=many) (i:=i) (k:=q) hi
  obtain⟨x1,x2⟩:=a3K (l:=l) (i:=i) (by omega);have hst:=xY (n:=5) (b:=V.next) (o:=i*5) (v:=pU (iK l i)) u3 rfl (by show i*5+5<=_;rw[aR gV,a3G];omega) rfl;have e4:iX ((FX l i).flatMap eZ) (i*5) (eZ (iK l i))=(FX l (i+1)).flatMap eZ:=by rw[BX gV x1,x2]
  have hst':fZ 5 (.pointer (some ⟨V.next,i*5,none⟩)) (pU (iK l i)) U=some (undef,U.put V.next (.cells ((FX l (i+1)).flatMap eZ))):=by rw[hst,<-e4];rfl
  simp only[SX,r0,r3,r14,r15,t1,decide_true,a1,aD,a2,ix,Nat.zero_add,hst',t2,aB];exact .inl ⟨trivial,u1,u2.put (Nat.le_refl _) _,AW.get_put _ _ _,r0,r3,r14,by rw[e3];rfl⟩
 ·rintro R U ⟨u1,u2,u3,r0,r3,r14,r15⟩;unfold lF;have t1:¬((many:Int)<(many:Int)):=by omega
  simp only[SX,r14,r15,t1,decide_false,aB];exact⟨by simp,trivial,u1,u2,by rw[<-hlen,a5s]at u3;exact u3,r3⟩
 ·rintro⟨q,R,U⟩ ⟨rfl,u1,u2,u3,r3⟩;simp only at u1 u2 u3 r3;simp only[SX,r3,aB];refine⟨u2,OwnL.row (lo:=0) gV ⟨V.next,many,Nat.zero_le _,by omega,by rw[hlen],λ_=>u3⟩ SE⟩
end
theorem a0T(x y:SeT):x=y<->x.st=y.st/\x.ow=y.ow/\x.dl=y.dl/\x.se=y.se/\x.ep=y.ep:=by obtain⟨a,b,c,d,e⟩:=x;obtain⟨a',b',c',d',e'⟩:=y;simp
instance:DecidableEq SeT:=λx y=>decidable_of_iff _ (a0T x y).symm
theorem g38:Tryz.prog.eqGuardType Tryz.prog.depth 38=false:=by kernel_rfl
theorem q38(x y:SeT):a0e Tryz.prog 8 38 (pU x) (pU y)=VE [(x.st,y.st),(x.ow,y.ow),(x.dl,y.dl),(x.se,y.se),(x.ep,y.ep)]:=by kernel_rfl
theorem a8W(x y:SeT):([(x.st,y.st),(x.ow,y.ow),(x.dl,y.dl),(x.se,y.se),(x.ep,y.ep)].all λp=>p.1==p.2)=decide (x=y):=by rw[Bool.eq_iff_iff,decide_eq_true_eq,a0T];simp
theorem a7M(x y:SeT)(c d:Bool)(W:AW):aH Tryz.prog .neq 38 c d (pU x) (pU y) W=some (.bool (!decide (x=y)),W):=by have:=CJ (W:=W) (c:=c) (d:=d) g38 ((q38 x y).trans (NN _));rw[this,a8W]
theorem a3Q(a:Int×Int):lX a a=false:=by unfold lX;simp
theorem a6b{a b c:Int×Int}(h1:lX a b=true)(h2:lX b c=true):lX a c=true:=by unfold lX at *;simp only[Bool.or_eq_true,Bool.and_eq_true,decide_eq_true_eq]at *;omega
theorem a4k{a b c:Int×Int}(h1:¬lX a b=true)(h2:¬lX b c=true):¬lX a c=true:=by unfold lX at *;simp only[Bool.or_eq_true,Bool.and_eq_true,decide_eq_true_eq]at *;omega
theorem a6P{a b:Int×Int}(h1:lX a b=false)(h2:lX b a=false):a=b:=by rw[Prod.ext_iff];unfold lX at *;simp only[Bool.or_eq_false_iff,Bool.and_eq_false_iff,decide_eq_false_iff_not]at *;omega
def Asc(l:List (Int×Int)):Prop:=l.Pairwise λa b=>lX b a=false
theorem a4f{l m:List (Int×Int)}(hp:l.Perm m)(hl:Asc l)(hm:Asc m):l=m:=
 hp.eq_of_pairwise (le:=λa b=>lX b a=false) (λa b _ _ h1 h2=>a6P h2 h1) hl hm
theorem a6X:wC Tryz.prog 144:=⟨_,_,Tryz.func144,by kernel_rfl,rfl⟩
theorem X6{V:AW}{l:List (Int×Int)}{B c:Nat}{rest:List Value}(h0:l≠[])(hl:l.length<=10000)(hB:V.get B=some (.cells (l.flatMap sV++rest))):∃l':List (Int×Int),l'.Perm l/\Asc l'/\aL (.func (.func 78) #[] #[]) [.slice (some ⟨B,0,none⟩) l.length c,.func (.func 144) #[] #[]] V=some (.tuple #[],V.put B (.cells (l'.flatMap sV++rest))):=by
 have hpos:0<l.length:=List.length_pos_iff.2 h0;have ol:=λa b=>(PV a b V).2.1
 have hO:OrdN l.length (λi j=>VU (l.getD i (0,0)) (l.getD j (0,0))):=⟨λi _ h=>absurd ((ol _ _).1 h) (by rw[a3Q];decide),λi j k _ _ _ h1 h2=>(ol _ _).2 (a6b ((ol _ _).1 h1) ((ol _ _).1 h2)),λi j k _ _ _ h1 h2 h3=>a4k (λx=>h1 ((ol _ _).2 x)) (λx=>h2 ((ol _ _).2 x)) ((ol _ _).1 h3)⟩;obtain⟨l',e1,e2,e3⟩:=MG l sV (λa b=>lX a b) hO hpos λi j hi hj=>by rw[ol];simp[List.getD_eq_getElem?_getD,hi,hj]
 refine⟨l',e1,e2,yS ?_⟩;refine .inr ⟨B,c,l.map sV,rest,144,#[],λi j=>VU (l.getD i (0,0)) (l.getD j (0,0)),⟨?_,?_,?_,?_,?_,?_,?_,?_,?_,a6X,?_,?_,?_⟩⟩
 ·intro h;have:=congrArg List.length h;rw[List.length_map]at this;simp at this;exact h0 this
 ·rw[List.length_map];omega
 ·intro r hr;obtain⟨e,-,rfl⟩:=List.mem_map.1 hr;rfl
 ·intro r hr v hv;obtain⟨e,-,rfl⟩:=List.mem_map.1 hr;simp only[sV,List.mem_cons,List.not_mem_nil,or_false]at hv;rcases hv with rfl|rfl<;>rfl
 ·rw[List.length_map]
 ·rw[a1a];exact hB
 ·intro r hr v hv;obtain⟨e,-,rfl⟩:=List.mem_map.1 hr;simp only[sV,List.mem_cons,List.not_mem_nil,or_false]at hv;exact xU (by rcases hv with rfl|rfl<;>rfl)
 ·intro v hv;simp at hv
 ·intro g hg;cases hg
 ·intro i j hi hj;rw[List.length_map]at hi hj;rw[List.getElem_map,List.getElem_map];have e4:∀x:Int×Int,elV true (sV x)=lU x:=λx=>rfl
  rw[e4,e4];refine(VN (PV _ _ _).1).trans ?_;simp[List.getD_eq_getElem?_getD,hi,hj]
 ·rw[List.length_map];exact hO
 ·rw[e3,a1a]
theorem a0A(x:Int×Int)(pre post:List Value):a9n (pre++(sV x++post)) pre.length x:=by
 have:∀i,(pre++(sV x++post))[pre.length+i]? =(sV x++post)[i]? :=λi=>by rw[List.getElem?_append_right (by omega),Nat.add_sub_cancel_left]
 exact⟨by have:=this 0;exact this,this 1⟩
theorem a0o{W:AW}{B c:Nat}{l:List (Int×Int)}{rest:List Value}(hB:W.get B=some (.cells (l.flatMap sV++rest)))(hl:B<W.next):HoL W (.slice (some ⟨B,0,none⟩) l.length c) l:=by refine⟨_,c,rfl,.inr ⟨B,0,_,rfl,hl,bC hB,λi hi=>?_⟩⟩;obtain⟨e1,e2⟩:=eP qY (List.getElem?_eq_getElem hi);rw[e1,Nat.zero_add,<-e2,List.append_assoc,List.append_assoc];exact a0A _ _ _
def oI{α:Type}(p:α->Bool)(l:List α):Int:=match l.findIdx? p with|some i=>(i:Int)|none=> -1
theorem KL{α:Type}{p:α->Bool}{l:List α}(h:∀x∈l,p x=false):oI p l= -1:=by unfold oI;rw[List.findIdx?_eq_none_iff.2 h]
theorem WY{α:Type}{p:α->Bool}{l:List α}{i:Nat}(hi:i<l.length)(hp:p l[i]=true)(h:∀j (hj:j<i),p (l[j]'(by omega))=false):oI p l=(i:Int):=by unfold oI;rw[List.findIdx?_eq_some_iff_getElem.2 ⟨hi,hp,λj hj=>by rw[h j hj];decide⟩]
theorem Q6{α:Type}(p:α->Bool)(l:List α):((∀x∈l,p x=false)/\oI p l= -1)\/∃i,∃hi:i<l.length,oI p l=(i:Int)/\p l[i]=true/\∀j (hj:j<i),p (l[j]'(by omega))=false:=by
 cases h:l.findIdx? p with
 |none=>exact .inl ⟨List.findIdx?_eq_none_iff.1 h,by unfold oI;rw[h]⟩
 |some i=>obtain⟨h1,h2,h3⟩:=List.findIdx?_eq_some_iff_getElem.1 h;exact .inr ⟨i,h1,by unfold oI;rw[h],h2,λj hj=>by have:=h3 j hj;simpa using this⟩
theorem UJ{W:AW}{v fv:Value}{l:List (Int×Int)}{p:Int×Int->Bool}(h:HoL W v l)(hp:∀x,x∈l->aL fv [lU x] W=some (.bool (p x),W))(hl:l.length<=10000):aL (.func (.func 196) #[] #[]) [v,fv] W=some (.int .i64 (oI p l),W):=by
 refine aN rfl ?_ iV;unfold eG;simp only[SX,h.len DW];refine bF l.length (by omega) (λi R V=>V=W/\R 0=v/\R 1=fv/\R 7=.int .i64 (l.length:Int)/\R 8=.int .i64 (i:Int)/\∀j (hj:j<i) (hj2:j<l.length),p l[j]=false)
  (λr=>r.2.2=W/\((r.1=.exit 0/\oI p l= -1)\/(r.1=.ret/\r.2.1 4=.int .i64 (oI p l)))) ⟨rfl,rfl,rfl,rfl,rfl,λj hj=>by omega⟩ ?_ ?_ ?_
 ·rintro i R V hi ⟨rfl,r0,r1,r7,r8,ha⟩;unfold bO;have t1:((i:Int)<(l.length:Int)):=by omega
  have t2:=λW'=>aQ (P:=Tryz.prog) (W:=W') (t:=3) (c:=false) (d:=true) (a:=(i:Int)) (b:=1) (by omega) (by omega)
  have e3:((i+1:Nat):Int)=(i:Int)+1:=by omega
  obtain⟨b,o,i1,i2,i3⟩:=HoL.get h hi;cases hc:p l[i]with
  |true=>simp only[SX,r0,r1,r7,r8,t1,decide_true,i1,(i3 _ rfl).1,hp _ (List.getElem_mem hi),hc,aB];exact .inr ⟨by simp,trivial,.inr ⟨trivial,by rw[WY hi hc λj hj=>ha j hj (by omega)];rfl⟩⟩
  |false=>
   simp only[SX,r0,r1,r7,r8,t1,decide_true,i1,(i3 _ rfl).1,hp _ (List.getElem_mem hi),hc,t2,aB];refine .inl ⟨trivial,trivial,r0,r1,r7,by rw[e3];rfl,λj hj hj2=>?_⟩;by_cases c:j=i
   ·subst c;exact hc
   ·exact ha j (by omega) hj2
 ·rintro R V ⟨rfl,r0,r1,r7,r8,ha⟩;unfold bO;have t1:¬((l.length:Int)<(l.length:Int)):=by omega
  simp only[SX,r7,r8,t1,decide_false,aB];refine⟨by simp,trivial,.inl ⟨trivial,KL λx hx=>?_⟩⟩;obtain⟨j,hj,rfl⟩:=List.mem_iff_getElem.1 hx;exact ha j hj hj
 ·rintro⟨q,R,V⟩ ⟨rfl,hq⟩;simp only at hq;rcases hq with⟨rfl,e⟩|⟨rfl,r4⟩
  ·simp only[SX,aB];exact⟨by rw[e],Le.refl _⟩
  ·simp only[SX,r4,aB];exact⟨trivial,Le.refl _⟩
theorem a0G{W:AW}{X:Nat}{now:Int}(hX:W.get X=some (.cells [.int .i64 now]))(hXl:X<W.next)(x:Int×Int):aL (.func (.func 141) #[] #[.pointer (some ⟨X,0,none⟩)]) [lU x] W=some (.bool (decide (now<x.2)),W):=by
 refine aN rfl ?_ xB;unfold sF;have oB:dK (lU x) W=some (.pointer (some ⟨W.next,0,none⟩),W.add (.cells [.int .i64 x.1,.int .i64 x.2])):=fU _;have g1:(W.add (.cells [.int .i64 x.1,.int .i64 x.2])).get W.next=some (.cells [.int .i64 x.1,.int .i64 x.2]):=AW.get_add _ _;have gX:(W.add (.cells [.int .i64 x.1,.int .i64 x.2])).get X=some (.cells [.int .i64 now]):=by rw[AW.get_add_ne _ _ (by omega)];exact hX
 simp only[SX,oB,Nat.zero_add,jE (o:=1) (bU g1) rfl,jE (o:=0) (bU gX) rfl,aB];exact⟨trivial,(Le.refl _).add _⟩
theorem a9A:o8 Tryz.prog 32=some 2:=by kernel_rfl
theorem M3{b l h:Nat}{k:IntKind}(h1:h<=l)(W:AW):bM Tryz.prog 32 (.slice (some ⟨b,0,none⟩) l (bS+2)) (some (.int k (h:Int))) none none W=some (.slice (some ⟨b,h*2,none⟩) (l-h) (bS+2),W):=by
 obtain⟨e,he,hz⟩:=gL a9A;have h2:((⟨b,0,none⟩:Addr).add (h*2))=⟨b,h*2,none⟩:=by rw[cO];simp
 unfold bM iD;simp only[he,hz,dE,iN,h1,if_true,true_and,if_pos (show 0<2 by omega),Nat.le_refl,h2]
theorem a1t(n:Nat):(Builtin.zeroCells (lU (0,0)).cells n).toList.length=n*2:=by unfold Builtin.zeroCells;simp[QB]
theorem a0Y(n:Nat):(Builtin.zeroCells (lU (0,0)).cells n).toList.all bW=true:=by
 unfold Builtin.zeroCells;simp only[Array.toList_map,List.all_map,List.all_eq_true];intro i hi;show bW ((lU (0,0)).cells[i % (lU (0,0)).cells.size]!)=true;have:i % (lU (0,0)).cells.size=0\/i % (lU (0,0)).cells.size=1:=by have:(lU (0,0)).cells.size=2:=rfl;rw[this];omega
 rcases this with e|e<;>rw[e]<;>rfl
theorem e32:jZ Tryz.prog 32=some 42:=by kernel_rfl
theorem t42:nI Tryz.prog 42=some 2:=by kernel_rfl
theorem z42:kR Tryz.prog 42=some (lU (0,0)):=by kernel_rfl
theorem a5F{W:AW}{B o n c:Nat}{cs:List Value}(hB:W.get B=some (.cells cs))(hl:cs.length=o+n*2):∃rest,aG Tryz.prog .clear #[32] 0 #[false] [.slice (some ⟨B,o,none⟩) n c] W=some (.tuple #[],W.put B (.cells (cs.take o++rest)))\/(n=0/\aG Tryz.prog .clear #[32] 0 #[false] [.slice (some ⟨B,o,none⟩) n c] W=some (.tuple #[],W)):=by
 by_cases h0:n=0
 ·subst h0;exact⟨[],.inr ⟨rfl,by unfold aG BS;simp only[e32,t42,z42,if_true];rfl⟩⟩
 ·refine⟨(Builtin.zeroCells (lU (0,0)).cells n).toList,.inl ?_⟩;have e:BS Tryz.prog W #[32] (.slice (some ⟨B,o,none⟩) n c)=some (W.put B (.cells (cs.take o++(Builtin.zeroCells (lU (0,0)).cells n).toList))):=by
   unfold BS;simp only[e32,t42,z42,if_neg h0,if_pos (And.intro (a0Y n) (show 0<2 by omega))];rw[M9,hB];simp only;have hall:(Builtin.zeroCells (lU (0,0)).cells n).toList.all Eng.one=true:=by
    have:=a0Y n;rw[List.all_eq_true]at this|-;intro x hx;have:=this x hx;unfold Builtin.zeroCells at hx;simp only[Array.toList_map,List.mem_map]at hx;obtain⟨i,-,rfl⟩:=hx;have h2:i % (lU (0,0)).cells.size=0\/i % (lU (0,0)).cells.size=1:=by have:(lU (0,0)).cells.size=2:=rfl;rw[this];omega
    rcases h2 with e|e<;>rw[e]<;>rfl
   rw[if_pos ⟨by rw[a1t];omega,hall⟩];unfold iX;rw[List.drop_of_length_le (by rw[a1t];omega),List.append_nil]
  unfold aG;simp only[e,Option.map_some]
def fG(now:Int)(x:Int×Int):Bool:=decide (x.2<=now)
theorem a2y{α:Type}{z:Nat}{f:α->List Value}(hf:∀a,(f a).length=z)(ys:List α){m:Nat}(hm:m<=ys.length):(ys.flatMap f).take (m*z)=(ys.take m).flatMap f:=by
 have e:ys.flatMap f=(ys.take m).flatMap f++(ys.drop m).flatMap f:=by rw[<-List.flatMap_append,List.take_append_drop]
 have e2:((ys.take m).flatMap f).length=m*z:=by rw[aR hf,List.length_take,Nat.min_eq_left hm]
 rw[e,<-e2,List.take_left]
theorem aA2(W:AW)(x:Int×Int):∃W1 W2,bE Tryz.prog 42 W=some (.pointer (some ⟨W.next,0,none⟩),W1)/\fZ 2 (.pointer (some ⟨W.next,0,none⟩)) (lU x) W1=some (undef,W2)/\Le W W2/\W2.next=W.next+1/\W2.get W.next=some (.cells [.int .i64 x.1,.int .i64 x.2]):=
 ⟨_,_,a9D W,a7w x (AW.get_add _ _),((Le.refl _).add _).put (Nat.le_refl _) _,rfl,AW.get_put _ _ _⟩
theorem a9j{V:AW}{B X:Nat}{now:Int}{l:List (Int×Int)}(hB:V.get B=some (.cells (l.flatMap sV)))(hBl:B<V.next)(hX:V.get X=some (.cells [.int .i64 now]))(hXl:X<V.next)(hXB:X≠B)(hl:l.length<=5000):
 ∃V' rest,aL (.func (.func 139) #[] #[]) [.slice (some ⟨B,0,none⟩) l.length (bS+2),.func (.func 141) #[] #[.pointer (some ⟨X,0,none⟩)]] V=some (.slice (some ⟨B,0,none⟩) (l.filter (fG now)).length (bS+2),V')/\
  V.next<=V'.next/\(∀b,b<V.next->b≠B->V'.get b=V.get b)/\V'.get B=some (.cells ((l.filter (fG now)).flatMap sV++rest)):=by
 have hH:HoL V (.slice (some ⟨B,0,none⟩) l.length (bS+2)) l:=a0o (rest:=[]) (by rw[List.append_nil];exact hB) hBl;have hidx:=UJ hH (λx _=>a0G hX hXl x) (by omega);have main:Ok (aZ aL (.slice (some ⟨B,0,none⟩) l.length (bS+2)) (.func (.func 141) #[] #[.pointer (some ⟨X,0,none⟩)]) V) λr=>r.1=.slice (some ⟨B,0,none⟩) (l.filter (fG now)).length (bS+2)/\∃rest,V.next<=r.2.next/\(∀b,b<V.next->b≠B->r.2.get b=V.get b)/\r.2.get B=some (.cells ((l.filter (fG now)).flatMap sV++rest)):=by
  unfold aZ;rcases Q6 (λx:Int×Int=>decide (now<x.2)) l with⟨h1,h2⟩|⟨i,hi,h2,h3,h4⟩
  ·have d:decide ((-1:Int)= -1)=true:=rfl;have hf:l.filter (fG now)=l:=List.filter_eq_self.2 λx hx=>by have:=of_decide_eq_false (h1 x hx);unfold fG;exact decide_eq_true (by omega)
   simp only[SX,hidx,h2,d,aB];exact⟨by rw[hf],[],Nat.le_refl _,λ_ _ _=>trivial,by rw[hf,List.append_nil];exact hB⟩
  ·have d:decide ((i:Int)= -1)=false:=decide_eq_false (by omega);have t0:=λW'=>aQ (P:=Tryz.prog) (W:=W') (t:=3) (c:=false) (d:=true) (a:=(i:Int)) (b:=1) (by omega) (by omega)
   have k0:∀x∈l.take i,fG now x=true:=λx hx=>by obtain⟨j,hj,rfl⟩:=List.mem_iff_getElem.1 hx;rw[List.length_take]at hj;rw[List.getElem_take];have:=of_decide_eq_false (h4 j (by omega));unfold fG;exact decide_eq_true (by omega)
   have e0:(l.take (i+1)).filter (fG now)=l.take i:=by rw[List.take_add_one,List.getElem?_eq_getElem hi,List.filter_append,List.filter_eq_self.2 k0];have:=of_decide_eq_true h3;have h5:fG now l[i]=false:=decide_eq_false (by omega);simp[h5]
   simp only[SX,hidx,h2,d,t0]
   refine bF (l.length-(i+1)) (by omega) (λq R U=>V.next<=U.next/\(∀b,b<V.next->b≠B->U.get b=V.get b)/\R 0=.slice (some ⟨B,0,none⟩) l.length (bS+2)/\R 1=.func (.func 141) #[] #[.pointer (some ⟨X,0,none⟩)]/\R 6=.int .i64 ((i+1+q:Nat):Int)/\
    ∃(ys:List (Int×Int)) (m:Nat),U.get B=some (.cells (ys.flatMap sV))/\ys.length=l.length/\R 5=.int .i64 (m:Int)/\m<=i+1+q/\m=((l.take (i+1+q)).filter (fG now)).length/\ys.take m=(l.take (i+1+q)).filter (fG now)/\ys.drop (i+1+q)=l.drop (i+1+q))
    (λr=>r.1=.exit 0/\V.next<=r.2.2.next/\(∀b,b<V.next->b≠B->r.2.2.get b=V.get b)/\r.2.1 0=.slice (some ⟨B,0,none⟩) l.length (bS+2)/\∃(ys:List (Int×Int)) (m:Nat),r.2.2.get B=some (.cells (ys.flatMap sV))/\ys.length=l.length/\r.2.1 5=.int .i64 (m:Int)/\m<=l.length/\m=(l.filter (fG now)).length/\ys.take m=l.filter (fG now))
    ⟨Nat.le_refl _,λ_ _ _=>rfl,rfl,rfl,by rw[Nat.add_zero];show _=Value.int .i64 ((i:Int)+1);rfl,l,i,hB,rfl,rfl,by omega,by rw[Nat.add_zero,e0,List.length_take];omega,by rw[Nat.add_zero,e0],rfl⟩ ?_ ?_ ?_
   ·rintro q R U hq ⟨u1,u2,r0,r1,r6,ys,m,u3,u4,r5,u5,u6,u7,u8⟩;unfold bN;generalize hj:i+1+q=j at *;have hjl:j<l.length:=by omega
    have t1:((j:Int)<(l.length:Int)):=by omega
    have t2:=λW'=>aQ (P:=Tryz.prog) (W:=W') (t:=3) (c:=false) (d:=true) (a:=(j:Int)) (b:=1) (by omega) (by omega)
    have e3:((i+1+(q+1):Nat):Int)=(j:Int)+1:=by omega
    have e3':i+1+(q+1)=j+1:=by omega
    have yj:ys[j]? =some l[j]:=by have h5:=congrArg (λt=>t[0]?) u8;simp only[List.getElem?_drop,Nat.add_zero]at h5;rw[h5,List.getElem?_eq_getElem hjl]
    have hBU:B<U.next:=by omega
    have HU:HoL U (.slice (some ⟨B,0,none⟩) l.length (bS+2)) ys:=by rw[<-u4];exact a0o (rest:=[]) (by rw[List.append_nil];exact u3) hBU
    obtain⟨yi,ye⟩:=List.getElem?_eq_some_iff.1 yj;obtain⟨b,o,i1,i2,i3⟩:=HoL.get HU yi;have i4:=(i3 U rfl).1;rw[ye]at i4;obtain⟨U1,U2,k1,k2,k3,k4,k5⟩:=aA2 U l[j];have ld:=a7B (v:=l[j]) k5;have hX2:U2.get X=some (.cells [.int .i64 now]):=by rw[k3.get _ (by omega),u2 _ hXl hXB];exact hX
    have hd:=a0G hX2 (by omega) l[j];have hB2:U2.get B=some (.cells (ys.flatMap sV)):=by rw[k3.get _ hBU];exact u3
    have g2:∀b,b<V.next->b≠B->U2.get b=V.get b:=λb hb hne=>by rw[k3.get _ (by omega)];exact u2 b hb hne
    by_cases c:now<l[j].2
    ·have d1:=decide_eq_true c;rw[d1]at hd;have hk:fG now l[j]=false:=decide_eq_false (by omega);have e4:(l.take (j+1)).filter (fG now)=(l.take j).filter (fG now):=by rw[List.take_add_one,List.getElem?_eq_getElem hjl,List.filter_append];simp[hk]
     simp only[SX,r0,r1,r6,iB DW,t1,decide_true,i1,i4,k1,k2,ld,hd,t2,aB];refine .inl ⟨trivial,by omega,g2,r0,r1,by rw[e3];rfl,ys,m,hB2,u4,r5,by omega,by rw[e3',e4];exact u6,by rw[e3',e4];exact u7,?_⟩;rw[e3',<-List.drop_drop,<-List.drop_drop,u8]
    ·have d1:=decide_eq_false c;rw[d1]at hd;have hk:fG now l[j]=true:=decide_eq_true (by omega);have e4:(l.take (j+1)).filter (fG now)=(l.take j).filter (fG now)++[l[j]]:=by rw[List.take_add_one,List.getElem?_eq_getElem hjl,List.filter_append];simp[hk]
     have hml:m<ys.length:=by omega
     have ix:=λW' q=>nC (W:=W') (z:=2) (b:=B) (o:=0) (l:=l.length) (c:=bS+2) (i:=m) (k:=q) (by omega)
     have hst:=xY (n:=2) (b:=B) (o:=m*2) (v:=lU l[j]) hB2 rfl (by show m*2+2<=_;rw[aR qY];omega) rfl;have e5:iX (ys.flatMap sV) (m*2) (lU l[j]).cells.toList=(ys.set m l[j]).flatMap sV:=BX qY (List.getElem?_eq_getElem hml) l[j];rw[e5]at hst;have t3:=λW'=>aQ (P:=Tryz.prog) (W:=W') (t:=3) (c:=false) (d:=true) (a:=(m:Int)) (b:=1) (by omega) (by omega)
     simp only[SX,r0,r1,r5,r6,iB DW,t1,decide_true,i1,i4,k1,k2,ld,hd,ix,Nat.zero_add,hst,t2,t3,aB];refine .inl ⟨trivial,by rw[AW.put_next];omega,λb hb hne=>by rw[AW.get_put_ne _ _ (λx=>hne x.symm)];exact g2 b hb hne,r0,r1,by rw[e3];rfl,ys.set m l[j],m+1,AW.get_put _ _ _,by rw[List.length_set];exact u4,by rw[show((m+1:Nat):Int)=(m:Int)+1 by omega];rfl,by omega,?_,?_,?_⟩
     ·rw[e3',e4,List.length_append,<-u6];rfl
     ·rw[e3',e4,List.take_add_one,List.take_set_of_le (Nat.le_refl _),u7,List.getElem?_set_self hml];rfl
     ·rw[e3',List.drop_set_of_lt (by omega),<-List.drop_drop,<-List.drop_drop,u8]
   ·rintro R U ⟨u1,u2,r0,r1,r6,ys,m,u3,u4,r5,u5,u6,u7,u8⟩;unfold bN;have ej:i+1+(l.length-(i+1))=l.length:=by omega
    rw[ej]at r6 u5 u6 u7 u8;rw[List.take_length]at u6 u7;have t1:¬((l.length:Int)<(l.length:Int)):=by omega
    simp only[SX,r0,r6,iB DW,t1,decide_false,aB];exact⟨by simp,trivial,u1,u2,r0,ys,m,u3,u4,r5,u5,u6,u7⟩
   ·rintro⟨q,R,U⟩ ⟨rfl,u1,u2,r0,ys,m,u3,u4,r5,u5,u6,u7⟩;simp only at u1 u2 r0 u3 r5;have hs1:=λW'=>M3 (b:=B) (l:=l.length) (k:=.i64) u5 W'
    have hs2:=λW'=>vI (P:=Tryz.prog) (W:=W') a9A (by omega) (b:=B) (o:=0) (l:=l.length) (h:=m) (k:=.i64) u5
    obtain⟨rest,hc⟩:=a5F (o:=m*2) (n:=l.length-m) (c:=bS+2) u3 (by rw[aR qY,u4];omega);have e5:(ys.flatMap sV).take (m*2)=(l.filter (fG now)).flatMap sV:=by rw[a2y qY ys (by omega),u7]
    rw[<-u6];rcases hc with hc|⟨h0,hc⟩
    ·simp only[SX,r0,r5,hs1,hs2,hc,aB];exact⟨trivial,rest,by rw[AW.put_next];exact u1,λb hb hne=>by rw[AW.get_put_ne _ _ (λx=>hne x.symm)];exact u2 b hb hne,by rw[AW.get_put,e5]⟩
    ·simp only[SX,r0,r5,hs1,hs2,hc,aB];refine⟨trivial,[],u1,u2,?_⟩;have em:m=ys.length:=by omega
     rw[em,List.take_length]at u7;rw[List.append_nil,<-u7];exact u3
 obtain⟨⟨r,V'⟩,h1,h2,rest,h3,h4,h5⟩:=main;simp only at h2 h3 h4 h5;subst h2;exact⟨V',rest,by rw[dM h1,dV rfl],h3,h4,h5⟩
theorem xX(W:AW):aL (.func (.func 79) #[] #[]) [] W=some (.func (.func 144) #[] #[],W):=by
 have:vS aL W=some (.func (.func 144) #[] #[],W):=by unfold vS;simp only[SX]
 rw[JI this,JX]
theorem a6B(fv:Value)(W:AW):aL (.func (.func 139) #[] #[]) [.slice none 0 0,fv] W=some (.slice none 0 0,W):=by
 have h0:HoL W (.slice none 0 0) []:=Row.nil;have hidx:=UJ (p:=λ_=>false) (fv:=fv) h0 (λx hx=>by simp at hx) (by simp);rw[KL (by simp)]at hidx;have d:decide ((-1:Int)= -1)=true:=rfl;have:aZ aL (.slice none 0 0) fv W=some (.slice none 0 0,W):=by unfold aZ;simp only[SX,hidx,d]
 rw[dM this,JX]
theorem M0(p:Option Addr)(c:Nat)(fv:Value)(W:AW):aL (.func (.func 78) #[] #[]) [.slice p 0 c,fv] W=some (.tuple #[],W):=yS (.inl ⟨p,c,fv,rfl,rfl⟩)
def NewL(lo:Nat)(W:AW)(u:Value)(l:List (Int×Int)):Prop:=∃a c,u=.slice a l.length c/\(l=[]\/∃B rest,a=some ⟨B,0,none⟩/\lo<=B/\B<W.next/\W.get B=some (.cells (l.flatMap sV++rest)))
section
variable {lo:Nat} {W W':AW} {u:Value} {l:List (Int×Int)}
theorem NewL.row(h:NewL lo W u l):HoL W u l:=by
 obtain⟨a,c,rfl,h⟩:=h;rcases h with rfl|⟨B,rest,rfl,h1,h2,h3⟩
 ·exact⟨a,c,rfl,.inl rfl⟩
 ·exact a0o h3 h2
theorem NewL.nil(p:Option Addr)(c:Nat):NewL lo W (.slice p 0 c) []:=⟨p,c,rfl,.inl rfl⟩
theorem NewL.gr{K:Nat->Prop}(h:NewL lo W u l)(g:Gr W W' K)(hk:∀b,lo<=b->b<W.next->¬K b):NewL lo W' u l:=by
 obtain⟨a,c,rfl,h⟩:=h;rcases h with h|⟨B,rest,h0,h1,h2,h3⟩
 ·exact⟨a,c,rfl,.inl h⟩
 ·exact⟨a,c,rfl,.inr ⟨B,rest,h0,h1,Nat.lt_of_lt_of_le h2 g.next,(g.get _ h2 (hk _ h1 h2)).trans h3⟩⟩
theorem NewL.gc1(hl:Le W W')(h:NewL lo W' u l):∃W2,gc W (u,W')=(u,W2)/\Le W W2/\NewL lo W2 u l:=by
 cases hp:(aX u&& !isU u)
 ·exact⟨W',dV hp,hl,h⟩
 ·refine⟨W,rV hp hl,.refl _,?_⟩;obtain⟨a,c,rfl,h⟩:=h;rcases h with h|⟨B,rest,rfl,-⟩
  ·exact⟨a,c,rfl,.inl h⟩
  ·exact absurd hp (by simp[aX,jA,bW])
theorem NewL.gc2{k:IntKind}{e:Int}(hl:Le W W')(h:NewL lo W' u l):∃W2,gc W (.tuple #[u,.int k e],W')=(.tuple #[u,.int k e],W2)/\Le W W2/\NewL lo W2 u l:=by
 cases hp:(aX (.tuple #[u,.int k e])&& !isU (.tuple #[u,.int k e]))
 ·exact⟨W',dV hp,hl,h⟩
 ·refine⟨W,rV hp hl,.refl _,?_⟩;obtain⟨a,c,rfl,h⟩:=h;rcases h with h|⟨B,rest,rfl,-⟩
  ·exact⟨a,c,rfl,.inl h⟩
  ·exact absurd hp (by simp[aX,jA,bW])
theorem a9s{o t:Option (Value×AW)}(h:Ok t λr=>Le W r.2/\NewL lo r.2 r.1 l)(hom:∀{r},t=some r->o=some (gc W r)):∃v W2,o=some (v,W2)/\Le W W2/\NewL lo W2 v l:=by obtain⟨⟨v,W'⟩,h1,h2,h3⟩:=h;obtain⟨W2,k1,k2,k3⟩:=NewL.gc1 h2 h3;exact⟨v,W2,by rw[hom h1,k1],k2,k3⟩
theorem JU{o t:Option (Value×AW)}{k:IntKind}{e:Int}(h:Ok t λr=>∃v,r.1=.tuple #[v,.int k e]/\Le W r.2/\NewL lo r.2 v l)(hom:∀{r},t=some r->o=some (gc W r)):∃v W2,o=some (.tuple #[v,.int k e],W2)/\Le W W2/\NewL lo W2 v l:=by obtain⟨⟨u,W'⟩,h1,v,h2,h3,h4⟩:=h;simp only at h2 h3 h4;subst h2;obtain⟨W2,k1,k2,k3⟩:=NewL.gc2 h3 h4;exact⟨v,W2,by rw[hom h1,k1],k2,k3⟩
end
def nW(h:List (Int×Int))(now:Int)(l:List (Int×Int)):Prop:=Asc l/\l.Perm (h.filter (fG now))
section
variable {X K:Nat->Prop} {V:AW} {M k many:Nat} {v:Ven} {W0:AW} {N:Int} {l:List SeT}
theorem a9x{H B o:Nat}{In:Nat->Prop}{q:St}{es:List (Int×Int)}(hH:HT V In H many q)(hq:q.es.Perm es)(hn:es.length<=4096)(hB:B<V.next)(hl:aP (.pointer (some ⟨B,o,none⟩)) V=some (hP H,V))(hl2:∀W,Le V W->aP (.pointer (some ⟨B,o,none⟩)) W=some (hP H,W))(now:Int):
 ∃u V',∃l',aL (.func (.func 77) #[] #[]) [.pointer (some ⟨B,o,none⟩),.int .i64 now] V=some (u,V')/\Le V V'/\NewL V.next V' u l'/\nW es now l':=by
 have hqn:q.n=es.length:=by have:=hq.length_eq;rwa [Y6]at this
 have main:∃l',Ok (oC aL (.pointer (some ⟨B,o,none⟩)) (.int .i64 now) V) (λr=>Le V r.2/\NewL V.next r.2 r.1 l')/\nW es now l':=by
  unfold oC;have l1:Le V (V.add (.cells [.int .i64 now])):=(Le.refl _).add _;have n1:(V.add (.cells [.int .i64 now])).next=V.next+1:=AW.add_next _ _;have g1:(V.add (.cells [.int .i64 now])).get V.next=some (.cells [.int .i64 now]):=AW.get_add _ _;simp only[SX,Nat.zero_add,Nat.add_zero,aD];generalize V.add (.cells [.int .i64 now])=V1 at *;have ld:=hl2 V1 l1;have h1:HT V1 In H many q:=hH.keep l1.next (λb hb _=>l1.get b hb) (λb _ hx=>hx);obtain⟨V2,u,l0,k1,k2,k3,k4,-⟩:=a5l h1 (by omega);have l2:=l1.trans k2;have p0:l0.Perm es:=k4.trans hq;rcases k3 with⟨rfl,rfl⟩|⟨hne,C,c1,c2,rfl,c3⟩
  ·refine⟨[],?_,List.Pairwise.nil,?_⟩
   ·simp only[SX,ld,k1,a6B,xX,M0,aB];exact⟨l2,NewL.nil _ _⟩
   ·rw[<-List.Perm.nil_eq p0];exact .refl _
  ·have hX:V2.get V.next=some (.cells [.int .i64 now]):=by rw[k2.get _ (by omega)];exact g1
   obtain⟨V3,rest,d1,d2,d3,d4⟩:=a9j (now:=now) c3 c2 hX (by have:=k2.next;omega) (by omega) (by have:=p0.length_eq;omega);have l3:Le V V3:=⟨by have:=l2.next;omega,λb hb=>by rw[d3 b (by have:=l2.next;omega) (by omega)];exact l2.get b hb⟩;by_cases hf:l0.filter (fG now)=[]
   ·refine⟨[],?_,List.Pairwise.nil,?_⟩
    ·rw[hf]at d1;simp only[SX,ld,k1,d1,xX,List.length_nil,M0,aB];exact⟨l3,NewL.nil _ _⟩
    ·rw[<-hf];exact p0.filter _
   ·obtain⟨l',e1,e2,e3⟩:=X6 (c:=bS+2) hf (by have:=List.length_filter_le (fG now) l0;have:=p0.length_eq;omega) d4;refine⟨l',?_,e2,e1.trans (p0.filter _)⟩;simp only[SX,ld,k1,d1,xX,e3,aB];refine⟨l3.put (by omega) _,?_⟩;rw[<-e1.length_eq];exact⟨_,_,rfl,.inr ⟨C,rest,rfl,by omega,by rw[AW.put_next];omega,AW.get_put _ _ _⟩⟩
 obtain⟨l',m1,m2⟩:=main;obtain⟨u,V',r1,r2,r3⟩:=a9s m1 zQ;exact⟨u,V',l',r1,r2,r3,m2⟩
theorem MapX.due(h:MapX X K V M k many v W0 N l){i:Nat}(hi:i<k)(now:Int):∃B,(∀U,Le V U->aP (.pointer (some ⟨M,5,none⟩)) U=some (.slice (some ⟨B,0,none⟩) k k,U))/\∃u V',∃l',aL (.func (.func 77) #[] #[]) [.pointer (some ⟨B,i*2,none⟩),.int .i64 now] V=some (u,V')/\Le V V'/\NewL V.next V' u l'/\nW (bV l (nP k i)) now l':=by obtain⟨d,rfl,rfl,rfl,-,-,-,hlen,-,p⟩:=h;have:=p.mn;exact⟨d.SB,λU hU=>(p.le hU).l5,a9x (p.ho i hi) (p.es i hi) (Nat.le_trans (qB _ _) (by omega)) p.sl (p.h0 hi) (λW hW=>(p.le hW).h0 hi) now⟩
theorem a7f(h:MapX X K V M k many v W0 N l)(i now:Int):∃u V',∃l',aL (.func (.func 19) #[] #[]) [mV M,.int .i64 i,.int .i64 now] V=some (.tuple #[u,.int .i64 (lT i k now)],V')/\Le V V'/\NewL V.next V' u l'/\(lT i k now≠0->l'=[])/\(lT i k now=0->nW (bV l (nP k i.toNat)) now l'):=by
 have hse:=PK h i now;have main:∃l',Ok (rZ aL (mV M) (.int .i64 i) (.int .i64 now) V) (λr=>∃u,r.1=.tuple #[u,.int .i64 (lT i k now)]/\Le V r.2/\NewL V.next r.2 u l')/\(lT i k now≠0->l'=[])/\(lT i k now=0->nW (bV l (nP k i.toNat)) now l'):=by
  unfold rZ;by_cases c:lT i k now=0
  ·obtain⟨s,rfl,hs,-⟩:=a9v c;obtain⟨B,b1,u,V',l',r1,r2,r3,r4⟩:=h.due hs now;refine⟨l',?_,λx=>absurd c x,λ_=>r4⟩;have d0:decide ((0:Int)=0)=true:=rfl;simp only[SX,hse,c,d0,aD,Nat.zero_add,Nat.add_zero,b1 V (Le.refl _),TZ hs,r1,aB];exact⟨u,rfl,r2,r3⟩
  ·have d1:=decide_eq_false c;refine⟨[],?_,λ_=>rfl,λx=>absurd x c⟩;simp only[SX,hse,d1,aB];exact⟨_,rfl,Le.refl _,NewL.nil _ _⟩
 obtain⟨l',m1,m2,m3⟩:=main;obtain⟨u,V',r1,r2,r3⟩:=JU m1 EH;exact⟨u,V',l',r1,r2,r3,m2,m3⟩
end
section
variable {α:Type} {z:Nat} {f:α->List Value} {at_:List Value->Nat->α->Prop} {W:AW} {v u:Value} {l m:List α}
theorem Lst.cat{ts:Array TypeId}{bytes lo:Nat}(hk:mD Tryz.prog ts z bytes=true)(hf:∀a,(f a).length=z)(h1:∀a,(f a).all Eng.one=true)(h:Lst lo W z f v l)(hr:Row W z at_ u m)(hat:∀cs p a,at_ cs p a->(cs.drop p).take z=f a)
 (hb:l.length+m.length<1099511627776)(hb2:(2*(l.length+m.length)+192)*bytes<=281474976710656)(hlo:lo<=W.next):
 ∃v' W',bJ Tryz.prog W ts v u=some (v',W')/\Lst lo W' z f v' (l++m)/\W.next<=W'.next/\∀A,Le A W->A.next<=lo->Le A W':=by
 obtain⟨a,c,rfl,hr⟩:=hr;by_cases hm:m=[]
 ·subst hm;rw[List.append_nil];have hb3:(2*l.length+192)*bytes<=281474976710656:=by simpa using hb2
  rcases h with⟨rfl,rfl⟩|⟨h0,B,i1,i2,rfl,i4⟩
  ·exact⟨_,W,yE hk (Nat.le_refl 0) (by omega) (by simpa using hb3),Lst.nil _ _ _ _,Nat.le_refl _,λA hA _=>hA⟩
  ·exact⟨_,W,yE hk (by have:l.length<bS:=by unfold bS;simp at hb;omega
                       omega) (by simp at hb;omega) hb3,.inr ⟨h0,B,i1,i2,rfl,i4⟩,Nat.le_refl _,λA hA _=>hA⟩
 ·rcases hr with hr|⟨C,o,cs,rfl,h2,h3,h4⟩
  ·exact absurd hr hm
  ·have e:m.flatMap f=(cs.drop o).take (m.length*z):=(DX hf m cs o λi hi=>hat _ _ _ (h4 i hi)).symm;have hall:(m.flatMap f).all Eng.one=true:=by rw[List.all_flatMap,List.all_eq_true];exactλa _=>h1 a
   have hmp:=List.length_pos_iff.2 hm;rcases h with⟨rfl,rfl⟩|⟨h0,B,i1,i2,rfl,i4⟩
   ·refine⟨_,_,CE (b:=C) (o:=o) (n:=m.length) (c:=c) hk h3 e (aR hf m) hmp hall (by simpa using hb) (by simpa using hb2),.inr ⟨by simpa using hm,W.next,hlo,by rw[AW.add_next];omega,by simp,by rw[AW.get_add];simp⟩,by rw[AW.add_next];omega,λA hA _=>hA.add _⟩
   ·have hpos:0<l.length:=List.length_pos_iff.2 h0;refine⟨_,_,SV (b:=C) (o:=o) (n:=m.length) (c:=c) hk h3 e (aR hf m) hmp hall i4 (aR hf l) (by omega) (by omega) hpos,.inr ⟨by simp[hm],W.next,hlo,by rw[AW.add_next,AW.kill_next];omega,by simp[AW.kill_next],?_⟩,by rw[AW.add_next,AW.kill_next];omega,λA hA hl=>(hA.kill (by omega)).add _⟩;have:=(W.kill B).get_add (.cells (l.flatMap f++m.flatMap f));rw[AW.kill_next]at this;rw[this,List.flatMap_append]
end
theorem hoT{cs:List Value}{p:Nat}{x:Int×Int}(h:a9n cs p x):(cs.drop p).take 2=sV x:=by obtain⟨h0,h1⟩:=h;obtain⟨i0,e0⟩:=List.getElem?_eq_some_iff.1 h0;obtain⟨i1,e1⟩:=List.getElem?_eq_some_iff.1 h1;rw[List.drop_eq_getElem_cons i0,List.drop_eq_getElem_cons i1,e0,e1];rfl
theorem Y2(l:List SeT){k:Nat}(hk:0<k):((List.range k).flatMap λi=>bV l (nP k i)).Perm (bV l λ_=>true):=by
 refine(List.perm_ext_iff_of_nodup ?_ (MP _ _)).2 λx=>?_
 ·unfold List.Nodup;rw[List.pairwise_flatMap];refine⟨λi _=>MP _ _,List.nodup_range.imp λ{a b} hab x hx y hy e=>?_⟩;subst e;obtain⟨j,j1,j2,j3,rfl⟩:=kQ.1 hx;obtain⟨j',j1',j2',j3',e⟩:=kQ.1 hy;have:(j:Int)=(j':Int):=congrArg (·.1) e;have:j=j':=by omega
  subst this;simp at j2 j2';omega
 ·rw[List.mem_flatMap];constructor
  ·rintro⟨i,-,hx⟩;obtain⟨j,j1,j2,j3,rfl⟩:=kQ.1 hx;exact kQ.2 ⟨j,j1,rfl,j3,rfl⟩
  ·intro hx;obtain⟨j,j1,j2,j3,rfl⟩:=kQ.1 hx;exact⟨j % k,List.mem_range.2 (Nat.mod_lt _ hk),kQ.2 ⟨j,j1,by simp,j3,rfl⟩⟩
section
variable {X K:Nat->Prop} {V:AW} {M k many:Nat} {v:Ven} {W0:AW} {N:Int} {l:List SeT}
theorem OV(h:MapX X K V M k many v W0 N l)(now:Int):∃u V',∃l',aL (.func (.func 20) #[] #[]) [mV M,.int .i64 now] V=some (.tuple #[u,.int .i64 (if now<0 then 7 else 0)],V')/\Le V V'/\NewL V.next V' u l'/\(now<0->l'=[])/\(0<=now->nW (bV l λ_=>true) now l'):=by
 have hse:=PK h 0 now;have hkp:=h.kp;have hmn:=h.mn;have hlen:=h.len;have es0:lT 0 k now=if now<0 then 7 else 0:=by unfold lT;rw[if_neg (by omega)]
 rw[es0]at hse;by_cases c:now<0
 ·rw[if_pos c]at hse|-;have d1:decide ((7:Int)=0)=false:=rfl;have main:Ok (fI aL (mV M) (.int .i64 now) V) (λr=>∃u,r.1=.tuple #[u,.int .i64 7]/\Le V r.2/\NewL V.next r.2 u []):=by unfold fI;simp only[SX,hse,d1,aB];exact⟨_,rfl,Le.refl _,NewL.nil _ _⟩
  obtain⟨u,V',r1,r2,r3⟩:=JU main qW;exact⟨u,V',[],r1,r2,r3,λ_=>rfl,λx=>by omega⟩
 ·rw[if_neg c]at hse|-;have d0:decide ((0:Int)=0)=true:=rfl;obtain⟨B,hB⟩:=sM5 h;have hlen':∀m i,i<=k->(m:List (Int×Int)).Perm (((List.range i).flatMap λi=>bV l (nP k i)).filter (fG now))->m.length<=4096:=λm i hi hp=>by
   have h1:=hp.length_eq;have h2:=List.length_filter_le (fG now) ((List.range i).flatMap λi=>bV l (nP k i));have h3:((List.range i).flatMap λi=>bV l (nP k i)).length<=((List.range k).flatMap λi=>bV l (nP k i)).length:=by
    have e:List.range k=List.range i++(List.range (k-i)).map (i+ ·):=by rw[<-List.range_add];congr 1;omega
    rw[e,List.flatMap_append,List.length_append];omega
   have h4:=(Y2 l hkp.1).length_eq;have h5:=qB l λ_=>true
   omega
  have main:∃l',Ok (fI aL (mV M) (.int .i64 now) V) (λr=>∃u,r.1=.tuple #[u,.int .i64 0]/\Le V r.2/\NewL V.next r.2 u l')/\nW (bV l λ_=>true) now l':=by
   have key:Ok (fI aL (mV M) (.int .i64 now) V) (λr=>∃l',(∃u,r.1=.tuple #[u,.int .i64 0]/\Le V r.2/\NewL V.next r.2 u l')/\nW (bV l λ_=>true) now l'):=by
    unfold fI;simp only[SX,hse,d0,aD,Nat.zero_add,hB,wM];refine bF k (by omega) (λi R U=>Le V U/\R 0=mV M/\R 1=.int .i64 now/\R 19=.int .i64 (k:Int)/\R 20=.int .i64 (i:Int)/\∃m,Lst V.next U 2 sV (R 7) m/\m.Perm (((List.range i).flatMap λi=>bV l (nP k i)).filter (fG now)))
     (λr=>r.1=.exit 0/\Le V r.2.2/\∃m,Lst V.next r.2.2 2 sV (r.2.1 7) m/\m.Perm (((List.range k).flatMap λi=>bV l (nP k i)).filter (fG now))) ⟨Le.refl _,rfl,rfl,rfl,rfl,[],Lst.nil _ _ _ _,.refl _⟩ ?_ ?_ ?_
    ·rintro i R U hi ⟨u1,r0,r1,r19,r20,m,u2,u3⟩;unfold kI;have t1:((i:Int)<(k:Int)):=by omega
     have t2:=λW'=>aQ (P:=Tryz.prog) (W:=W') (t:=3) (c:=false) (d:=true) (a:=(i:Int)) (b:=1) (by omega) (by omega)
     have e3:((i+1:Nat):Int)=(i:Int)+1:=by omega
     obtain⟨B',b1,x,U1,l',x1,x2,x3,x4⟩:=(h.le u1).due hi now;have hm4:=hlen' m i (by omega) u3;have hd4:l'.length<=4096:=by have h1:=x4.2.length_eq;have h2:=List.length_filter_le (fG now) (bV l (nP k i));have h3:=qB l (nP k i);omega
     obtain⟨v',U2,y1,y2,y3,y4⟩:=Lst.cat aAN qY a1d (u2.mono x2) x3.row (λ_ _ _=>hoT) (by omega) (by omega) (by have:=u1.next;have:=x2.next;omega);simp only[SX,r0,r1,r19,r20,t1,decide_true,aD,Nat.zero_add,Nat.add_zero,b1 U (Le.refl _),TZ hi,x1,y1,t2,aB];refine .inl ⟨trivial,y4 V (u1.trans x2) (Nat.le_refl _),r0,r1,r19,by rw[e3];rfl,m++l',y2,?_⟩;rw[List.range_succ,List.flatMap_append,List.filter_append];simp only[List.flatMap_cons,List.flatMap_nil,List.append_nil];exact u3.append x4.2
    ·rintro R U ⟨u1,r0,r1,r19,r20,m,u2,u3⟩;unfold kI;have t1:¬((k:Int)<(k:Int)):=by omega
     simp only[SX,r19,r20,t1,decide_false,aB];exact⟨by simp,trivial,u1,m,u2,u3⟩
    ·rintro⟨q,R,U⟩ ⟨rfl,u1,m,u2,u3⟩;simp only at u1 u2;have hm4:=hlen' m k (Nat.le_refl _) u3;have u4:m.Perm ((bV l λ_=>true).filter (fG now)):=u3.trans ((Y2 l hkp.1).filter _);rcases u2 with⟨rfl,r7⟩|⟨h0,C,c1,c2,r7,c4⟩
     ·simp only[SX,r7,xX,M0,aB];exact⟨[],⟨_,rfl,u1,NewL.nil _ _⟩,List.Pairwise.nil,u4⟩
     ·obtain⟨l',e1,e2,e3⟩:=X6 (c:=bS+2) (rest:=[]) h0 (by omega) (by rw[List.append_nil];exact c4);simp only[SX,r7,xX,e3,aB];refine⟨l',⟨_,rfl,u1.put c1 _,?_⟩,e2,e1.trans u4⟩;rw[<-e1.length_eq];exact⟨_,_,rfl,.inr ⟨C,[],rfl,c1,c2,AW.get_put _ _ _⟩⟩
   obtain⟨r,k1,l',k2,k3⟩:=key;exact⟨l',⟨r,k1,k2⟩,k3⟩
  obtain⟨l',m1,m2⟩:=main;obtain⟨u,V',r1,r2,r3⟩:=JU m1 qW;exact⟨u,V',l',r1,r2,r3,λx=>by omega,λ_=>m2⟩
end
theorem a6s{x:SeT}(now:Int)(h:x9 x=0):x9 (yG x now)=0:=by
 unfold yG;split
 ·rfl
 ·exact h
def KC(now:Int)(l:List SeT)(h:Int×Int):List SeT:=l.set h.1.toNat (yG (iK l h.1.toNat) now)
def uJ(l:List SeT)(now:Int)(d:List (Int×Int)):List SeT:=d.foldl (KC now) l
theorem DV(now:Int):∀(d:List (Int×Int)) (l:List SeT),(uJ l now d).length=l.length
 |[],l=>rfl
 |h::d,l=>by show(uJ (KC now l h) now d).length=l.length;rw[DV now d];unfold KC;rw[List.length_set]
theorem a15(l:List SeT)(now:Int)(d:List (Int×Int))(h:Int×Int):uJ l now (d++[h])=KC now (uJ l now d) h:=by unfold uJ;rw[List.foldl_append];rfl
theorem a4j{l:List SeT}{p:Nat->Bool}{now:Int}{d:List (Int×Int)}(hd:nW (bV l p) now d){h:Int×Int}(hh:h∈d):∃s:Nat,h.1=(s:Int)/\s<l.length:=by have:=(List.mem_filter.1 (hd.2.mem_iff.1 hh)).1;obtain⟨j,h1,-,-,rfl⟩:=kQ.1 this;exact⟨j,rfl,h1⟩
theorem a6i(W:AW)(x:SeT):∃W1 W2,bE Tryz.prog 38 W=some (.pointer (some ⟨W.next,0,none⟩),W1)/\fZ 5 (.pointer (some ⟨W.next,0,none⟩)) (pU x) W1=some (undef,W2)/\Le W W2/\W2.next=W.next+1/\W2.get W.next=some (.cells (eZ x)):=
 ⟨_,_,a8f W,a7p (AW.get_add _ _),((Le.refl _).add _).put (Nat.le_refl _) _,rfl,AW.get_put _ _ _⟩
section
variable {X K:Nat->Prop} {V:AW} {M k many:Nat} {v:Ven} {W0:AW} {N:Int} {l:List SeT}
theorem a0n(h:MapX X K V M k many v W0 N l)(i now:Int)(hN:N<100000000000000):∃u V',∃l',aL (.func (.func 21) #[] #[]) [mV M,.int .i64 i,.int .i64 now] V=some (.tuple #[u,.int .i64 (lT i k now)],V')/\Gr V V' K/\HoL V' u l'/\(lT i k now≠0->l'=[])/\(lT i k now=0->nW (bV l (nP k i.toNat)) now l')/\MapX X K V' M k many v W0 (N+5000) (uJ l now l'):=by
 obtain⟨u,V1,l',e1,e2,e3,e4,e5⟩:=a7f h i now;have hmn:=h.mn;have hlen:=h.len;have hl':l'.length<=4096:=by
  by_cases c:lT i k now=0
  ·have h1:=(e5 c).2.length_eq;have h2:=List.length_filter_le (fG now) (bV l (nP k i.toNat));have h3:=qB l (nP k i.toNat);omega
  ·rw[e4 c];simp
 by_cases c:lT i k now=0;case neg=>
  have d1:=decide_eq_false c;have main:Ok (gI aL (mV M) (.int .i64 i) (.int .i64 now) V) (λr=>∃u,r.1=.tuple #[u,.int .i64 (lT i k now)]/\Le V r.2/\NewL V.next r.2 u []):=by unfold gI;simp only[SX,e1,d1,aB];exact⟨_,rfl,e2,NewL.nil _ _⟩
  obtain⟨u',V',r1,r2,r3⟩:=JU main jQ;exact⟨u',V',[],r1,Le.gr r2 K,r3.row,λ_=>rfl,λx=>absurd x c,(h.le r2).grow (by omega)⟩
 have main:Ok (gI aL (mV M) (.int .i64 i) (.int .i64 now) V) (λr=>r.1=.tuple #[u,.int .i64 (lT i k now)]/\Gr V r.2 K/\HoL r.2 u l'/\MapX X K r.2 M k many v W0 (N+5000) (uJ l now l')):=by
  unfold gI;have d0:decide ((0:Int)=0)=true:=rfl;have hd:=e5 c;rw[c]at e1|-;have hsh:=h.shift e2;obtain⟨K1,hK1⟩:∃K1:Nat->Prop,K1=λb=>K b/\b<V.next\/V1.next<=b:=⟨_,rfl⟩
  rw[<-hK1]at hsh;have hK:∀b,K1 b->K b:=λb hb=>by
   rw[hK1]at hb;rcases hb with hb|hb
   ·exact hb.1
   ·exact h.up (by have:=e2.next;omega)
  have hKn:∀b,V.next<=b->b<V1.next->¬K1 b:=λb h1 h2 hb=>by rw[hK1]at hb;rcases hb with hb|hb<;>omega
  have hlu:=λW'=>e3.row.len DW W' 3 #[false]
  simp only[SX,e1,d0,hlu];refine bF l'.length (by omega) (λj R U=>R 0=mV M/\R 2=.int .i64 now/\R 8=u/\R 24=u/\R 25=.int .i64 (l'.length:Int)/\R 26=.int .i64 (j:Int)/\Gr V1 U K1/\MapX X K1 U M k many v W0 (N+(j:Int)) (uJ l now (l'.take j)))
   (λr=>r.1=.exit 0/\r.2.1 8=u/\Gr V1 r.2.2 K1/\MapX X K1 r.2.2 M k many v W0 (N+(l'.length:Int)) (uJ l now l')) ⟨rfl,rfl,rfl,rfl,rfl,rfl,Gr.refl _ _,by rw[List.take_zero];exact hsh.grow (by omega)⟩ ?_ ?_ ?_
  ·rintro j R U hj ⟨r0,r2,r8,r24,r25,r26,u1,u2⟩;unfold jW;have t1:((j:Int)<(l'.length:Int)):=by omega
   have t2:=λW'=>aQ (P:=Tryz.prog) (W:=W') (t:=3) (c:=false) (d:=true) (a:=(j:Int)) (b:=1) (by omega) (by omega)
   have e6:((j+1:Nat):Int)=(j:Int)+1:=by omega
   obtain⟨b,o,i1,i2,i3⟩:=HoL.get (NewL.row (NewL.gr e3 u1 hKn)) hj;obtain⟨s,s1,s2⟩:=a4j hd (List.getElem_mem hj);obtain⟨U1,U2,a1,a2,a3,a4,a5⟩:=aA2 U l'[j];have ld0:=jE (o:=0) (bU a5) rfl;have hs:(uJ l now (l'.take j))[s]? =some (iK (uJ l now (l'.take j)) s):=kV (by rw[DV];exact s2);generalize hx:iK (uJ l now (l'.take j)) s=x at *;have m2:=u2.le a3;obtain⟨b2,o2,b3,b4,-⟩:=sAt m2 hs;have hxe:x9 x=0:=u2.ok (List.mem_of_getElem? hs);obtain⟨U3,U4,c1,c2,c3,c4,c5⟩:=a6i U2 (yG x now);have ld1:aP (.pointer (some ⟨U.next,0,none⟩)) U4=some (.int .i64 l'[j].1,U4):=jE (o:=0) (bU ((c3.get _ (by omega)).trans a5)) rfl;have ld2:=cB c5;obtain⟨U5,f1,f2,f3⟩:=a6g (m2.le c3) hs (a6s now hxe) (by omega);rw[s1]at ld0 ld1;simp only[SX,r0,r2,r24,r25,r26,t1,decide_true,i1,(i3 U rfl).1,a1,a2,Nat.zero_add,ld0,b3,aD,b4,VJ,c1,c2,ld1,ld2,f1,t2,aB];refine .inl ⟨trivial,r0,r2,r8,r24,r25,by rw[e6];rfl,u1.trans ((Le.gr (a3.trans c3) K1).trans f3),?_⟩;rw[List.take_succ_eq_append_getElem hj,a15];unfold KC;rw[s1,Int.toNat_natCast,hx];rw[e6,<-Int.add_assoc];exact f2
  ·rintro R U ⟨r0,r2,r8,r24,r25,r26,u1,u2⟩;unfold jW;have t1:¬((l'.length:Int)<(l'.length:Int)):=by omega
   rw[List.take_length]at u2;simp only[SX,r25,r26,t1,decide_false,aB];exact⟨by simp,trivial,r8,u1,u2⟩
  ·rintro⟨q,R,U⟩ ⟨rfl,r8,u1,u2⟩;simp only at r8 u1 u2;simp only[SX,r8,aB];exact⟨trivial,(Le.gr e2 K).trans (u1.mono hK),(NewL.gr e3 u1 hKn).row,(u2.weak hK λb hb=>h.wk hb).grow (by omega)⟩
 obtain⟨⟨r,V'⟩,h1,h2,h3,h4,h5⟩:=main;simp only at h2 h3 h4 h5;subst h2;rcases a7i (W:=V) (W':=V') (.tuple #[u,.int .i64 (lT i k now)])with hg|⟨hg,hle,hp⟩
 ·exact⟨u,V',l',by rw[jQ h1,hg],h3,h4,e4,e5,h5⟩
 ·have hl0:l'=[]:=by
   obtain⟨a,c',rfl,hr⟩:=e3;rcases hr with hr|⟨B,rest,rfl,-⟩
   ·exact hr
   ·exact absurd hp (by simp[aX,jA,bW])
  subst hl0;have hu:HoL V u []:=by obtain⟨a,c',rfl,hr⟩:=e3;exact⟨a,c',rfl,.inl rfl⟩
  exact⟨u,V,[],by rw[jQ h1,hg],Gr.refl _ _,hu,e4,e5,h.grow (by omega)⟩
end
theorem NK(v u x y:Value)(W:AW):aJ Tryz.prog [(v,none),(u,none),(x,none),(y,none)] W=some (.tuple #[v,u,x,y],W):=Eq.trans rfl rfl
theorem a1j{α:Type}(p:α->Bool):∀l:List α,l.findIdx p+(l.filter p).length<=l.length
 |[]=>by simp
 |a::l=>by
  rw[List.findIdx_cons,List.filter_cons];have:=a1j p l;cases p a
  ·simp;omega
  ·have h2:=List.length_filter_le p l;simp;omega
theorem KZ{v:Ven}{sec:Int}(he:(IX v sec).2.2=0):∃F C:Nat,(IX v sec).1=(F:Int)/\(IX v sec).2.1=(C:Int)/\((F+C:Nat):Int)<=bR v.secs:=by
 rw[<-a8G]at he|-;unfold a0q at he|-;by_cases h:(j6 v).2=0
 ·rw[if_pos h]at he|-;by_cases h2:((mO v.secs).filter (o5 sec)).length=0
  ·rw[if_pos h2]at he;simp at he
  ·rw[if_neg h2];refine⟨_,_,rfl,rfl,?_⟩;have h3:=a1j (o5 sec) (mO v.secs);have h4:=a0v (oH h).1;unfold a7t;rw[if_neg h2];omega
 ·rw[if_neg h]at he;exact absurd he h
theorem aA6:mD Tryz.prog #[69,69] 1 8=true:=by kernel_rfl
theorem aB1(x:Int)(W:AW):aV Tryz.prog 69 1 [(0,.int .i64 x)] W=some (.slice (some ⟨W.next,0,none⟩) 1 1,W.add (.cells (zN x))):=Eq.trans (by kernel_rfl) rfl
def RP(l:List SeT)(F C:Nat):List Int:=((List.range C).filter λj=>decide ((iK l (F+j)).st=0)).map λj=>((F+j:Nat):Int)
theorem QF(l:List SeT)(F C:Nat):RP l F (C+1)=RP l F C++(if(iK l (F+C)).st=0 then [((F+C:Nat):Int)]else []):=by
 unfold RP;rw[List.range_succ,List.filter_append,List.map_append];congr 1;by_cases c:(iK l (F+C)).st=0
 ·rw[if_pos c];simp[c]
 ·rw[if_neg c];simp[c]
theorem X7(l:List SeT)(F C:Nat):(RP l F C).length<=C:=by unfold RP;rw[List.length_map];have:=List.length_filter_le (λj=>decide ((iK l (F+j)).st=0)) (List.range C);rwa [List.length_range]at this
def uN(l:List SeT)(F C:Nat)(t:Int):Nat:=((List.range C).filter λj=>decide ((iK l (F+j)).st=t)).length
theorem a1J(l:List SeT)(F C:Nat)(t:Int):uN l F (C+1) t=uN l F C t+if(iK l (F+C)).st=t then 1 else 0:=by
 unfold uN;rw[List.range_succ,List.filter_append,List.length_append];congr 1;by_cases c:(iK l (F+C)).st=t
 ·rw[if_pos c];simp[c]
 ·rw[if_neg c];simp[c]
theorem a5U(l:List SeT)(F C:Nat)(t:Int):uN l F C t<=C:=by unfold uN;have:=List.length_filter_le (λj=>decide ((iK l (F+j)).st=t)) (List.range C);rwa [List.length_range]at this
theorem a5w{x:SeT}(h:x9 x=0):x.st=0\/x.st=1\/x.st=2:=by
 unfold x9 at h;split at h
 ·omega
 ·split at h
  ·omega
  ·split at h<;>omega
section
variable {X K:Nat->Prop} {V:AW} {M k many:Nat} {v:Ven} {W0:AW} {N:Int} {l:List SeT}
theorem a1e(h:MapX X K V M k many v W0 N l)(hv:v.secs.length<1000)(sec:Int):aL (.func (.func 96) #[] #[]) [mV M,.int .i64 sec] V=some (.tuple #[.int .i64 (IX v sec).1,.int .i64 (IX v sec).2.1,.int .i64 (IX v sec).2.2],V):=by refine aN rfl ?_ xC;unfold sK;have hok:=OE h;obtain⟨d,rfl,rfl,rfl,rfl,rfl,-,-,-,p⟩:=h;have ho:=aAy (sec:=sec) (p.secs _ p.w0) hv;simp only[SX,hok,aD,Nat.zero_add,p.lv,ho,aB];exact⟨trivial,Le.refl _⟩
def LW(v:Ven)(l:List SeT)(sec:Int):List Int:=if(IX v sec).2.2=0 then RP l (IX v sec).1.toNat (IX v sec).2.1.toNat else []
theorem VF(h:MapX X K V M k many v W0 N l)(hv:v.secs.length<1000)(ht:(many:Int)=bR v.secs)(sec:Int):∃u V',aL (.func (.func 31) #[] #[]) [mV M,.int .i64 sec] V=some (.tuple #[u,.int .i64 (IX v sec).2.2],V')/\Le V V'/\Ints V' u (LW v l sec):=by
 have hse:=a1e h hv sec;have hmn:=h.mn;have hlen:=h.len;refine a6m ?_ AO;unfold wY;by_cases c:(IX v sec).2.2=0;case neg=>have d1:=decide_eq_false c;simp only[SX,hse,d1,aB];refine⟨_,rfl,Le.refl _,?_⟩;unfold LW;rw[if_neg c];exact Row.nil
 obtain⟨F,C,e1,e2,e3⟩:=KZ c;have d0:decide ((0:Int)=0)=true:=rfl;have hfr:LW v l sec=RP l F C:=by unfold LW;rw[if_pos c,e1,e2,Int.toNat_natCast,Int.toNat_natCast]
 rw[e1,e2,c]at hse;rw[c,hfr];simp only[SX,hse,d0];refine bF C (by omega) (λi R U=>Le V U/\R 0=mV M/\R 6=.int .i64 (F:Int)/\R 7=.int .i64 (C:Int)/\R 10=.int .i64 ((F+i:Nat):Int)/\Lst V.next U 1 zN (R 9) (RP l F i))
  (λr=>r.1=.exit 0/\Le V r.2.2/\Lst V.next r.2.2 1 zN (r.2.1 9) (RP l F C)) ⟨Le.refl _,rfl,rfl,rfl,rfl,Lst.nil _ _ _ _⟩ ?_ ?_ ?_
 ·rintro i R U hi ⟨u1,r0,r6,r7,r10,u2⟩;unfold lH;have t0:=λW'=>aQ (P:=Tryz.prog) (W:=W') (t:=3) (c:=false) (d:=false) (a:=(F:Int)) (b:=(C:Int)) (by omega) (by omega)
  have t1:(((F+i:Nat):Int)<(F:Int)+(C:Int)):=by omega
  have t2:=λW'=>aQ (P:=Tryz.prog) (W:=W') (t:=3) (c:=false) (d:=true) (a:=((F+i:Nat):Int)) (b:=1) (by omega) (by omega)
  have e6:((F+(i+1):Nat):Int)=((F+i:Nat):Int)+1:=by omega
  obtain⟨b,o,a1,-,a3⟩:=sAt (h.le u1) (kV (l:=l) (j:=F+i) (by omega));have hfl:=X7 l F i;by_cases c2:(iK l (F+i)).st=0
  ·have d2:=decide_eq_true c2;have hb:cellsAt (U.add (.cells (zN ((F+i:Nat):Int)))) U.next=some (zN ((F+i:Nat):Int)):=dI;obtain⟨v',U',p1,p2,p3,p4⟩:=(u2.mono ((Le.refl U).add (.cells (zN ((F+i:Nat):Int))))).push (c:=1) aA6 EQ UT hb (by omega) (by omega) (by rw[AW.add_next];have:=u1.next;omega);simp only[SX,r0,r6,r7,r10,t0,t1,decide_true,a1,aD,Nat.zero_add,Nat.add_zero,a3,d2,aB1,p1,t2,aB];refine .inl ⟨trivial,p4 V (u1.add _) (Nat.le_refl _),r0,r6,r7,by rw[e6];rfl,?_⟩;rw[QF,if_pos c2];exact p2
  ·have d2:=decide_eq_false c2;simp only[SX,r0,r6,r7,r10,t0,t1,decide_true,a1,aD,Nat.zero_add,Nat.add_zero,a3,d2,t2,aB];refine .inl ⟨trivial,u1,r0,r6,r7,by rw[e6];rfl,?_⟩;rw[QF,if_neg c2,List.append_nil];exact u2
 ·rintro R U ⟨u1,r0,r6,r7,r10,u2⟩;unfold lH;have t0:=λW'=>aQ (P:=Tryz.prog) (W:=W') (t:=3) (c:=false) (d:=false) (a:=(F:Int)) (b:=(C:Int)) (by omega) (by omega)
  have t1:¬(((F+C:Nat):Int)<(F:Int)+(C:Int)):=by omega
  simp only[SX,r6,r7,r10,t0,t1,decide_false,aB];exact⟨by simp,trivial,u1,u2⟩
 ·rintro⟨q,R,U⟩ ⟨rfl,u1,u2⟩;simp only at u1 u2;simp only[SX,aB];exact⟨_,rfl,u1,u2.ints⟩
def OI(v:Ven)(l:List SeT)(sec t:Int):Int:=if(IX v sec).2.2=0 then(uN l (IX v sec).1.toNat (IX v sec).2.1.toNat t:Int)else 0
theorem Q3(h:MapX X K V M k many v W0 N l)(hv:v.secs.length<1000)(ht:(many:Int)=bR v.secs)(sec:Int):aL (.func (.func 32) #[] #[]) [mV M,.int .i64 sec] V=some (.tuple #[.int .i64 (OI v l sec 0),.int .i64 (OI v l sec 1),.int .i64 (OI v l sec 2),.int .i64 (IX v sec).2.2],V):=by
 have hse:=a1e h hv sec;have hmn:=h.mn;have hlen:=h.len;refine aN rfl ?_ zP;unfold uR;by_cases c:(IX v sec).2.2=0;case neg=>
  have d1:=decide_eq_false c;have e:∀t,OI v l sec t=0:=λt=>by unfold OI;rw[if_neg c]
  simp only[SX,hse,d1,NK,aB];exact⟨by rw[e,e,e],Le.refl _⟩
 obtain⟨F,C,e1,e2,e3⟩:=KZ c;have d0:decide ((0:Int)=0)=true:=rfl;have hco:∀t,OI v l sec t=(uN l F C t:Int):=λt=>by unfold OI;rw[if_pos c,e1,e2,Int.toNat_natCast,Int.toNat_natCast]
 rw[e1,e2,c]at hse;rw[c,hco,hco,hco];simp only[SX,hse,d0];refine bF C (by omega) (λi R U=>U=V/\R 0=mV M/\R 8=.int .i64 (F:Int)/\R 9=.int .i64 (C:Int)/\R 10=.int .i64 ((F+i:Nat):Int)/\R 4=.int .i64 (uN l F i 0:Int)/\R 5=.int .i64 (uN l F i 1:Int)/\R 6=.int .i64 (uN l F i 2:Int))
  (λr=>r.1=.exit 0/\r.2.2=V/\r.2.1 4=.int .i64 (uN l F C 0:Int)/\r.2.1 5=.int .i64 (uN l F C 1:Int)/\r.2.1 6=.int .i64 (uN l F C 2:Int)) ⟨rfl,rfl,rfl,rfl,rfl,rfl,rfl,rfl⟩ ?_ ?_ ?_
 ·rintro i R U hi ⟨rfl,r0,r8,r9,r10,r4,r5,r6⟩;unfold kJ;have t0:=λW'=>aQ (P:=Tryz.prog) (W:=W') (t:=3) (c:=false) (d:=false) (a:=(F:Int)) (b:=(C:Int)) (by omega) (by omega)
  have t1:(((F+i:Nat):Int)<(F:Int)+(C:Int)):=by omega
  have t2:=λW'=>aQ (P:=Tryz.prog) (W:=W') (t:=3) (c:=false) (d:=true) (a:=((F+i:Nat):Int)) (b:=1) (by omega) (by omega)
  have e6:((F+(i+1):Nat):Int)=((F+i:Nat):Int)+1:=by omega
  have t3:=λt W'=>aQ (P:=Tryz.prog) (W:=W') (t:=3) (c:=false) (d:=true) (a:=(uN l F i t:Int)) (b:=1) (by omega) (by have:=a5U l F i t;omega)
  have hx:=kV (l:=l) (j:=F+i) (by omega);obtain⟨b,o,a1,-,a3⟩:=sAt h hx;have hst:=a5w (h.ok (List.mem_of_getElem? hx));have q:∀t,uN l F (i+1) t=uN l F i t+if(iK l (F+i)).st=t then 1 else 0:=a1J l F i
  have qy:∀t,(iK l (F+i)).st=t->(uN l F (i+1) t:Int)=(uN l F i t:Int)+1:=λt ht=>by rw[q,if_pos ht];rfl
  have qn:∀t,(iK l (F+i)).st≠t->(uN l F (i+1) t:Int)=(uN l F i t:Int):=λt ht=>by rw[q,if_neg ht];rfl
  rcases hst with c2|c2|c2
  ·have d2:decide ((iK l (F+i)).st=0)=true:=decide_eq_true c2;simp only[SX,r0,r8,r9,r10,r4,t0,t1,decide_true,a1,aD,Nat.zero_add,Nat.add_zero,a3,d2,t2,t3,aB];exact .inl ⟨trivial,trivial,r0,r8,r9,by rw[e6];rfl,by rw[qy 0 c2];rfl,by rw[qn 1 (by omega)];exact r5,by rw[qn 2 (by omega)];exact r6⟩
  ·have d2:decide ((iK l (F+i)).st=0)=false:=decide_eq_false (by omega);have d3:decide ((iK l (F+i)).st=1)=true:=decide_eq_true c2;simp only[SX,r0,r8,r9,r10,r5,t0,t1,decide_true,a1,aD,Nat.zero_add,Nat.add_zero,a3,d2,d3,t2,t3,aB];exact .inl ⟨trivial,trivial,r0,r8,r9,by rw[e6];rfl,by rw[qn 0 (by omega)];exact r4,by rw[qy 1 c2];rfl,by rw[qn 2 (by omega)];exact r6⟩
  ·have d2:decide ((iK l (F+i)).st=0)=false:=decide_eq_false (by omega);have d3:decide ((iK l (F+i)).st=1)=false:=decide_eq_false (by omega);simp only[SX,r0,r8,r9,r10,r6,t0,t1,decide_true,a1,aD,Nat.zero_add,Nat.add_zero,a3,d2,d3,t2,t3,aB];exact .inl ⟨trivial,trivial,r0,r8,r9,by rw[e6];rfl,by rw[qn 0 (by omega)];exact r4,by rw[qn 1 (by omega)];exact r5,by rw[qy 2 c2];rfl⟩
 ·rintro R U ⟨rfl,r0,r8,r9,r10,r4,r5,r6⟩;unfold kJ;have t0:=λW'=>aQ (P:=Tryz.prog) (W:=W') (t:=3) (c:=false) (d:=false) (a:=(F:Int)) (b:=(C:Int)) (by omega) (by omega)
  have t1:¬(((F+C:Nat):Int)<(F:Int)+(C:Int)):=by omega
  simp only[SX,r8,r9,r10,t0,t1,decide_false,aB];exact⟨by simp,trivial,trivial,r4,r5,r6⟩
 ·rintro⟨q,R,U⟩ ⟨rfl,rfl,r4,r5,r6⟩;simp only at r4 r5 r6;simp only[SX,r4,r5,r6,NK,aB];exact⟨trivial,Le.refl _⟩
end
theorem a00{W:AW}{va vb:Value}{l m:List SeT}(ha:SeL W va l)(hb:SeL W vb m)(hl:l.length<=10000):aL (.func (.func 25) #[] #[]) [va,vb] W=some (.bool (decide (l=m)),W):=by
 refine aN rfl ?_ BI;unfold wH;simp only[SX,ha.len wO,hb.len wO];by_cases hlm:l.length=m.length;case neg=>
  have e1:¬((l.length:Int)=(m.length:Int)):=by omega
  have e2:¬l=m:=λh=>hlm (by rw[h])
  simp only[SX,e1,e2,decide_false,aB];exact⟨trivial,.refl _⟩
 have e1:((l.length:Int)=(m.length:Int)):=by omega
 simp only[SX,e1];refine bF l.length (by omega) (λk R W'=>W'=W/\R 0=va/\R 1=vb/\R 5=.int .i64 (k:Int)/\l.take k=m.take k)
  (λr=>(r.1=.exit 0/\r.2.2=W/\l=m)\/(r.1=.ret/\r.2.2=W/\r.2.1 4=.bool false/\¬l=m)) ⟨rfl,rfl,rfl,rfl,by simp⟩ ?_ ?_ ?_
 ·rintro k R W' hk ⟨rfl,r0,r1,r5,hE⟩;unfold lG;obtain⟨b,o,-,i1,i3,-⟩:=SeL.get ha (List.getElem?_eq_getElem hk);obtain⟨b',o',-,j1,j3,-⟩:=SeL.get hb (List.getElem?_eq_getElem (show k<m.length by omega));have t1:((k:Int)<(l.length:Int)):=by omega
  have t2:=λW'=>aQ (P:=Tryz.prog) (W:=W') (t:=3) (c:=false) (d:=true) (a:=(k:Int)) (b:=1) (by omega) (by omega)
  simp only[SX,r0,r1,r5,ha.len wO,t1,i1,i3 _ (Le.refl _),j1,j3 _ (Le.refl _),a7M];by_cases h:l[k]=m[k]
  ·have dh:=decide_eq_true h;simp only[SX,dh,t2,aB];refine .inl ⟨trivial,trivial,r0,r1,by rw[show((k+1:Nat):Int)=(k:Int)+1 by omega];rfl,?_⟩;rw[List.take_succ_eq_append_getElem hk,List.take_succ_eq_append_getElem (show k<m.length by omega),hE,h]
  ·have dh:=decide_eq_false h;simp only[SX,dh,aB];exact .inr ⟨by simp,.inr ⟨trivial,trivial,rfl,λe=>h (by subst e;rfl)⟩⟩
 ·rintro R W' ⟨rfl,r0,r1,r5,hE⟩;unfold lG;have t1:¬((l.length:Int)<(l.length:Int)):=by omega
  simp only[SX,r0,r1,r5,ha.len wO,t1,aB];refine⟨by simp,.inl ⟨trivial,trivial,?_⟩⟩;rwa [List.take_length,hlm,List.take_length]at hE
 ·rintro⟨x,R,W'⟩ hq;simp only at hq;rcases hq with⟨rfl,rfl,hq⟩|⟨rfl,rfl,r4,hq⟩
  ·have dh:=decide_eq_true hq;simp only[SX,dh,aB];exact⟨trivial,.refl _⟩
  ·have dh:=decide_eq_false hq;simp only[SX,r4,dh,aB];exact⟨trivial,.refl _⟩
abbrev aBF(v:Ven)(sv rv:Value):Value:=.agg #[.int .i64 v.sh,.int .i64 v.ttl,.int .i64 v.ses,sv,rv]
abbrev a6c(v:Ven)(sv rv:Value):List Value:=[.int .i64 v.sh,.int .i64 v.ttl,.int .i64 v.ses,sv,rv]
def Sl(v:Value):Prop:=Eng.one v=true/\XQ v v=true
structure RefA (W:AW) (v:Ven) (sv rv:Value) (l:List SeT):Prop where
 s1:Sl sv
 r1:Sl rv
 row:SeL W rv l
 secs:Secs W sv v.secs
 sh:1<=v.sh/\v.sh<=16
 lb:l.length<=4096
theorem RefA.mono{W W':AW}{v:Ven}{sv rv:Value}{l:List SeT}(h:RefA W v sv rv l)(hl:Le W W'):RefA W' v sv rv l:={h with row:=h.row.mono hl,secs:=h.secs.mono hl}
theorem RefA.with{W W':AW}{v:Ven}{sv rv rv':Value}{l l':List SeT}(h:RefA W v sv rv l)(hl:Le W W')(h1:Sl rv')(h2:SeL W' rv' l')(h3:l'.length<=4096):RefA W' v sv rv' l':=⟨h.s1,h1,h2,h.secs.mono hl,h.sh,h3⟩
section
variable {W:AW} {v:Ven} {sv rv:Value} {l:List SeT}
end
section
variable {α:Type} {z:Nat} {f:α->List Value} {at_:List Value->Nat->α->Prop} {W:AW} {v u:Value} {l m:List α}
def LB(lo:Nat)(W:AW)(z:Nat)(f:α->List Value)(v:Value)(l:List α):Prop:=Lst lo W z f v l\/(l=[]/\∃B,B<W.next/\v=.slice (some ⟨B,0,none⟩) 0 0)
theorem LB.mono{lo:Nat}{W':AW}(h:LB lo W z f v l)(hl:Le W W'):LB lo W' z f v l:=by
 rcases h with h|⟨h0,B,h1,h2⟩
 ·exact .inl (h.mono hl)
 ·exact .inr ⟨h0,B,Nat.lt_of_lt_of_le h1 hl.next,h2⟩
theorem LB.cat{ts:Array TypeId}{bytes lo:Nat}(hk:mD Tryz.prog ts z bytes=true)(hf:∀a,(f a).length=z)(h1:∀a,(f a).all Eng.one=true)(h:LB lo W z f v l)(hr:Row W z at_ u m)(hat:∀cs p a,at_ cs p a->(cs.drop p).take z=f a)
 (hb:l.length+m.length<1099511627776)(hb2:(2*(l.length+m.length)+192)*bytes<=281474976710656)(hlo:lo<=W.next):
 ∃v' W',bJ Tryz.prog W ts v u=some (v',W')/\LB lo W' z f v' (l++m)/\(l++m≠[]->Lst lo W' z f v' (l++m))/\W.next<=W'.next/\∀A,Le A W->A.next<=lo->Le A W':=by
 rcases h with h|⟨rfl,B,h2,rfl⟩
 ·obtain⟨v',W',k1,k2,k3,k4⟩:=Lst.cat hk hf h1 h hr hat hb hb2 hlo;exact⟨v',W',k1,.inl k2,λ_=>k2,k3,k4⟩
 ·obtain⟨a,c,rfl,hr⟩:=hr;by_cases hm:m=[]
  ·subst hm;exact⟨_,W,yE hk (Nat.le_refl 0) (by omega) (by simpa using hb2),.inr ⟨rfl,B,h2,rfl⟩,λx=>absurd rfl x,Nat.le_refl _,λA hA _=>hA⟩
  ·rcases hr with hr|⟨C,o,cs,rfl,h3,h4,h5⟩
   ·exact absurd hr hm
   ·have e:m.flatMap f=(cs.drop o).take (m.length*z):=(DX hf m cs o λi hi=>hat _ _ _ (h5 i hi)).symm;have hall:(m.flatMap f).all Eng.one=true:=by rw[List.all_flatMap,List.all_eq_true];exactλa _=>h1 a
    have hL:Lst lo (W.add (.cells (m.flatMap f))) z f (.slice (some ⟨W.next,0,none⟩) m.length (bS+z)) m:=.inr ⟨hm,W.next,hlo,by rw[AW.add_next];omega,rfl,AW.get_add _ _⟩;exact⟨_,_,EG hk h4 e (aR hf m) (List.length_pos_iff.2 hm) hall (by simpa using hb) (by simpa using hb2),.inl hL,λ_=>hL,by rw[AW.add_next];omega,λA hA _=>hA.add _⟩
end
theorem Lst.from{lo:Nat}{W:AW}{v:Value}{l:List (Int×Int)}(h:Lst lo W 2 sV v l){n:Nat}(hn:n<=l.length)(k:IntKind):∃u,(∀W',bM Tryz.prog 32 v (some (.int k (n:Int))) none none W'=some (u,W'))/\HoL W u (l.drop n):=by
 rcases h with⟨rfl,rfl⟩|⟨h0,B,h1,h2,rfl,h3⟩
 ·obtain rfl:n=0:=by simpa using hn
  obtain⟨e,he,hz⟩:=gL a9A;exact⟨.slice none 0 0,λW'=>by unfold bM iD;simp[he,hz,dE,iN],Row.nil⟩
 ·refine⟨_,λW'=>M3 hn W',?_⟩;refine⟨_,_,by rw[List.length_drop],?_⟩;by_cases he:l.drop n=[]
  ·exact .inl he
  ·refine .inr ⟨B,n*2,_,rfl,h2,bC h3,λi hi=>?_⟩;rw[List.length_drop]at hi;obtain⟨e1,e2⟩:=eP qY (List.getElem?_eq_getElem (show n+i<l.length by omega));rw[e1,show n*2+i*2=(n+i)*2 by omega,<-e2,List.getElem_drop];exact a0A _ _ _
section
variable {W:AW} {v:Ven} {sv rv:Value} {l:List SeT} {k:Nat}
end
def aDk(k:Nat)(i:Int)(j:Nat):Bool:= !decide (0<=i)||decide (((j % k:Nat):Int)=i)
theorem LB.row{lo:Nat}{W:AW}{v:Value}{l:List (Int×Int)}(h:LB lo W 2 sV v l):HoL W v l:=by
 rcases h with h|⟨rfl,B,h1,rfl⟩
 ·exact h.row qY a0A
 ·exact⟨_,0,rfl,.inl rfl⟩
theorem Lst.low{α:Type}{lo lo' z:Nat}{W:AW}{f:α->List Value}{v:Value}{l:List α}(h:Lst lo W z f v l)(hl:lo'<=lo):Lst lo' W z f v l:=by
 rcases h with h|⟨h0,B,h1,h2⟩
 ·exact .inl h
 ·exact .inr ⟨h0,B,Nat.le_trans hl h1,h2⟩
theorem Lst.new{lo:Nat}{W:AW}{v:Value}{l:List (Int×Int)}(h:Lst lo W 2 sV v l):NewL lo W v l:=by
 rcases h with⟨rfl,rfl⟩|⟨h0,B,h1,h2,rfl,h3⟩
 ·exact NewL.nil _ _
 ·exact⟨_,_,rfl,.inr ⟨B,[],rfl,h1,h2,by rw[List.append_nil];exact h3⟩⟩
theorem NewL.low{lo lo':Nat}{W:AW}{u:Value}{l:List (Int×Int)}(h:NewL lo W u l)(hl:lo'<=lo):NewL lo' W u l:=by
 obtain⟨a,c,rfl,hr⟩:=h;rcases hr with hr|⟨B,rest,h0,h1,h2,h3⟩
 ·exact⟨a,c,rfl,.inl hr⟩
 ·exact⟨a,c,rfl,.inr ⟨B,rest,h0,Nat.le_trans hl h1,h2,h3⟩⟩
section
variable {W:AW} {v:Ven} {sv rv:Value} {l:List SeT} {k:Nat}
end
theorem a4q{h a b:List (Int×Int)}{now:Int}(ha:nW h now a)(hb:nW h now b):a=b:=a4f (ha.2.trans hb.2.symm) ha.1 hb.1
def a6E(l:List SeT):Prop:=∀x,x∈l->x.dl<=9223372036854775807
section
variable {W:AW} {v:Ven} {sv rv:Value} {l:List SeT} {k:Nat}
end
def BlS(lo:Nat)(W:AW)(u:Value)(l:List SeT):Prop:=∃B c,lo<=B/\B<W.next/\u=.slice (some ⟨B,0,none⟩) l.length c/\(l≠[]->W.get B=some (.cells (l.flatMap eZ)))
theorem BlS.row{lo:Nat}{W:AW}{u:Value}{l:List SeT}(h:BlS lo W u l):SeL W u l:=OwnL.row (lo:=lo) gV h SE
theorem BlS.sl{lo:Nat}{W:AW}{u:Value}{l:List SeT}(h:BlS lo W u l):Sl u:=by obtain⟨B,c,h0,h1,rfl,h2⟩:=h;exact⟨rfl,zI _ _ _ _⟩
theorem BlS.keep{lo:Nat}{W W':AW}{u:Value}{l:List SeT}(h:BlS lo W u l)(hn:W.next<=W'.next)(hg:∀b,lo<=b->b<W.next->W'.get b=W.get b):BlS lo W' u l:=by obtain⟨B,c,h0,h1,rfl,h2⟩:=h;exact⟨B,c,h0,by omega,rfl,λhl=>(hg B h0 h1).trans (h2 hl)⟩
theorem BlS.put{lo:Nat}{W:AW}{u:Value}{l:List SeT}(h:BlS lo W u l){s:Nat}{x:SeT}(hs:l[s]? =some x):∃b o,lo<=b/\b<W.next/\(∀U q,jI 5 u (.int q (s:Int)) U=some (.pointer (some ⟨b,o,none⟩),U))/\(∀U,U.get b=W.get b->eU 5 (.pointer (some ⟨b,o,none⟩)) U=some (pU x,U))/\
 ∀y U,U.get b=W.get b->W.next<=U.next->fZ 5 (.pointer (some ⟨b,o,none⟩)) (pU y) U=some (undef,U.put b (.cells ((l.set s y).flatMap eZ)))/\BlS lo (U.put b (.cells ((l.set s y).flatMap eZ))) u (l.set s y):=by
 obtain⟨B,c,h0,h1,rfl,h2⟩:=h;obtain⟨hi,-⟩:=List.getElem?_eq_some_iff.1 hs;have hne:l≠[]:=λe=>by rw[e]at hi;simp at hi
 have hg:=h2 hne;refine⟨B,s*5,h0,h1,λU q=>?_,λU hU=>?_,λy U hU hn=>⟨?_,B,c,h0,by rw[AW.put_next];omega,by rw[List.length_set],λ_=>AW.get_put _ _ _⟩⟩
 ·have:=nC (W:=U) (z:=5) (b:=B) (o:=0) (l:=l.length) (c:=c) (i:=s) (k:=q) hi;rwa [Nat.zero_add]at this
 ·rw[AP,bC (hU.trans hg)];simp only[Option.bind_some,QU gV hs,gV,if_true]
 ·have hst:=xY (n:=5) (b:=B) (o:=s*5) (v:=pU y) (hU.trans hg) rfl (by show s*5+5<=_;rw[aR gV];omega) rfl;have e5:iX (l.flatMap eZ) (s*5) (pU y).cells.toList=(l.set s y).flatMap eZ:=BX gV hs y;rw[hst,e5]
section
variable {W:AW} {v:Ven} {sv rv:Value} {l:List SeT} {k:Nat}
end
section
variable {W:AW} {v:Ven} {sv rv:Value} {l:List SeT} {k:Nat}
end
def YU(l:List SeT):Bool:=l.any λx=> !decide (x9 x=0)
theorem a6C{l:List SeT}(h:YU l=false){x:SeT}(hx:x∈l):x9 x=0:=by unfold YU at h;rw[List.any_eq_false]at h;have:=h x hx;simpa using this
def gJ(v:Ven)(l:List SeT):Int:=if(jC v).2≠0 then(jC v).2 else if(l.length:Int)≠(jC v).1 then 6 else if YU l=true then 6 else 0
theorem WI{v:Ven}{l:List SeT}(h:gJ v l=0):(j6 v).2=0/\(l.length:Int)=bR v.secs/\(∀x,x∈l->x9 x=0)/\l.length<=4096/\1<=v.sh/\v.sh<=16:=by
 unfold gJ at h;split at h
 ·exact absurd h (by assumption)
 ·rename_i h1;split at h
  ·omega
  ·rename_i h2;split at h
   ·omega
   ·rename_i h3;have hv:(j6 v).2=0:=by apply Classical.byContradiction;intro c;apply h1;unfold jC;rw[if_neg c];exact c
    have e1:(jC v).1=bR v.secs:=by unfold jC;rw[if_pos hv]
    obtain⟨-,g2,-,-,g5,-⟩:=oH hv;rw[e1]at h2;have h4:=Classical.not_not.1 h2;refine⟨hv,h4,λx hx=>a6C (by simpa using h3) hx,by omega,?_⟩;unfold qZ at g2;simp only[Bool.or_eq_false_iff]at g2;have:=g2.1.1;unfold qG at this;simp at this;omega
theorem a4K{W:AW}{v fv:Value}{l:List SeT}{p:SeT->Bool}(h:SeL W v l)(hp:∀x,x∈l->aL fv [pU x] W=some (.bool (p x),W))(hl:l.length<=10000):aL (.func (.func 131) #[] #[]) [v,fv] W=some (.int .i64 (oI p l),W):=by
 refine aN rfl ?_ jJ;unfold eX;simp only[SX,h.len wO];refine bF l.length (by omega) (λi R V=>V=W/\R 0=v/\R 1=fv/\R 7=.int .i64 (l.length:Int)/\R 8=.int .i64 (i:Int)/\∀j (hj:j<i) (hj2:j<l.length),p l[j]=false)
  (λr=>r.2.2=W/\((r.1=.exit 0/\oI p l= -1)\/(r.1=.ret/\r.2.1 4=.int .i64 (oI p l)))) ⟨rfl,rfl,rfl,rfl,rfl,λj hj=>by omega⟩ ?_ ?_ ?_
 ·rintro i R V hi ⟨rfl,r0,r1,r7,r8,ha⟩;unfold bX;have t1:((i:Int)<(l.length:Int)):=by omega
  have t2:=λW'=>aQ (P:=Tryz.prog) (W:=W') (t:=3) (c:=false) (d:=true) (a:=(i:Int)) (b:=1) (by omega) (by omega)
  have e3:((i+1:Nat):Int)=(i:Int)+1:=by omega
  obtain⟨b,o,-,i1,i3,-⟩:=SeL.get h (List.getElem?_eq_getElem hi);cases hc:p l[i]with
  |true=>simp only[SX,r0,r1,r7,r8,t1,decide_true,i1,i3 _ (Le.refl _),hp _ (List.getElem_mem hi),hc,aB];exact .inr ⟨by simp,trivial,.inr ⟨trivial,by rw[WY hi hc λj hj=>ha j hj (by omega)];rfl⟩⟩
  |false=>
   simp only[SX,r0,r1,r7,r8,t1,decide_true,i1,i3 _ (Le.refl _),hp _ (List.getElem_mem hi),hc,t2,aB];refine .inl ⟨trivial,trivial,r0,r1,r7,by rw[e3];rfl,λj hj hj2=>?_⟩;by_cases c:j=i
   ·subst c;exact hc
   ·exact ha j (by omega) hj2
 ·rintro R V ⟨rfl,r0,r1,r7,r8,ha⟩;unfold bX;have t1:¬((l.length:Int)<(l.length:Int)):=by omega
  simp only[SX,r7,r8,t1,decide_false,aB];refine⟨by simp,trivial,.inl ⟨trivial,KL λx hx=>?_⟩⟩;obtain⟨j,hj,rfl⟩:=List.mem_iff_getElem.1 hx;exact ha j hj hj
 ·rintro⟨q,R,V⟩ ⟨rfl,hq⟩;simp only at hq;rcases hq with⟨rfl,e⟩|⟨rfl,r4⟩
  ·simp only[SX,aB];exact⟨by rw[e],Le.refl _⟩
  ·simp only[SX,r4,aB];exact⟨trivial,Le.refl _⟩
theorem a5o(x:SeT)(W:AW):aL (.func (.func 69) #[] #[]) [pU x] W=some (.bool (!decide (x9 x=0)),W):=by refine aN rfl ?_ GX;unfold zW;have hg:(W.add (.cells (eZ x))).get W.next=some (.cells (eZ x)):=AW.get_add _ _;have hle:Le W (W.add (.cells (eZ x))):=(Le.refl _).add _;simp only[SX,I1,Nat.zero_add];generalize W.add (.cells (eZ x))=W1 at *;simp only[SX,cB hg,iP,aB];exact⟨trivial,hle⟩
theorem XG{W:AW}{v:Value}{l:List SeT}(h:SeL W v l)(hl:l.length<=10000):aL (.func (.func 68) #[] #[]) [v,.func (.func 69) #[] #[]] W=some (.bool (YU l),W):=by
 refine aN rfl ?_ iR;unfold dW;have hi:=a4K (p:=λx=> !decide (x9 x=0)) h (λx _=>a5o x W) hl;simp only[SX,hi,aB];refine⟨?_,Le.refl _⟩;congr 1;unfold YU;rcases Q6 (λx:SeT=> !decide (x9 x=0)) l with⟨h1,h2⟩|⟨i,hi,h2,h3,-⟩
 ·rw[h2,List.any_eq_false.2 λx hx=>by rw[h1 x hx];decide];decide
 ·rw[h2,List.any_eq_true.2 ⟨_,List.getElem_mem hi,h3⟩];exact decide_eq_true (by omega)
section
variable {W:AW} {v:Ven} {sv rv:Value} {l:List SeT}
theorem TI(v:Ven)(sv:Value)(W:AW):∃W1,dK (sI v sv) W=some (.pointer (some ⟨W.next,0,none⟩),W1)/\Le W W1/\W1.next=W.next+1/\W1.get W.next=some (.cells [.int .i64 v.sh,.int .i64 v.ttl,.int .i64 v.ses,sv]):=⟨_,fU _,(Le.refl _).add _,AW.add_next _ _,AW.get_add _ _⟩
theorem mM{v:Ven}{sv:Value}{W:AW}{b:Nat}(h:W.get b=some (.cells [.int .i64 v.sh,.int .i64 v.ttl,.int .i64 v.ses,sv])):eU 4 (.pointer (some ⟨b,0,none⟩)) W=some (sI v sv,W):=zA (bC h) rfl
abbrev aCK:Value:=aBF ⟨0,0,0,[]⟩ (.slice none 0 0) (.slice none 0 0)
end
theorem u69:Tryz.prog.underlying 69=some (.slice 3):=by kernel_rfl
theorem aBK(c d:Bool)(l k:Nat)(W:AW):aH Tryz.prog .eql 69 c d (.slice none l k) (.slice none 0 0) W=some (.bool true,W):=by unfold aH lY jY;simp only[u69];rfl
theorem aBG(c d:Bool)(a:Addr)(l k:Nat)(W:AW):aH Tryz.prog .eql 69 c d (.slice (some a) l k) (.slice none 0 0) W=some (.bool false,W):=by unfold aH lY jY;simp only[u69]
theorem aAt(W:AW):aV Tryz.prog 69 0 [] W=some (.slice (some ⟨W.next,0,none⟩) 0 0,W.add (.cells [])):=Eq.trans (by kernel_rfl) rfl
theorem aB4{cs:List Value}{p:Nat}{x:Int}(h:H9 .i64 cs p x):(cs.drop p).take 1=zN x:=by obtain⟨i0,e0⟩:=List.getElem?_eq_some_iff.1 h;rw[List.drop_eq_getElem_cons i0,e0];rfl
def FI(lo:Nat)(W:AW)(u:Value)(l:List Int):Prop:=∃a c,u=.slice a l.length c/\(l=[]\/∃B,a=some ⟨B,0,none⟩/\lo<=B/\B<W.next/\W.get B=some (.cells (l.flatMap zN)))
theorem FI.ints{lo:Nat}{W:AW}{u:Value}{l:List Int}(h:FI lo W u l):Ints W u l:=by
 obtain⟨a,c,rfl,hr⟩:=h;rcases hr with hr|⟨B,rfl,h1,h2,h3⟩
 ·exact⟨a,c,rfl,.inl hr⟩
 ·exact OwnL.row (lo:=0) EQ ⟨B,c,Nat.zero_le _,h2,rfl,λ_=>h3⟩ a0N
theorem FI.keep{lo:Nat}{W W':AW}{u:Value}{l:List Int}(h:FI lo W u l)(hn:W.next<=W'.next)(hg:∀b,lo<=b->b<W.next->W'.get b=W.get b):FI lo W' u l:=by
 obtain⟨a,c,rfl,hr⟩:=h;rcases hr with hr|⟨B,e,h1,h2,h3⟩
 ·exact⟨a,c,rfl,.inl hr⟩
 ·exact⟨a,c,rfl,.inr ⟨B,e,h1,by omega,(hg B h1 h2).trans h3⟩⟩
theorem FI.one{lo:Nat}{W:AW}{u:Value}{l:List Int}(h:FI lo W u l):u.cells=#[u]/\Eng.one u=true:=by obtain⟨a,c,rfl,-⟩:=h;exact⟨rfl,rfl⟩
theorem a7L{o t:Option (Value×AW)}{W:AW}{lo:Nat}{l:List Int}(h:Ok t λr=>Le W r.2/\FI lo r.2 r.1 l)(hom:∀{r},t=some r->o=some (gc W r)):∃v W2,o=some (v,W2)/\Le W W2/\FI lo W2 v l:=by
 obtain⟨⟨v,W'⟩,h1,h2,h3⟩:=h;cases hp:(aX v&& !isU v)
 ·exact⟨v,W',by rw[hom h1,dV hp],h2,h3⟩
 ·refine⟨v,W,by rw[hom h1,rV hp h2],.refl _,?_⟩;obtain⟨a,c,rfl,hr⟩:=h3;rcases hr with hr|⟨B,rfl,-⟩
  ·exact⟨a,c,rfl,.inl hr⟩
  ·exact absurd hp (by simp[aX,jA,bW])
theorem VA{W:AW}{v:Value}{l:List Int}(h:Ints W v l)(hn:l.length<=10000):∃u W',aL (.func (.func 72) #[] #[]) [v] W=some (u,W')/\Le W W'/\FI W.next W' u l:=by
 have hh:=h;obtain⟨a,c,rfl,h⟩:=h;cases a with
 |none=>
  have main:Ok (fK aL (.slice none l.length c) W) λr=>Le W r.2/\FI W.next r.2 r.1 l:=by
   unfold fK;simp only[SX,aBK,aB];rcases h with h|⟨b,o,cs,h1,-⟩
   ·exact⟨Le.refl _,none,0,by rw[h];rfl,.inl h⟩
   ·cases h1
  exact a7L main nT
 |some a=>
  have main:Ok (fK aL (.slice (some a) l.length c) W) λr=>Le W r.2/\FI W.next r.2 r.1 l:=by
   unfold fK;have l1:Le W (W.add (.cells [])):=(Le.refl _).add _;have n1:(W.add (.cells [])).next=W.next+1:=AW.add_next _ _;simp only[SX,aBG,aAt];generalize W.add (.cells [])=W1 at *;obtain⟨u,W',k1,k2,B,c',k3,k4,rfl,k5⟩:=a3H aA6 EQ UT (hh.mono l1) (λ_ _ _=>aB4) (by omega) (by omega) (b:=W.next) (by omega);simp only[SX,k1,aB];refine⟨l1.trans k2,_,_,rfl,?_⟩;by_cases he:l=[]
   ·exact .inl he
   ·exact .inr ⟨B,rfl,k3,k4,k5 he⟩
  exact a7L main nT
def zL(l:List Sec)(i:Nat):Sec:=l.getD i ⟨[],[],0⟩
theorem CL{l:List Sec}{i:Nat}(h:i<l.length):zL l i=l[i]:=by unfold zL;rw[List.getD_eq_getElem?_getD,List.getElem?_eq_getElem h];rfl
def tQ(l:List Sec)(g:Nat->Value)(i:Nat):List Value:=[.string (aM (zL l i).name),g i,.int .i64 (zL l i).q]
theorem nN(l:List Sec)(g:Nat->Value)(i:Nat):(tQ l g i).length=3:=rfl
def a9I(l:List Sec)(g:Nat->Value)(cs:List Value)(p i:Nat):Prop:=(cs.drop p).take 3=tQ l g i
theorem a2w{W:AW}{sv:Value}{l:List Sec}(h:Secs W sv l):∃g:Nat->Value,(∀i,Eng.one (g i)=true)/\(∀i,i<l.length->Ints W (g i) (zL l i).rows)/\Row W 3 (a9I l g) sv (List.range l.length):=by
 obtain⟨a,c,rfl,h⟩:=h;have ex:∀i,∃rv:Value,Eng.one rv=true/\(i<l.length->Ints W rv (zL l i).rows/\∀b o cs,a=some ⟨b,o,none⟩->cellsAt W b=some cs->(l=[]\/∀i (h:i<l.length),a0P W cs (o+i*3) l[i])->(cs.drop (o+i*3)).take 3=[.string (aM (zL l i).name),rv,.int .i64 (zL l i).q]):=λi=>by
  by_cases hi:i<l.length
  ·rcases h with h|⟨b,o,cs,rfl,h2,h3,h4⟩
   ·rw[h]at hi;simp at hi
   ·obtain⟨s1,s2,rv,s3,s4⟩:=h4 i hi;rw[<-CL hi]at s1 s2 s4;refine⟨rv,?_,λ_=>⟨s4,λb' o' cs' e1 e2 _=>?_⟩⟩
    ·obtain⟨a',c',rfl,-⟩:=s4;exact a2N _ _ _
    ·injection e1 with e1;injection e1 with e1 e3;subst e1 e3;rw[h3]at e2;injection e2 with e2;subst e2;exact a4R s1 s3 s2
  ·exact⟨.slice none 0 0,rfl,λx=>absurd x hi⟩
 refine⟨λi=>Classical.choose (ex i),λi=>(Classical.choose_spec (ex i)).1,λi hi=>((Classical.choose_spec (ex i)).2 hi).1,?_⟩;rcases h with h|⟨b,o,cs,rfl,h2,h3,h4⟩
 ·exact⟨a,c,by rw[List.length_range],.inl (by rw[h];rfl)⟩
 ·refine⟨_,c,by rw[List.length_range],.inr ⟨b,o,cs,rfl,h2,h3,λi hi=>?_⟩⟩;rw[List.length_range]at hi;rw[List.getElem_range];exact((Classical.choose_spec (ex i)).2 hi).2 b o cs rfl h3 (.inr h4)
theorem aCp:mD Tryz.prog #[22,22] 3 48=true:=by kernel_rfl
theorem u22:Tryz.prog.underlying 22=some (.slice 130):=by kernel_rfl
theorem aCu(c d:Bool)(a:Addr)(l k:Nat)(W:AW):aH Tryz.prog .eql 22 c d (.slice (some a) l k) (.slice none 0 0) W=some (.bool false,W):=by unfold aH lY jY;simp only[u22]
theorem a97(W:AW):aV Tryz.prog 22 0 [] W=some (.slice (some ⟨W.next,0,none⟩) 0 0,W.add (.cells [])):=Eq.trans (by kernel_rfl) rfl
theorem UV{Wb W:AW}{sv:Value}{l:List Sec}(h:SecsC Wb sv l)(hle:Le Wb W)(h0:l≠[])(hn:l.length<=10000):∃B W',∃g:Nat->Value,aL (.func (.func 71) #[] #[]) [sv] W=some (.slice (some ⟨B,0,none⟩) l.length (bS+3),W')/\Le W W'/\W.next<=B/\B<W'.next/\W'.get B=some (.cells ((List.range l.length).flatMap (tQ l g)))/\(∀i,Eng.one (g i)=true)/\∀i,i<l.length->Ints Wb (g i) (zL l i).rows:=by
 obtain⟨g,g1,g2,g3'⟩:=a2w h.1;have g3:=g3'.mono hle;obtain⟨-,a,c,rfl,-,h4⟩:=h;obtain⟨b,o,rfl⟩:=h4 h0;have main:Ok (cK aL (.slice (some ⟨b,o,none⟩) l.length c) W) λr=>∃B,r.1=.slice (some ⟨B,0,none⟩) l.length (bS+3)/\Le W r.2/\W.next<=B/\B<r.2.next/\r.2.get B=some (.cells ((List.range l.length).flatMap (tQ l g))):=by
  unfold cK;have l1:Le W (W.add (.cells [])):=(Le.refl _).add _;have n1:(W.add (.cells [])).next=W.next+1:=AW.add_next _ _;simp only[SX,aCu,a97];generalize W.add (.cells [])=W1 at *;obtain⟨a',c',e1,hr⟩:=g3;rw[List.length_range]at e1;injection e1 with e1 e2 e3;subst e1 e3;rcases hr with hr|⟨b',o',cs,e4,q1,q2,q3⟩
  ·rw[List.range_eq_nil]at hr;exact absurd (List.length_eq_zero_iff.1 hr) h0
  injection e4 with e4;injection e4 with e4 e5;subst e4 e5;have e:(List.range l.length).flatMap (tQ l g)=(cs.drop o).take (l.length*3):=by
   have:=DX (nN l g) (List.range l.length) cs o λi hi=>q3 i hi
   rw[List.length_range]at this;exact this.symm
  have hall:((List.range l.length).flatMap (tQ l g)).all Eng.one=true:=by rw[List.all_flatMap,List.all_eq_true];intro i _;unfold tQ;simp only[List.all_cons,List.all_nil,BF,tJ,g1,Bool.and_self]
  have hap:=EG (P:=Tryz.prog) (W:=W1) (ts:=#[22,22]) aCp (b:=b) (o:=o) (n:=l.length) (c:=c) (new:=(List.range l.length).flatMap (tQ l g)) (by rw[l1.cellsAt q1];exact q2) e (by rw[aR (nN l g),List.length_range]) (List.length_pos_iff.2 h0) hall (a:=⟨W.next,0,none⟩) (by omega) (by omega);simp only[SX,hap,aB];exact⟨_,rfl,l1.add _,by omega,by rw[AW.add_next];omega,AW.get_add _ _⟩
 obtain⟨⟨r,W'⟩,h1,B,h2,h3,h5,h6,h7⟩:=main;simp only at h2 h3 h6 h7;subst h2;exact⟨B,W',g,by rw[iZ h1,dV rfl],h3,h5,h6,h7,g1,g2⟩
theorem a3r{l:List Sec}{g:Nat->Value}{n i:Nat}(hi:i<n)(u:Value):((List.range n).flatMap (tQ l g)).set (i*3+1) u=(List.range n).flatMap (tQ l λj=>if j=i then u else g j):=by
 have hr:(List.range n)[i]? =some i:=List.getElem?_range hi;obtain⟨e1,e2⟩:=eP (nN l g) hr;obtain⟨e3,-⟩:=eP (nN l λj=>if j=i then u else g j) hr;have t1:∀xs:List Nat,(∀j∈xs,j≠i)->xs.flatMap (tQ l λj=>if j=i then u else g j)=xs.flatMap (tQ l g):=λxs hx=>by
  rw[List.flatMap_def,List.flatMap_def];congr 1;refine List.map_congr_left λj hj=>?_
  unfold tQ;simp only[hx j hj,if_false]
 have h1:∀j∈(List.range n).take i,j≠i:=λj hj e=>by obtain⟨k,hk,rfl⟩:=List.mem_iff_getElem.1 hj;rw[List.length_take,List.length_range]at hk;rw[List.getElem_take,List.getElem_range]at e;omega
 have h2:∀j∈(List.range n).drop (i+1),j≠i:=λj hj e=>by obtain⟨k,hk,rfl⟩:=List.mem_iff_getElem.1 hj;rw[List.getElem_drop,List.getElem_range]at e;omega
 rw[e3,t1 _ h1,t1 _ h2,e1,List.set_append_right _ _ (by rw[e2];omega),e2,Nat.add_sub_cancel_left];unfold tQ;simp
theorem a3T{l:List Sec}{g:Nat->Value}{n i:Nat}(hi:i<n):((List.range n).flatMap (tQ l g))[i*3+1]? =some (g i):=oG (o:=1) (nN l g) (List.getElem?_range hi) (by omega)
theorem a5A{W:AW}{B:Nat}{l:List Sec}{g:Nat->Value}(hB:W.get B=some (.cells ((List.range l.length).flatMap (tQ l g))))(hl:B<W.next)(hg:∀i,i<l.length->Ints W (g i) (zL l i).rows):SecsC W (.slice (some ⟨B,0,none⟩) l.length (bS+3)) l:=by
 refine⟨⟨_,_,rfl,.inr ⟨B,0,_,rfl,hl,bC hB,λi hi=>?_⟩⟩,_,_,rfl,.inr rfl,λ_=>⟨B,0,rfl⟩⟩;have hr:(List.range l.length)[i]? =some i:=List.getElem?_range hi;rw[Nat.zero_add];refine⟨?_,?_,g i,oG (o:=1) (nN l g) hr (by omega),?_⟩
 ·rw[<-CL hi];exact oG (o:=0) (nN l g) hr (by omega)
 ·rw[<-CL hi];exact oG (o:=2) (nN l g) hr (by omega)
 ·rw[<-CL hi];exact hg i hi
theorem a6p{k j:Nat}(H:Nat->Nat)(tv:Nat->Value)(hj:j<k)(u:Value):(shC k H tv).set (j*2+1) u=shC k H λi=>if i=j then u else tv i:=by
 have hr:(List.range k)[j]? =some j:=List.getElem?_range hj;obtain⟨e1,e2⟩:=eP (CK H tv) hr;obtain⟨e3,-⟩:=eP (CK H λi=>if i=j then u else tv i) hr;have t1:∀xs:List Nat,(∀i∈xs,i≠j)->xs.flatMap (shE H λi=>if i=j then u else tv i)=xs.flatMap (shE H tv):=λxs hx=>by
  rw[List.flatMap_def,List.flatMap_def];congr 1;refine List.map_congr_left λi hi=>?_
  unfold shE;simp only[hx i hi,if_false]
 have h1:∀i∈(List.range k).take j,i≠j:=λi hi e=>by obtain⟨m,hm,rfl⟩:=List.mem_iff_getElem.1 hi;rw[List.length_take,List.length_range]at hm;rw[List.getElem_take,List.getElem_range]at e;omega
 have h2:∀i∈(List.range k).drop (j+1),i≠j:=λi hi e=>by obtain⟨m,hm,rfl⟩:=List.mem_iff_getElem.1 hi;rw[List.getElem_drop,List.getElem_range]at e;omega
 unfold shC;rw[e3,t1 _ h1,t1 _ h2,e1,List.set_append_right _ _ (by rw[e2];omega),e2,Nat.add_sub_cancel_left];unfold shE;simp
theorem SlS.push{W:AW}{T:Nat}{v:Value}{xs:List SeT}(h:SlS W T v xs){x:SeT}{b c:Nat}(hc:cellsAt W b=some (eZ x))(hb:xs.length<=10000):
 ∃v' W',bJ Tryz.prog W #[25,25] v (.slice (some ⟨b,0,none⟩) 1 c)=some (v',W')/\SlS W' W.next v' (xs++[x])/\W'.next=W.next+1/\(∀b,b<W.next->(xs≠[]->b≠T)->W'.get b=W.get b)/\v'.cells=#[v']/\Eng.one v'=true:=by
 have hn:eZ x=((eZ x).drop 0).take (1*5):=rfl;rcases h with⟨rfl,rfl⟩|⟨h0,h1,rfl,h3⟩
 ·refine⟨_,_,CE (b:=b) (o:=0) (c:=c) aBg hc hn rfl (by omega) (a06 x) (by omega) (by omega),.inr ⟨by simp,by rw[AW.add_next];omega,by simp,by rw[AW.get_add];simp⟩,AW.add_next _ _,λb hb _=>AW.get_add_ne _ _ (by omega),rfl,rfl⟩
 ·have hpos:0<xs.length:=List.length_pos_iff.2 h0;refine⟨_,_,SV (b:=b) (o:=0) (c:=c) aBg hc hn rfl (by omega) (a06 x) h3 (aR gV xs) (by omega) (by omega) hpos,.inr ⟨by simp,by rw[AW.add_next,AW.kill_next];omega,by simp[AW.kill_next],?_⟩,by rw[AW.add_next,AW.kill_next],λb hb hT=>?_,rfl,rfl⟩
  ·have:=(W.kill T).get_add (.cells (xs.flatMap eZ++eZ x));rw[AW.kill_next]at this;rw[this,List.flatMap_append];simp
  ·rw[AW.get_add_ne _ _ (by rw[AW.kill_next];omega),AW.get_kill_ne _ (λe=>hT h0 e.symm)]
def Md.push(d:Md)(j T:Nat)(u:Value):Md:={d with T:=λi=>if i=j then T else d.T i,tv:=λi=>if i=j then u else d.tv i}
section
variable {X K:Nat->Prop} {V:AW} {d:Md} {l:List SeT} {e:Nat->List (Int×Int)}
theorem MapP.push(h:MapP X K V d l e)(hl:l.length<d.many){x:SeT}{b c:Nat}(hc:cellsAt V b=some (eZ x)):
 ∃u V1,∃V2,bJ Tryz.prog V #[25,25] (d.tv (l.length % d.k)) (.slice (some ⟨b,0,none⟩) 1 c)=some (u,V1)/\fZ 1 (.pointer (some ⟨d.SB,l.length % d.k*2+1,none⟩)) u V1=some (undef,V2)/\MapP X K V2 (d.push (l.length % d.k) V.next u) (l++[x]) e/\Gr V V2 K:=by
 have hk:0<d.k:=h.kp.1;have hi:=Nat.mod_lt l.length hk;have hmn:=h.mn;have hcl:(fD l d.k (l.length % d.k)).length<=10000:=by rw[iY];unfold cnt;have:=Nat.div_le_self (l.length+d.k-1-l.length % d.k) d.k;have:=h.kp.2;omega
 obtain⟨u,V1,p1,p2,p3,p4,p5,p6⟩:=(h.col _ hi).push (c:=c) hc hcl;have hT:∀(hn:fD l d.k (l.length % d.k)≠[]),K (d.T (l.length % d.k))/\d.T (l.length % d.k)≠d.M/\d.T (l.length % d.k)≠d.SB:=h.tk _ hi;have g1:∀b,b<V.next->(fD l d.k (l.length % d.k)≠[]->b≠d.T (l.length % d.k))->V1.get b=V.get b:=p4;have hsb:V1.get d.SB=some (.cells (shC d.k d.H d.tv)):=(g1 _ h.sl λhn c=>(hT hn).2.2 c.symm).trans h.sc;have hst:=ZP (b:=d.SB) (o:=l.length % d.k*2+1) (v:=u) hsb (by unfold shC;rw[aR (CK d.H d.tv),List.length_range];omega) p5 p6;rw[a6p d.H d.tv hi u]at hst;obtain⟨V2,hV2⟩:∃V2,V2=V1.put d.SB (.cells (shC d.k d.H λi=>if i=l.length % d.k then u else d.tv i)):=⟨_,rfl⟩;rw[<-hV2]at hst;have n2:V2.next=V.next+1:=by rw[hV2];exact p3
 have z1:V2.get d.SB=some (.cells (shC d.k d.H λi=>if i=l.length % d.k then u else d.tv i)):=by rw[hV2];exact AW.get_put _ _ _
 have z0:∀b,b≠d.SB->V2.get b=V1.get b:=λb hb=>by rw[hV2];exact AW.get_put_ne _ _ λx=>hb x.symm
 have g2:∀b,b<V.next->b≠d.SB->(fD l d.k (l.length % d.k)≠[]->b≠d.T (l.length % d.k))->V2.get b=V.get b:=λb hb h1 h2=>(z0 b h1).trans (g1 b hb h2)
 have hcol:∀i,i<d.k->fD (l++[x]) d.k i=if l.length % d.k=i then fD l d.k i++[x]else fD l d.k i:=λi hi'=>a1y hi' x
 have hne:∀i,i<d.k->i≠l.length % d.k->fD (l++[x]) d.k i=fD l d.k i:=λi hi' hn=>by rw[hcol i hi',if_neg λc=>hn c.symm]
 have hTi:∀i,(d.push (l.length % d.k) V.next u).T i=if i=l.length % d.k then V.next else d.T i:=λi=>rfl
 have htvi:∀i,(d.push (l.length % d.k) V.next u).tv i=if i=l.length % d.k then u else d.tv i:=λi=>rfl
 have hTc:∀i,i<d.k->fD (l++[x]) d.k i≠[]->(i=l.length % d.k/\(d.push (l.length % d.k) V.next u).T i=V.next)\/(i≠l.length % d.k/\(d.push (l.length % d.k) V.next u).T i=d.T i/\fD l d.k i≠[]/\d.T i<V.next):=λi hi' h0=>by
  by_cases c:i=l.length % d.k
  ·exact .inl ⟨c,by rw[hTi,if_pos c]⟩
  ·rw[hne i hi' c]at h0;exact .inr ⟨c,by rw[hTi,if_neg c],h0,(h.col i hi').lt h0⟩
 refine⟨u,V1,V2,p1,hst,?_,⟨by omega,λb hb hn=>g2 b hb (λc=>hn (by rw[c];exact h.sk)) λhc c=>hn (by rw[c];exact(hT hc).1)⟩⟩;refine{up:=λb hb=>h.up b (by omega),mc:=(g2 _ h.ml (λc=>h.ne c.symm) λhc c=>(hT hc).2.1 c.symm).trans h.mc,ml:=by have:=h.ml;show d.M<V2.next;omega,kM:=h.kM,sc:=z1,sl:=by have:=h.sl;show d.SB<V2.next;omega,sk:=h.sk,ne:=h.ne,vk:=h.vk,kp:=h.kp,mn:=h.mn,ll:=by rw[List.length_append,List.length_singleton];exact hl,col:=?_,tk:=?_,tt:=?_,ho:=?_,al:=λi hi' b hb=>by have:=h.al i hi' b hb;omega,ak:=h.ak,am:=h.am,at_:=?_,aa:=h.aa,es:=h.es,w0:=?_,wk:=h.wk,secs:=h.secs}
 ·intro i hi';by_cases c:i=l.length % d.k
  ·show SlS V2 ((d.push (l.length % d.k) V.next u).T i) ((d.push (l.length % d.k) V.next u).tv i) (fD (l++[x]) d.k i);rw[hTi,htvi,if_pos c,if_pos c,hcol i hi',if_pos c.symm,c];exact p2.keep (by omega) λ_=>z0 _ (by have:=h.sl;omega)
  ·show SlS V2 ((d.push (l.length % d.k) V.next u).T i) ((d.push (l.length % d.k) V.next u).tv i) (fD (l++[x]) d.k i);rw[hTi,htvi,if_neg c,if_neg c,hne i hi' c];exact(h.col i hi').keep (by omega) λh0=>g2 _ ((h.col i hi').lt h0) (h.tk i hi' h0).2.2 λh1 e=>c (h.tt i _ hi' hi h0 h1 e)
 ·intro i hi' h0;rcases hTc i hi' h0 with⟨c,e⟩|⟨c,e,h1,h2⟩
  ·rw[e];exact⟨h.up _ (Nat.le_refl _),by have:=h.ml;show V.next≠d.M;omega,by have:=h.sl;show V.next≠d.SB;omega⟩
  ·rw[e];exact h.tk i hi' h1
 ·intro i j hi' hj h0 h1 ee;rcases hTc i hi' h0 with⟨c,e⟩|⟨c,e,h2,h3⟩<;>rcases hTc j hj h1 with⟨c',e'⟩|⟨c',e',h2',h3'⟩
  ·rw[c,c']
  ·rw[e,e']at ee;omega
  ·rw[e,e']at ee;omega
  ·rw[e,e']at ee;exact h.tt i j hi' hj h2 h2' ee
 ·intro i hi';exact(h.ho i hi').keep (by omega) (λb hb hx=>g2 b hb (h.am i hi' b hx).2 λh1 c=>h.at_ i _ hi' hi h1 (by rw[<-c];exact hx)) (λb _ hx=>hx)
 ·intro i j hi' hj h0 hb;rcases hTc j hj h0 with⟨c,e⟩|⟨c,e,h2,h3⟩
  ·rw[e]at hb;have:=h.al i hi' _ hb;omega
  ·rw[e]at hb;exact h.at_ i j hi' hj h2 hb
 ·refine⟨by have:=h.w0.next;show d.W0.next<=V2.next;omega,λb hb hX=>(g2 b (Nat.lt_of_lt_of_le hb h.w0.next) (λc=>?_) λhc c=>?_).trans (h.w0.get b hb hX)⟩
  ·exact absurd (h.wk _ h.sk) (by rw[<-c];exact Nat.not_le.2 hb)
  ·exact absurd (h.wk _ (hT hc).1) (by rw[<-c];exact Nat.not_le.2 hb)
end
theorem MF:∀{l:List Int},(∀n∈l,1<=n)->0<=jX l/\(l≠[]->1<=jX l)
 |[],_=>⟨Int.le_refl _,λh=>absurd rfl h⟩
 |a::l,h=>by have h1:=(MF (l:=l) λn hn=>h n (List.mem_cons_of_mem _ hn)).1;have h2:=h a (List.mem_cons_self ..);have e:jX (a::l)=a+jX l:=rfl;rw[e];exact⟨by omega,λ_=>by omega⟩
theorem a1S{v:Ven}(h:(j6 v).2=0):1<=bR v.secs:=by
 obtain⟨g,-,h0,-⟩:=oH h;unfold bR;refine(MF (l:=v.secs.map λs=>jX s.rows) λn hn=>?_).2 λc=>?_
 ·obtain⟨s,hs,rfl⟩:=List.mem_map.1 hn;obtain⟨r1,r2,r3⟩:=g.rows s hs;exact(MF λn hn=>(r3 n hn).1).2 λc=>r1 (by rw[c];rfl)
 ·rw[List.map_eq_nil_iff]at c;rw[c]at h0;simp at h0
def UC(k:Nat)(hv:Nat->Value):List Value:=(List.range k).flatMap λi=>[hv i,.slice none 0 0]
theorem a7v(hv:Nat->Value)(i:Nat):([hv i,.slice none 0 0]:List Value).length=2:=rfl
theorem a6j{k j:Nat}(hv:Nat->Value)(hj:j<k)(u:Value):(UC k hv).set (j*2) u=UC k λi=>if i=j then u else hv i:=by
 have hr:(List.range k)[j]? =some j:=List.getElem?_range hj;obtain⟨e1,e2⟩:=eP (f:=λi=>[hv i,.slice none 0 0]) (λi=>a7v hv i) hr;obtain⟨e3,-⟩:=eP (f:=λi=>[if i=j then u else hv i,.slice none 0 0]) (λi=>rfl) hr;have t1:∀xs:List Nat,(∀i∈xs,i≠j)->xs.flatMap (λi=>[if i=j then u else hv i,.slice none 0 0])=xs.flatMap λi=>[hv i,.slice none 0 0]:=λxs hx=>by
  rw[List.flatMap_def,List.flatMap_def];congr 1;refine List.map_congr_left λi hi=>?_
  simp only[hx i hi,if_false]
 have h1:∀i∈(List.range k).take j,i≠j:=λi hi e=>by obtain⟨m,hm,rfl⟩:=List.mem_iff_getElem.1 hi;rw[List.length_take,List.length_range]at hm;rw[List.getElem_take,List.getElem_range]at e;omega
 have h2:∀i∈(List.range k).drop (j+1),i≠j:=λi hi e=>by obtain⟨m,hm,rfl⟩:=List.mem_iff_getElem.1 hi;rw[List.getElem_drop,List.getElem_range]at e;omega
 unfold UC;rw[e3,t1 _ h1,t1 _ h2,e1,List.set_append_right _ _ (by rw[e2];omega),e2,Nat.sub_self];simp
theorem aBP:(Tryz.prog.info? 144).map (·.bytes)=some 32:=by kernel_rfl
theorem aA7:Tryz.prog.underlying 137=some (.slice 144):=by kernel_rfl
theorem aCi:nI Tryz.prog 144=some 2:=by kernel_rfl
theorem aB2:kR Tryz.prog 144=some (.agg #[.pointer none,.slice none 0 0]):=by kernel_rfl
theorem a0U:∀n:Nat,BD [.pointer none,.slice none 0 0] n=(List.replicate n ()).flatMap λ_=>[.pointer none,.slice none 0 0]
 |0=>rfl
 |n+1=>by show [.pointer none,.slice none 0 0]++BD [.pointer none,.slice none 0 0] n=_;rw[a0U n,List.replicate_succ,List.flatMap_cons]
theorem YB(n:Nat):BD [.pointer none,.slice none 0 0] n=UC n λ_=>.pointer none:=by
 rw[a0U];unfold UC;rw[List.flatMap_def,List.flatMap_def];congr 1;apply List.ext_getElem?;intro i;by_cases h:i<n
 ·simp[h]
 ·rw[List.getElem?_eq_none (by simp;omega),List.getElem?_eq_none (by simp;omega)]
theorem aAU{n:Nat}(h:n<=10000)(W:AW):jO Tryz.prog 137 (.int .i64 (n:Int)) (.int .i64 (n:Int)) W=some (.slice (some ⟨W.next,0,none⟩) n n,W.add (.cells (UC n λ_=>.pointer none))):=by
 show jO Tryz.prog 137 (.int .i64 (Int.ofNat n)) (.int .i64 (Int.ofNat n)) W=_;unfold jO;have e:=KJ (z:=.agg #[.pointer none,.slice none 0 0]) (len:=n) (n:=2) rfl;have e2:(kH (.agg #[.pointer none,.slice none 0 0]) (n*2)).toList=UC n λ_=>.pointer none:=by rw[e];exact YB n
 have e3:(UC n λ_=>.pointer none).all bW=true:=by rw[<-YB];exact DI _ _ rfl n
 simp only[aA7,aCi,aB2,aBP];rw[e2,if_pos ⟨Nat.le_refl _,by omega,by omega,e3⟩]
theorem a9Z(v:Ven)(B n c k b:Nat)(m:Int)(W:AW):gK Tryz.prog 139 [(0,sI v (.slice (some ⟨B,0,none⟩) n c)),(1,.int .i64 m),(2,.slice (some ⟨b,0,none⟩) k k)] W=some (.agg #[.int .i64 v.sh,.int .i64 v.ttl,.int .i64 v.ses,.slice (some ⟨B,0,none⟩) n c,.int .i64 m,.slice (some ⟨b,0,none⟩) k k],W):=Eq.trans (by kernel_rfl) rfl
theorem a9Y{Wa W:AW}{v:Ven}{b B:Nat}{g:Nat->Value}{R:PlanTab.Fr}{K:LT->Option (Value×AW)}{G:Value×AW->Prop}(hn:v.secs.length<1000)(hr:∀s∈v.secs,s.rows.length<1000)(hle:Le Wa W)(hBa:Wa.next<=B)(hbl:b<W.next)(hne:b≠B)(hBl:B<W.next)
 (hb:W.get b=some (.cells [.int .i64 v.sh,.int .i64 v.ttl,.int .i64 v.ses,.slice (some ⟨B,0,none⟩) v.secs.length (bS+3)]))(hB:W.get B=some (.cells ((List.range v.secs.length).flatMap (tQ v.secs g))))(g2:∀i,i<v.secs.length->Ints Wa (g i) (zL v.secs i).rows)
 (r2:R 2=.pointer (some ⟨b,0,none⟩))(r40:R 40=.int .i64 (v.secs.length:Int))(r41:R 41=.int .i64 0)
 (hk:∀(R':PlanTab.Fr) (U:AW) (g':Nat->Value),R' 1=R 1->R' 2=.pointer (some ⟨b,0,none⟩)->R' 6=R 6->Le Wa U->W.next<=U.next->(∀c,c≠B->c<W.next->U.get c=W.get c)->U.get B=some (.cells ((List.range v.secs.length).flatMap (tQ v.secs g')))->(∀i,i<v.secs.length->FI W.next U (g' i) (zL v.secs i).rows)->Ok (K (X.exit 1,R',U)) G):
 Ok (aA (bY (mG aL) R W) K) G:=by
 have g0:∀U:AW,(∀c,c≠B->c<W.next->U.get c=W.get c)->W.next<=U.next->Le Wa U:=λU h1 h2=>⟨by have:=hle.next;omega,λc hc=>(h1 c (by omega) (by have:=hle.next;omega)).trans (hle.get c hc)⟩
 refine bF v.secs.length (by omega) (λi Q U=>Q 1=R 1/\Q 2=.pointer (some ⟨b,0,none⟩)/\Q 6=R 6/\Q 40=.int .i64 (v.secs.length:Int)/\Q 41=.int .i64 (i:Int)/\W.next<=U.next/\(∀c,c≠B->c<W.next->U.get c=W.get c)/\
  ∃g':Nat->Value,U.get B=some (.cells ((List.range v.secs.length).flatMap (tQ v.secs g')))/\(∀j,j<i->FI W.next U (g' j) (zL v.secs j).rows)/\∀j,i<=j->g' j=g j)
  (λr=>r.1=.exit 1/\r.2.1 1=R 1/\r.2.1 2=.pointer (some ⟨b,0,none⟩)/\r.2.1 6=R 6/\W.next<=r.2.2.next/\(∀c,c≠B->c<W.next->r.2.2.get c=W.get c)/\∃g':Nat->Value,r.2.2.get B=some (.cells ((List.range v.secs.length).flatMap (tQ v.secs g')))/\∀j,j<v.secs.length->FI W.next r.2.2 (g' j) (zL v.secs j).rows)
  ⟨rfl,r2,rfl,r40,r41,Nat.le_refl _,λ_ _ _=>rfl,g,hB,λj hj=>by omega,λj _=>rfl⟩ ?_ ?_ ?_
 ·rintro i Q U hi ⟨q1,q2,q6,q40,q41,u1,u2,g',u3,u4,u5⟩;unfold mG;have t1:((i:Int)<(v.secs.length:Int)):=by omega
  have t2:=λW'=>aQ (P:=Tryz.prog) (W:=W') (t:=3) (c:=false) (d:=true) (a:=(i:Int)) (b:=1) (by omega) (by omega)
  have e3:((i+1:Nat):Int)=(i:Int)+1:=by omega
  have ub:=(u2 b hne hbl).trans hb;have hl3:aP (.pointer (some ⟨b,3,none⟩)) U=some (.slice (some ⟨B,0,none⟩) v.secs.length (bS+3),U):=jE (bU ub) rfl;have ix:=λW' q=>nC (W:=W') (z:=3) (b:=B) (o:=0) (l:=v.secs.length) (c:=bS+3) (i:=i) (k:=q) hi
  have lr:aP (.pointer (some ⟨B,i*3+1,none⟩)) U=some (g' i,U):=jE (bU u3) (a3T hi);have hrow:Ints U (g' i) (zL v.secs i).rows:=by rw[u5 i (Nat.le_refl _)];exact(g2 i hi).mono (g0 U u2 u1)
  have hlr:(zL v.secs i).rows.length<=10000:=by rw[CL hi];have:=hr _ (List.getElem_mem hi);omega
  obtain⟨u,U1,k1,k2,k3⟩:=VA hrow hlr;have n1:=k2.next;have hl3':aP (.pointer (some ⟨b,3,none⟩)) U1=some (.slice (some ⟨B,0,none⟩) v.secs.length (bS+3),U1):=jE (bU ((k2.get b (by omega)).trans ub)) rfl;have hB1:U1.get B=some (.cells ((List.range v.secs.length).flatMap (tQ v.secs g'))):=(k2.get B (by omega)).trans u3;have hst:=ZP (b:=B) (o:=i*3+1) (v:=u) hB1 (by rw[aR (nN v.secs g'),List.length_range];omega) k3.one.1 k3.one.2;rw[a3r hi]at hst;simp only[SX,q2,q40,q41,t1,decide_true,Nat.zero_add,hl3,ix,lr,k1,hl3',iW,HY,Bool.and_true,hst,t2,aB];refine .inl ⟨trivial,q1,q2,q6,q40,by rw[e3];rfl,by rw[AW.put_next];omega,λc hc hcl=>by rw[AW.get_put_ne _ _ (λx=>hc x.symm),k2.get c (by omega)];exact u2 c hc hcl,_,AW.get_put _ _ _,λj hj=>?_,λj hj=>?_⟩
  ·by_cases c:j=i
   ·subst c;simp only[if_true];exact(FI.keep (W':=U1.put B _) k3 (Nat.le_refl _) λb' h1 h2=>AW.get_put_ne _ _ (by omega))|>λh=>by
     obtain⟨a,cc,e,hr⟩:=h;refine⟨a,cc,e,?_⟩;rcases hr with hr|⟨X,e1,e2,e3,e4⟩
     ·exact .inl hr
     ·exact .inr ⟨X,e1,by omega,e3,e4⟩
   ·simp only[c,if_false];exact(u4 j (by omega)).keep (by rw[AW.put_next];omega) λb' h1 h2=>by rw[AW.get_put_ne _ _ (by omega)];exact k2.get b' h2
  ·have:j≠i:=by omega
   simp only[this,if_false];exact u5 j (by omega)
 ·rintro Q U ⟨q1,q2,q6,q40,q41,u1,u2,g',u3,u4,u5⟩;unfold mG;have t1:¬((v.secs.length:Int)<(v.secs.length:Int)):=by omega
  simp only[SX,q40,q41,t1,decide_false,aB];exact⟨by simp,trivial,q1,q2,q6,u1,u2,g',u3,u4⟩
 ·rintro⟨q,Q,U⟩ ⟨rfl,q1,q2,q6,u1,u2,g',u3,u4⟩;exact hk Q U g' q1 q2 q6 (g0 U u2 u1) u1 u2 u3 u4
theorem aBh{W:AW}{M B k many:Nat}{R:PlanTab.Fr}{K:LT->Option (Value×AW)}{G:Value×AW->Prop}(hk16:k<=16)(hm:1<=many/\many<=4096)(hMl:M<W.next)(hBl:B<W.next)(hM:aP (.pointer (some ⟨M,5,none⟩)) W=some (.slice (some ⟨B,0,none⟩) k k,W))(hMg:∀U:AW,U.get M=W.get M->aP (.pointer (some ⟨M,5,none⟩)) U=some (.slice (some ⟨B,0,none⟩) k k,U))(hne:B≠M)(hB:W.get B=some (.cells (UC k λ_=>.pointer none)))
 (r6:R 6=.int .i64 (many:Int))(r9:R 9=mV M)(r68:R 68=.int .i64 (k:Int))(r69:R 69=.int .i64 0)
 (hk:∀(R':PlanTab.Fr) (U:AW) (H:Nat->Nat) (A:Nat->Nat->Prop) (s:Nat->St),R' 1=R 1->R' 2=R 2->R' 9=mV M->W.next<=U.next->(∀c,c≠B->c<W.next->U.get c=W.get c)->U.get B=some (.cells (UC k λi=>hP (H i)))->(∀i,i<k->HT U (A i) (H i) many (s i)/\(s i).es=[]/\(s i).nx=1/\∀b,A i b->W.next<=b/\b<U.next)->(∀i j,i<k->j<k->∀b,A i b->A j b->i=j)->Ok (K (X.exit 3,R',U)) G):
 Ok (aA (bY (mQ aL) R W) K) G:=by
 refine bF k (by omega) (λi Q U=>Q 1=R 1/\Q 2=R 2/\Q 6=.int .i64 (many:Int)/\Q 9=mV M/\Q 68=.int .i64 (k:Int)/\Q 69=.int .i64 (i:Int)/\W.next<=U.next/\(∀c,c≠B->c<W.next->U.get c=W.get c)/\
  ∃(H:Nat->Nat) (A:Nat->Nat->Prop) (s:Nat->St),U.get B=some (.cells (UC k λj=>if j<i then hP (H j)else .pointer none))/\(∀j,j<i->HT U (A j) (H j) many (s j)/\(s j).es=[]/\(s j).nx=1/\∀b,A j b->W.next<=b/\b<U.next)/\∀j m,j<i->m<i->∀b,A j b->A m b->j=m)
  (λr=>r.1=.exit 3/\r.2.1 1=R 1/\r.2.1 2=R 2/\r.2.1 9=mV M/\W.next<=r.2.2.next/\(∀c,c≠B->c<W.next->r.2.2.get c=W.get c)/\
    ∃(H:Nat->Nat) (A:Nat->Nat->Prop) (s:Nat->St),r.2.2.get B=some (.cells (UC k λi=>hP (H i)))/\(∀i,i<k->HT r.2.2 (A i) (H i) many (s i)/\(s i).es=[]/\(s i).nx=1/\∀b,A i b->W.next<=b/\b<r.2.2.next)/\∀i j,i<k->j<k->∀b,A i b->A j b->i=j)
  ⟨rfl,rfl,r6,r9,r68,r69,Nat.le_refl _,λ_ _ _=>rfl,λ_=>0,λ_ _=>False,λ_=>⟨0,0,0,0,0,λ_=>⟨0,0,(0,0)⟩⟩,by simpa using hB,λj hj=>by omega,λj m hj=>by omega⟩ ?_ ?_ ?_
 ·rintro i Q U hi ⟨q1,q2,q6,q9,q68,q69,u1,u2,H,A,s,u3,u4,u5⟩;unfold mQ;have t1:((i:Int)<(k:Int)):=by omega
  have t2:=λW'=>aQ (P:=Tryz.prog) (W:=W') (t:=3) (c:=false) (d:=true) (a:=(i:Int)) (b:=1) (by omega) (by omega)
  have e3:((i+1:Nat):Int)=(i:Int)+1:=by omega
  obtain⟨U1,H1,q,mh,hm',f,k1,k2,k3⟩:=a7j (W:=U) (In:=λb=>U.next<=b) (s:=(many:Int)) ⟨by omega,by omega⟩ (λb hb=>hb);have n1:=k3.next;have hM1:aP (.pointer (some ⟨M,5,none⟩)) U1=some (.slice (some ⟨B,0,none⟩) k k,U1):=hMg U1 (by rw[k3.get M (by omega) (by omega)];exact u2 M (λc=>hne c.symm) hMl);have hB1:U1.get B=some (.cells (UC k λj=>if j<i then hP (H j)else .pointer none)):=(k3.get B (by omega) (by omega)).trans u3;have hst:=ZP (b:=B) (o:=i*2) (v:=hP H1) hB1 (by unfold UC;rw[aR (f:=λj=>[if j<i then hP (H j)else .pointer none,.slice none 0 0]) (z:=2) (λj=>rfl),List.length_range];omega) rfl rfl;rw[a6j _ hi]at hst;simp only[SX,q6,q9,q68,q69,t1,decide_true,k1,aD,Nat.zero_add,Nat.add_zero,hM1,TZ hi,hst,t2,aB];refine .inl ⟨trivial,q1,q2,q6,q9,q68,by rw[e3];rfl,by rw[AW.put_next];omega,λc hc hcl=>by rw[AW.get_put_ne _ _ (λx=>hc x.symm),k3.get c (by omega) (by omega)];exact u2 c hc hcl,λj=>if j=i then H1 else H j,λj b=>if j=i then U.next<=b/\b<U1.next else A j b,λj=>if j=i then⟨q,mh,hm',1,0,f⟩else s j,?_,λj hj=>?_,λj m hj hm b hb hb2=>?_⟩
  ·rw[AW.get_put];congr 3;funext j;by_cases c:j=i
   ·simp[c]
   ·by_cases c2:j<i
    ·simp[c,c2,show j<i+1 by omega]
    ·simp[c,c2,show¬j<i+1 by omega]
  ·by_cases c:j=i
   ·subst c;simp only[if_true];refine⟨k2.keep (Nat.le_refl _) (λb hb hx=>AW.get_put_ne _ _ (by omega)) (λb hb hx=>⟨hx,hb⟩),rfl,trivial,λb hb=>⟨by omega,hb.2⟩⟩
   ·simp only[c,if_false];obtain⟨x1,x2,x3,x4⟩:=u4 j (by omega);refine⟨x1.keep (by rw[AW.put_next];omega) (λb hb hx=>?_) (λb _ hx=>hx),x2,x3,λb hb=>⟨(x4 b hb).1,by have:=(x4 b hb).2;rw[AW.put_next];omega⟩⟩;have:=(x4 b hx).1;rw[AW.get_put_ne _ _ (by omega)];exact k3.get b hb (by omega)
  ·by_cases c:j=i<;>by_cases c2:m=i
   ·rw[c,c2]
   ·simp only[c,c2,if_true,if_false]at hb hb2;have:=(u4 m (by omega)).2.2.2 b hb2;omega
   ·simp only[c,c2,if_true,if_false]at hb hb2;have:=(u4 j (by omega)).2.2.2 b hb;omega
   ·simp only[c,c2,if_false]at hb hb2;exact u5 j m (by omega) (by omega) b hb hb2
 ·rintro Q U ⟨q1,q2,q6,q9,q68,q69,u1,u2,H,A,s,u3,u4,u5⟩;unfold mQ;have t1:¬((k:Int)<(k:Int)):=by omega
  simp only[SX,q68,q69,t1,decide_false,aB];refine⟨by simp,trivial,q1,q2,q9,u1,u2,H,A,s,?_,u4,u5⟩;rw[u3];congr 2;unfold UC;rw[List.flatMap_def,List.flatMap_def];congr 1;refine List.map_congr_left λj hj=>?_
  simp only[List.mem_range.1 hj,if_true]
 ·rintro⟨q,Q,U⟩ ⟨rfl,q1,q2,q9,u1,u2,H,A,s,u3,u4,u5⟩;exact hk Q U H A s q1 q2 q9 u1 u2 u3 u4 u5
theorem PP{l:List SeT}{x:SeT}{k:Nat}(i:Nat):bV (l++[x]) (nP k i)=bV l (nP k i)++(if l.length % k=i/\x.st=1 then [((l.length:Int),x.dl)]else []):=by
 rw[a2E];congr 1;by_cases c:l.length % k=i/\x.st=1
 ·rw[if_pos c,if_pos ⟨by simp[c.1],c.2⟩]
 ·rw[if_neg c,if_neg λh=>c ⟨by simpa using h.1,h.2⟩]
def Ld(Y K:Nat->Prop)(U:AW)(d:Md)(l:List SeT)(N:Int):Prop:=(∀i,i<d.k->(d.s i).nx<=N)/\MapP Y K U d l λi=>bV l (nP d.k i)
theorem a1x{Y K:Nat->Prop}{U:AW}{d:Md}{l:List SeT}{N:Int}(h:Ld Y K U d l N)(hl:l.length<d.many)(hN:N<1000000){x:SeT}(hx:x9 x=0){sv rv:Value}{b:Nat}
 (hrow:∃p,(∀W' q,jI 5 rv (.int q (l.length:Int)) W'=some (p,W'))/\eU 5 p U=some (pU x,U))(hb:∀W',Le U W'->aP (.pointer (some ⟨b,0,none⟩)) W'=some (.int .i64 (d.k:Int),W'))
 {R:PlanTab.Fr}{n:Nat}(hn:l.length<n)(r2:R 2=.pointer (some ⟨b,0,none⟩))(r9:R 9=mV d.M)(r86:R 86=rv)(r87:R 87=.int .i64 (n:Int))(r88:R 88=.int .i64 (l.length:Int)){G:LT->Prop}
 (hk:∀(R':PlanTab.Fr) (U':AW) (d':Md),R' 2=R 2->R' 9=R 9->R' 86=R 86->R' 87=R 87->R' 88=.int .i64 ((l.length+1:Nat):Int)->d'.M=d.M->d'.k=d.k->d'.many=d.many->d'.v=d.v->d'.W0=d.W0->Ld Y K U' d' (l++[x]) (N+1)->Gr U U' K->G (X.normal,R',U')):
 Ok (nL aL R U) G:=by
 obtain⟨hnx,hP'⟩:=h;have hmn:=hP'.mn;have hk0:0<d.k:=hP'.kp.1;have hi:=Nat.mod_lt l.length hk0;obtain⟨p,i1,i2⟩:=hrow;obtain⟨U0,U1,a1,a2,a3,a4,a5⟩:=a6i U x;have l2:Le U1 (U1.add (.cells (eZ x))):=(Le.refl _).add _;have n2:(U1.add (.cells (eZ x))).next=U1.next+1:=AW.add_next _ _;have g2:(U1.add (.cells (eZ x))).get U1.next=some (.cells (eZ x)):=AW.get_add _ _;have t1:((l.length:Int)<(n:Int)):=by omega
 have t2:=λW'=>aQ (P:=Tryz.prog) (W:=W') (t:=3) (c:=false) (d:=true) (a:=(l.length:Int)) (b:=1) (by omega) (by omega)
 have e6:((l.length+1:Nat):Int)=(l.length:Int)+1:=by omega
 have p1:=hP'.le a3;have h1:=p1.h1 hi;unfold nL;simp only[SX,r86,r87,r88,t1,decide_true,i1,i2,a1,a2,r9,aD,Nat.zero_add,Nat.add_zero,p1.l5,r2,hb U1 a3,YX l.length d.k hk0,TZ hi,h1,cB a5,aCy];generalize U1.add (.cells (eZ x))=U2 at *;have p2:=hP'.shift (a3.trans l2);obtain⟨K1,hK1⟩:∃K1:Nat->Prop,K1=λb=>K b/\b<U.next\/U2.next<=b:=⟨_,rfl⟩
 rw[<-hK1]at p2;have hK:∀b,K1 b->K b:=λb hb=>by
  rw[hK1]at hb;rcases hb with hb|hb
  ·exact hb.1
  ·exact hP'.up b (by omega)
 have hKn:¬K1 U.next:=λhb=>by rw[hK1]at hb;rcases hb with hb|hb<;>omega
 obtain⟨u,V1,V2,q1,q2,q3,q4⟩:=p2.push hl (b:=U1.next) (c:=1) (bC g2);have bx:V2.get U.next=some (.cells (eZ x)):=by rw[q4.get _ (by omega) hKn,l2.get _ (by omega)];exact a5
 have gr0:Gr U U2 K:=Le.gr (a3.trans l2) K;have hpush_s:∀i,(d.push (l.length % d.k) U2.next u).s i=d.s i:=λi=>rfl
 by_cases c:x.st=1;case neg=>have dc:=decide_eq_false c;simp only[SX,q1,q2,kK bx,dc,t2,aB];refine hk _ V2 (d.push (l.length % d.k) U2.next u) rfl rfl rfl rfl (by rw[e6];rfl) rfl rfl rfl rfl rfl ⟨λi hi'=>by rw[hpush_s];have:=hnx i hi';omega,?_⟩ (gr0.trans (q4.mono hK));refine(q3.ent λi hi'=>?_).weak hK hP'.wk;rw[PP,if_neg (λh=>c h.2),List.append_nil];exact .refl _
 have dc:=decide_eq_true c;have hdl:0<=x.dl:=by rw[M8 c]at hx;split at hx<;>omega
 obtain⟨V3,s',w1,w2,w3,f1,f2,f3,f4,f5⟩:=FF (p:=((l.length:Int),x.dl)) q3 (i:=l.length % d.k) hi (λz hz=>by obtain⟨j,j1,-,-,rfl⟩:=kQ.1 hz;show((j:Nat):Int)≠(l.length:Int);omega) ⟨by show(0:Int)<=(l.length:Int);omega,by show(l.length:Int)<(d.many:Int);omega,hdl⟩ (Nat.le_trans (qB _ _) (by omega)) (by rw[hpush_s];have:=hnx _ hi;omega);have h02:aP (.pointer (some ⟨d.SB,l.length % d.k*2,none⟩)) V2=some (hP (d.H (l.length % d.k)),V2):=q3.h0 hi;have w1':aL (.func (.func 74) #[] #[]) [hP (d.H (l.length % d.k)),.int .i64 (l.length:Int),.int .i64 x.dl] V2=some (.int .i64 0,V3):=w1;simp only[SX,q1,q2,kK bx,dc,h02,oU bx,w1',t2,aB];refine hk _ V3 ((d.push (l.length % d.k) U2.next u).on (l.length % d.k) V2 V3 s') rfl rfl rfl rfl (by rw[e6];rfl) rfl rfl rfl rfl rfl ⟨λi hi'=>?_,?_⟩ (gr0.trans ((q4.mono hK).trans (w3.mono hK)))
 ·rw[tY];split
  ·rw[f4,hpush_s];have:=hnx _ hi;omega
  ·rw[hpush_s];have:=hnx i hi';omega
 ·refine(w2.ent λi hi'=>?_).weak hK hP'.wk;rw[PP];by_cases ci:i=l.length % d.k
  ·rw[if_pos ci,if_pos ⟨ci.symm,c⟩,ci];exact(List.perm_append_singleton _ _).symm
  ·rw[if_neg ci,if_neg (λh=>ci h.1.symm),List.append_nil];exact .refl _
section
variable {W:AW} {v:Ven} {sv rv:Value} {l:List SeT}
theorem Q9(hs:SecsC W sv v.secs)(hv:v.secs.length<1000)(hrow:SeL W rv l)(hl:l.length<=10000):
 (gJ v l≠0->aL (.func (.func 17) #[] #[]) [sI v sv,rv] W=some (.tuple #[.pointer none,.int .i64 (gJ v l)],W))/\(gJ v l=0->∃M W',∃W0:AW,∃k:Nat,aL (.func (.func 17) #[] #[]) [sI v sv,rv] W=some (.tuple #[mV M,.int .i64 0],W')/\Le W W0/\Le W W'/\v.sh=(k:Int)/\Le W0 W'/\MapX (λb=>b<W.next) (λb=>W0.next<=b) W' M k l.length v W0 10001 l):=by
 obtain⟨W1,k1,k2,k3,k4⟩:=TI v sv W;have hse:=a3q (hs.mono k2) hv;have hco:=XG (hrow.mono k2) hl;by_cases c1:(jC v).2=0;case neg=>
  have e:gJ v l=(jC v).2:=by unfold gJ;rw[if_pos c1]
  have d1:=decide_eq_false c1;refine⟨λ_=>aN rfl ?_ nJ,λx=>by rw[e]at x;exact absurd x c1⟩;unfold lI;simp only[SX,k1,mM k4,hse,d1,aB];exact⟨by rw[e],k2⟩
 have d1:=decide_eq_true c1;by_cases c2:(l.length:Int)=(jC v).1;case neg=>
  have e:gJ v l=6:=by unfold gJ;rw[if_neg (λx=>x c1),if_pos c2]
  have d2:=decide_eq_false c2;refine⟨λ_=>aN rfl ?_ nJ,λx=>by omega⟩;unfold lI;simp only[SX,IJ,I8,k1,mM k4,hse,d1,hrow.len wO,d2,aB];exact⟨by rw[e],k2⟩
 have d2:=decide_eq_true c2;have e0:gJ v l=if YU l=true then 6 else 0:=by unfold gJ;rw[if_neg (λx=>x c1),if_neg (λx=>x c2)]
 cases hbd:YU l with
 |true=>
  have e:gJ v l=6:=by rw[e0,if_pos hbd]
  rw[hbd]at hco;refine⟨λ_=>aN rfl ?_ nJ,λx=>by omega⟩;unfold lI;simp only[SX,IJ,I8,k1,mM k4,hse,d1,hrow.len wO,d2,hco,aB];exact⟨by rw[e],k2⟩
 |false=>
  have e:gJ v l=0:=by rw[e0,hbd];rfl
  rw[hbd]at hco;refine⟨λx=>absurd e x,λ_=>?_⟩;obtain⟨hve,htot,hok,hl4,hsh⟩:=WI e;have htp:=a1S hve;obtain⟨gd,-,hse0,-⟩:=oH hve;have hne:v.secs≠[]:=λc=>by rw[c]at hse0;simp at hse0
  have hr:∀s∈v.secs,s.rows.length<1000:=λs hs'=>by have:=(gd.rows s hs').2.1;omega
  obtain⟨k,hk⟩:∃k:Nat,v.sh=(k:Int):=⟨v.sh.toNat,by omega⟩;have hse':(jC v).1=(l.length:Int):=c2.symm;obtain⟨B,W2,g,a1,a2,a3,a4,a5,a6,a7⟩:=UV hs k2 hne (by omega);have g2:W2.get W.next=some (.cells [.int .i64 v.sh,.int .i64 v.ttl,.int .i64 v.ses,sv]):=(a2.get _ (by omega)).trans k4;have hl3:aP (.pointer (some ⟨W.next,3,none⟩)) W1=some (sv,W1):=jE (bU k4) rfl;have hst3:=ZP (b:=W.next) (o:=3) (v:=.slice (some ⟨B,0,none⟩) v.secs.length (bS+3)) g2 (by show 3<4;omega) rfl rfl;have hst3':fZ 1 (.pointer (some ⟨W.next,3,none⟩)) (.slice (some ⟨B,0,none⟩) v.secs.length (bS+3)) W2=some (undef,W2.put W.next (.cells [.int .i64 v.sh,.int .i64 v.ttl,.int .i64 v.ses,.slice (some ⟨B,0,none⟩) v.secs.length (bS+3)])):=hst3;have main:Ok (lI aL (sI v sv) rv W) λr=>∃M,∃W0:AW,r.1=.tuple #[mV M,.int .i64 0]/\Le W W0/\Le W r.2/\Le W0 r.2/\MapX (λb=>b<W.next) (λb=>W0.next<=b) r.2 M k l.length v W0 10001 l:=by
   unfold lI;obtain⟨W3,hW3⟩:∃W3,W3=W2.put W.next (.cells [.int .i64 v.sh,.int .i64 v.ttl,.int .i64 v.ses,.slice (some ⟨B,0,none⟩) v.secs.length (bS+3)]):=⟨_,rfl⟩;rw[<-hW3]at hst3';have n2:=a2.next;have z1:W3.get W.next=some (.cells [.int .i64 v.sh,.int .i64 v.ttl,.int .i64 v.ses,.slice (some ⟨B,0,none⟩) v.secs.length (bS+3)]):=by rw[hW3];exact AW.get_put _ _ _
   have z0:∀b,b≠W.next->W3.get b=W2.get b:=λb hb=>by rw[hW3];exact AW.get_put_ne _ _ λx=>hb x.symm
   have n3:W3.next=W2.next:=by rw[hW3];rfl
   have hl33:aP (.pointer (some ⟨W.next,3,none⟩)) W3=some (.slice (some ⟨B,0,none⟩) v.secs.length (bS+3),W3):=jE (bU z1) rfl;have l03:Le W W3:=⟨by omega,λb hb=>by rw[z0 b (by omega),a2.get b (by omega)];exact k2.get b hb⟩;simp only[SX,IJ,I8,k1,mM k4,hse,d1,hrow.len wO,d2,hco,Nat.zero_add,hl3,a1,hst3',hl33,iB BB];refine a9Y (Wa:=W) (W:=W3) (b:=W.next) (B:=B) (g:=g) hv hr l03 (by omega) (by omega) (by omega) (by omega) z1 ((z0 B (by omega)).trans a5) a7 rfl rfl rfl λR' U g' r1 r2 r6 u0 u1 u2 u3 u4=>?_
   have ub:=(u2 W.next (by omega) (by omega)).trans z1;have l0k:∀Z:AW,Le U Z->aP (.pointer (some ⟨W.next,0,none⟩)) Z=some (.int .i64 (k:Int),Z):=λZ hZ=>by rw[<-hk];exact jE (bU ((hZ.get _ (by omega)).trans ub)) rfl
   have r1':R' 1=rv:=r1;have r6':R' 6=.int .i64 (l.length:Int):=by rw[r6,<-hse'];rfl
   have hk16:k<=16:=by omega
   have hsecs:∀Z,LeX (λb=>b<W.next) U Z->SecsC Z (.slice (some ⟨B,0,none⟩) v.secs.length (bS+3)) v.secs:=λZ hZ=>a5A ((hZ.get B (by omega) (by show¬B<W.next;omega)).trans u3) (by have:=hZ.next;omega) λi hi=>((u4 i hi).keep hZ.next λb h1 h2=>hZ.get b h2 (by show¬b<W.next;have:=l03.next;omega)).ints
   simp only[SX,r2,mM ub,r6',l0k U (Le.refl _),aAU (show k<=10000 by omega),a9Z,fU];obtain⟨U2,hU2⟩:∃U2,U2=(U.add (.cells (UC k λ_=>.pointer none))).add (.cells [.int .i64 v.sh,.int .i64 v.ttl,.int .i64 v.ses,.slice (some ⟨B,0,none⟩) v.secs.length (bS+3),.int .i64 (l.length:Int),.slice (some ⟨U.next,0,none⟩) k k]):=⟨_,rfl⟩;have m1:(U.add (.cells (UC k λ_=>.pointer none))).next=U.next+1:=AW.add_next _ _;have m2:U2.next=U.next+2:=by rw[hU2,AW.add_next,m1]
   have y1:U2.get (U.next+1)=some (.cells [.int .i64 v.sh,.int .i64 v.ttl,.int .i64 v.ses,.slice (some ⟨B,0,none⟩) v.secs.length (bS+3),.int .i64 (l.length:Int),.slice (some ⟨U.next,0,none⟩) k k]):=by rw[hU2,<-m1];exact AW.get_add _ _
   have y0:U2.get U.next=some (.cells (UC k λ_=>.pointer none)):=by rw[hU2,AW.get_add_ne _ _ (by rw[m1];omega)];exact AW.get_add _ _
   have leU:Le U U2:=by rw[hU2];exact((Le.refl _).add _).add _
   have hM5:∀Z:AW,Z.get (U.next+1)=U2.get (U.next+1)->aP (.pointer (some ⟨U.next+1,5,none⟩)) Z=some (.slice (some ⟨U.next,0,none⟩) k k,Z):=λZ hZ=>jE (bU (hZ.trans y1)) rfl
   have hva:(#[.int .i64 v.sh,.int .i64 v.ttl,.int .i64 v.ses,.slice (some ⟨B,0,none⟩) v.secs.length (bS+3),.int .i64 (l.length:Int),.slice (some ⟨U.next,0,none⟩) k k]:Array Value).toList=[.int .i64 v.sh,.int .i64 v.ttl,.int .i64 v.ses,.slice (some ⟨B,0,none⟩) v.secs.length (bS+3),.int .i64 (l.length:Int),.slice (some ⟨U.next,0,none⟩) k k]:=rfl;simp only[SX,hva,<-hU2,m1,aD,Nat.zero_add,hM5 U2 rfl,wM];refine aBh (W:=U2) (M:=U.next+1) (B:=U.next) (k:=k) (many:=l.length) hk16 ⟨by omega,by omega⟩ (by omega) (by omega) (hM5 U2 rfl) (λZ hZ=>hM5 Z hZ) (by omega) y0 (by exact r6') (by rfl) (by rfl) (by rfl) λQ U3 H A s q1 q2 q9 v1 v2 v3 v4 v5=>?_
   have q1':Q 1=rv:=q1.trans r1';have q2':Q 2=.pointer (some ⟨W.next,0,none⟩):=q2.trans r2;simp only[SX,q1',hrow.len wO];have le3:Le U U3:=⟨by omega,λb hb=>(v2 b (by omega) (by omega)).trans (leU.get b hb)⟩;have cnil:∀i,i<k->fD [] k i=[]:=λi hi=>by apply List.eq_nil_of_length_eq_zero;rw[iY];show(0+k-1-i)/k=0;exact Nat.div_eq_of_lt (by omega)
   let d0:Md:=⟨U.next+1,U.next,k,l.length,v,.slice (some ⟨B,0,none⟩) v.secs.length (bS+3),U,λ_=>0,H,λ_=>.slice none 0 0,A,s⟩;have hp0:MapP (λb=>b<W.next) (λb=>U.next<=b) U3 d0 [] (λi=>bV [] (nP k i)):=
    {up:=λb hb=>by show U.next<=b;omega,mc:=(v2 (U.next+1) (by omega) (by omega)).trans y1,ml:=by show U.next+1<U3.next;omega,kM:=by show U.next<=U.next+1;omega,sc:=v3,sl:=by show U.next<U3.next;omega,sk:=Nat.le_refl _,ne:=by show U.next≠U.next+1;omega,vk:=hk,kp:=⟨by show 1<=k;omega,hk16⟩,mn:=hl4,ll:=by show 0<=l.length;omega
     col:=λi hi=>.inl ⟨cnil i hi,rfl⟩,tk:=λi hi h0=>absurd (cnil i hi) h0,tt:=λi j hi hj h0=>absurd (cnil i hi) h0,ho:=λi hi=>(v4 i hi).1,al:=λi hi b hb=>((v4 i hi).2.2.2 b hb).2,ak:=λi hi b hb=>by show U.next<=b;have:=((v4 i hi).2.2.2 b hb).1;omega,am:=λi hi b hb=>by have:=((v4 i hi).2.2.2 b hb).1;exact⟨by show b≠U.next+1;omega,by show b≠U.next;omega⟩
     at_:=λi j hi hj h0=>absurd (cnil j hj) h0,aa:=λi j hi hj b h1 h2=>v5 i j hi hj b h1 h2,es:=λi hi=>by rw[show(d0.s i).es=[]from(v4 i hi).2.1];exact .refl _,w0:=LeX.of le3,wk:=λb hb=>hb,secs:=hsecs}
   refine bF l.length (by omega) (λi Q Z=>Q 2=.pointer (some ⟨W.next,0,none⟩)/\Q 9=mV (U.next+1)/\Q 86=rv/\Q 87=.int .i64 (l.length:Int)/\Q 88=.int .i64 (i:Int)/\Le U Z/\∃d:Md,d.M=U.next+1/\d.k=k/\d.many=l.length/\d.v=v/\d.W0=U/\Ld (λb=>b<W.next) (λb=>U.next<=b) Z d (l.take i) (1+(i:Int)))
    (λr=>r.1=.exit 5/\r.2.1 9=mV (U.next+1)/\Le U r.2.2/\∃d:Md,d.M=U.next+1/\d.k=k/\d.many=l.length/\d.v=v/\d.W0=U/\Ld (λb=>b<W.next) (λb=>U.next<=b) r.2.2 d l (1+(l.length:Int)))
    ⟨q2',q9,rfl,rfl,rfl,le3,d0,rfl,rfl,rfl,rfl,rfl,λi hi=>by rw[show(d0.s i).nx=1 from(v4 i hi).2.2.1];decide,by rw[List.take_zero];exact hp0⟩ ?_ ?_ ?_
   ·rintro i Q' Z hi ⟨w2,w9,w86,w87,w88,hZ,d,x1,x2,x3,x4,x5,x6⟩;have hti:(l.take i).length=i:=by rw[List.length_take];omega
    obtain⟨b,o,-,i1,i3,-⟩:=SeL.get hrow (List.getElem?_eq_getElem hi);refine a1x (K:=λb=>U.next<=b) (sv:=sv) (rv:=rv) (b:=W.next) (x:=l[i]) (n:=l.length) x6 (by omega) (by omega) (hok _ (List.getElem_mem hi)) ⟨_,by rw[hti];exact i1,i3 Z (u0.trans hZ)⟩ (λW' hW'=>by rw[x2];exact l0k W' (hZ.trans hW')) (by omega) w2 (by rw[x1];exact w9) w86 w87 (by rw[hti];exact w88) λQ2 Z2 d2 e2 e9 e86 e87 e88 y1 y2 y3 y4 y5 y6 y7=>?_
    refine .inl ⟨rfl,e2.trans w2,e9.trans w9,e86.trans w86,e87.trans w87,by show Q2 88=_;rw[e88,hti],⟨Nat.le_trans hZ.next y7.next,λc hc=>(y7.get c (Nat.lt_of_lt_of_le hc hZ.next) (by show¬U.next<=c;omega)).trans (hZ.get c hc)⟩,d2,y1.trans x1,y2.trans x2,y3.trans x3,y4.trans x4,y5.trans x5,?_⟩;rw[List.take_succ_eq_append_getElem hi,show((i+1:Nat):Int)=(i:Int)+1 by omega,<-Int.add_assoc];exact y6
   ·rintro Q' Z ⟨w2,w9,w86,w87,w88,hZ,d,x1,x2,x3,x4,x5,x6⟩;unfold nL;have t1:¬((l.length:Int)<(l.length:Int)):=by omega
    rw[List.take_length]at x6;simp only[SX,w87,w88,t1,decide_false,aB];exact⟨by simp,trivial,w9,hZ,d,x1,x2,x3,x4,x5,x6⟩
   ·rintro⟨q,Q',Z⟩ ⟨rfl,w9,hZ,d,x1,x2,x3,x4,x5,x6⟩;simp only at w9 x6 hZ;simp only[SX,w9,aB];refine⟨U.next+1,U,rfl,u0,u0.trans hZ,hZ,d,x1,x2,x3,x4,x5,λi hi=>?_,rfl,hok,?_⟩
    ·have:=x6.1 i (by rw[x2];exact hi);omega
    ·have:=x6.2;rw[x2]at this;exact this
  obtain⟨⟨r,W'⟩,h1,M,W0,h2,h3,h4,h45,h5⟩:=main;simp only at h2 h4 h45 h5;subst h2;exact⟨M,W',W0,k,by rw[nJ h1,dV rfl],h3,h4,hk,h45,h5⟩
theorem MapX.full{Y K:Nat->Prop}{V:AW}{M k many:Nat}{v:Ven}{W0:AW}{N:Int}{l:List SeT}(h:MapX Y K V M k many v W0 N l)(hw:Le W0 V):MapS K V M k many v W0 N l:=by obtain⟨d,a,b,c,e,rfl,f,i,j,p⟩:=h;exact⟨d,a,b,c,e,rfl,f,i,j,{p with w0:=LeX.of hw,secs:=λU hU=>p.secs U (LeX.of hU.full)}⟩
theorem X0(hs:SecsC W sv v.secs)(hv:v.secs.length<1000)(hrow:SeL W rv l)(hl:l.length<=10000):
 (gJ v l≠0->aL (.func (.func 17) #[] #[]) [sI v sv,rv] W=some (.tuple #[.pointer none,.int .i64 (gJ v l)],W))/\(gJ v l=0->∃M W',∃W0:AW,∃k:Nat,aL (.func (.func 17) #[] #[]) [sI v sv,rv] W=some (.tuple #[mV M,.int .i64 0],W')/\Le W W0/\Le W W'/\v.sh=(k:Int)/\MapS (λb=>W0.next<=b) W' M k l.length v W0 10001 l):=by
 obtain⟨h1,h2⟩:=Q9 hs hv hrow hl;refine⟨h1,λh=>?_⟩;obtain⟨M,W',W0,k,a,b,c,d,e,f⟩:=h2 h;exact⟨M,W',W0,k,a,b,c,d,f.full e⟩
end
end Go.Proofs.YtnigceddndemkaaGreatDoor.Ho
