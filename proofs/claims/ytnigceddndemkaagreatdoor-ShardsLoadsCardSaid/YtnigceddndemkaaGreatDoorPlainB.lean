/- Contracts of functions, and their laws. -/
import Derived.Test.YtnigceddndemkaaGreatDoorPlainA
import Derived.Test.YtnigceddndemkaaGreatDoorOpnA
import Derived.KernelRfl
set_option linter.unusedVariables false
set_option linter.unusedSimpArgs false
set_option linter.unusedSectionVars false
namespace Go.Proofs.YtnigceddndemkaaGreatDoor
open Go Go.Eng
set_option maxRecDepth 100000
structure Sec where
 name:List UInt8
 rows:List Int
 q:Int
structure Ven where
 sh:Int
 ttl:Int
 ses:Int
 secs:List Sec
def a3b(W:AW)(cs:List Value)(p:Nat)(s:Sec):Prop:=cs[p]? =some (.string (aO s.name))/\cs[p+2]? =some (.int .i64 s.q)/\∃rv,cs[p+1]? =some rv/\Ints W rv s.rows
abbrev Secs(W:AW)(v:Value)(l:List Sec):Prop:=Row W 3 (a3b W) v l
theorem Row.imp{α:Type}{W W':AW}{z:Nat}{f g:List Value->Nat->α->Prop}{v:Value}{l:List α}(h:Row W z f v l)(hle:Le W W')(hfg:∀cs p a,f cs p a->g cs p a):Row W' z g v l:=by
 obtain⟨a,c,rfl,k⟩:=h.mono hle;refine⟨a,c,rfl,?_⟩;rcases k with h|⟨b,o,cs,h1,h2,h3,h4⟩
 ·exact .inl h
 ·exact .inr ⟨b,o,cs,h1,h2,h3,λi hi=>hfg _ _ _ (h4 i hi)⟩
theorem Secs.mono{W W':AW}{v:Value}{l:List Sec}(h:Secs W v l)(hle:Le W W'):Secs W' v l:=
 Row.imp h hle λcs p s ⟨h1,h2,rv,h3,h4⟩=>⟨h1,h2,rv,h3,h4.mono hle⟩
theorem a7x{cs:List Value}{p:Nat}{a b c:Value}(h0:cs[p]? =some a)(h1:cs[p+1]? =some b)(h2:cs[p+2]? =some c):(cs.drop p).take 3=[a,b,c]:=by obtain⟨i0,e0⟩:=List.getElem?_eq_some_iff.1 h0;obtain⟨i1,e1⟩:=List.getElem?_eq_some_iff.1 h1;obtain⟨i2,e2⟩:=List.getElem?_eq_some_iff.1 h2;rw[List.drop_eq_getElem_cons i0,List.drop_eq_getElem_cons i1,List.drop_eq_getElem_cons i2,e0,e1,e2];rfl
abbrev ZK(s:Sec)(rv:Value):Value:=.agg #[.string (aO s.name),rv,.int .i64 s.q]
theorem Secs.get{W:AW}{v:Value}{l:List Sec}(h:Secs W v l){i:Nat}(hi:i<l.length):∃b o rv,(∀W' k,gH 3 v (.int k (i:Int)) W'=some (.pointer (some ⟨b,o,none⟩),W'))/\Ints W rv l[i].rows/\
 (∀W',Le W W'->bH 3 (.pointer (some ⟨b,o,none⟩)) W'=some (ZK l[i] rv,W'))/\(∀W',Le W W'->aL (.pointer (some ⟨b,o,none⟩)) W'=some (.string (aO l[i].name),W'))/\
 (∀W',Le W W'->aL (.pointer (some ⟨b,o+1,none⟩)) W'=some (rv,W'))/\(∀W',Le W W'->aL (.pointer (some ⟨b,o+2,none⟩)) W'=some (.int .i64 l[i].q,W')):=by
 obtain⟨b,o,cs,h1,h2,h3,h4,h5,rv,h6,h7⟩:=h.elem hi;refine⟨b,o,rv,h1,h7,λW' hle=>?_,λW' hle=>bY (by rw[hle.cellsAt h2];exact h3) h4,λW' hle=>bY (by rw[hle.cellsAt h2];exact h3) h6,λW' hle=>bY (by rw[hle.cellsAt h2];exact h3) h5⟩;rw[F5,hle.cellsAt h2,h3];simp only[Option.bind_some,a7x h4 h6 h5,List.length_cons,List.length_nil,if_true]
def BK(s:Sec)(before:List Sec):Int:=
 if vC s.name=false then 6 else if(before.any λx=>x.name==s.name)=true then 8 else if s.rows.length=0 then 6 else if 16<s.rows.length then 3 else
 if(s.rows.any λn=>lN n 1 64)=true then 7 else if lN s.q 0 64=true then 7 else 0
def qA(l:List Sec):Nat->Option (Nat×Int)
 |0=>none
 |k+1=>match qA l k with
  |some r=>some r
  |none=>match l[k]? with
   |some s=>if BK s (l.take k)=0 then none else some (k,BK s (l.take k))
   |none=>none
theorem CX{l:List Sec}{k n:Nat}{r:Nat×Int}(h:qA l k=some r)(hn:k<=n):qA l n=some r:=by
 induction n with
 |zero=>obtain rfl:k=0:=by omega
        exact h
 |succ n ih=>
  by_cases hk:k=n+1
  ·rw[<-hk];exact h
  ·show(match qA l n with|some r=>some r|none=>_)=_;rw[ih (by omega)]
def lG(l:List Int):Int:=l.foldr (· + ·) 0
theorem a7n(l:List Int)(n:Int):lG (l++[n])=lG l+n:=by
 induction l with
 |nil=>simp[lG]
 |cons a l ih=>simp only[lG,List.cons_append,List.foldr_cons]at ih|-;omega
def dB(l:List Sec):Int:=lG (l.map λs=>lG s.rows)
def FL(v:Ven):Bool:=lN v.sh 1 16||lN v.ttl 1 1000000000||lN v.ses 1 1000000000
def lZ(v:Ven):Int×Int:=
 if FL v=true then(-1,7)else if v.secs.length=0 then(-1,6)else if 8<v.secs.length then(-1,3)else
 match qA v.secs v.secs.length with
 |some (i,e)=>((i:Int),e)
 |none=>if 4096<dB v.secs then(-1,3)else(0,0)
abbrev kN(v:Ven)(sv:Value):Value:=.agg #[.int .i64 v.sh,.int .i64 v.ttl,.int .i64 v.ses,sv]
def SecsC(W:AW)(sv:Value)(l:List Sec):Prop:=Secs W sv l/\(∃a c,sv=.slice a l.length c/\((l.length<=c/\c<dI)\/c=dI+3)/\(l≠[]->∃b o,a=some ⟨b,o,none⟩))
theorem SecsC.mono{W W':AW}{v:Value}{l:List Sec}(h:SecsC W v l)(hle:Le W W'):SecsC W' v l:=⟨h.1.mono hle,h.2⟩
theorem Row.take{α:Type}{W:AW}{z:Nat}{f:List Value->Nat->α->Prop}{b o c:Nat}{l:List α}(h:Row W z f (.slice (some ⟨b,o,none⟩) l.length c) l){k:Nat}(hk:k<=l.length)(h0:l≠[]):Row W z f (.slice (some ⟨b,o,none⟩) k c) (l.take k):=by
 obtain⟨a,c',he,h⟩:=h;injection he with e1 e2 e3;subst e1 e3;refine⟨_,c,by rw[List.length_take,Nat.min_eq_left hk],?_⟩;rcases h with h|⟨b',o',cs,h1,h2,h3,h4⟩
 ·exact absurd h h0
 ·refine .inr ⟨b',o',cs,h1,h2,h3,λi hi=>?_⟩;rw[List.getElem_take];exact h4 i (by rw[List.length_take]at hi;omega)
theorem aCF:pO Tryz.prog 22=some 3:=by kernel_rfl
theorem SecsC.pre{W:AW}{sv:Value}{l:List Sec}(h:SecsC W sv l){k:Nat}(hk:k<l.length):∃u,(∀W',bU Tryz.prog 22 sv none (some (.int .i64 (k:Int))) none W'=some (u,W'))/\Secs W u (l.take k):=by
 obtain⟨h1,a,c,rfl,h2,h4⟩:=h;have h0:l≠[]:=by intro e;rw[e]at hk;simp at hk
 obtain⟨b,o,rfl⟩:=h4 h0;rcases h2 with⟨h2,h3⟩|rfl
 ·exact⟨_,λW'=>xB aCF (by omega) h3,Row.take h1 (by omega) h0⟩
 ·exact⟨_,λW'=>uO aCF (by omega) (Nat.le_of_lt hk),Row.take h1 (by omega) h0⟩
theorem a9x(W:AW):aW Tryz.prog 130 W=some (.pointer (some ⟨W.next,0,none⟩),W.add (.cells [.string (aO []),.slice none 0 0,.int .i64 0])):=Eq.trans (by kernel_rfl) rfl
def qH{α:Type}(p:α->Bool)(l:List α):Int:=match l.findIdx? p with
 |some i=>(i:Int)
 |none=> -1
theorem UL{α:Type}{p:α->Bool}{l:List α}{k:Nat}(hk:k<l.length)(h1:p l[k]=true)(h2:(l.take k).any p=false):qH p l=(k:Int):=by
 have:l.findIdx? p=some k:=by rw[List.findIdx?_eq_some_iff_getElem];refine⟨hk,h1,λj hj=>?_⟩;rw[List.any_eq_false]at h2;exact h2 _ (by rw[List.mem_take_iff_getElem];exact⟨j,by omega,rfl⟩)
 unfold qH;rw[this]
theorem VB{α:Type}{p:α->Bool}{l:List α}(h:l.any p=false):qH p l= -1:=by
 have:l.findIdx? p=none:=by rw[List.findIdx?_eq_none_iff];intro x hx;rw[List.any_eq_false]at h;simpa using h x hx
 unfold qH;rw[this]
theorem FP{α:Type}{p:α->Bool}{l:List α}{k:Nat}(hk:k<l.length)(h1:p l[k]=false)(h2:(l.take k).any p=false):(l.take (k+1)).any p=false:=by rw[<-List.take_append_getElem hk,List.any_append,h2];simpa using h1
theorem SK{α:Type}{p:α->Bool}{l:List α}{k:Nat}(hk:k<l.length)(h1:p l[k]=true):l.any p=true:=by rw[List.any_eq_true];exact⟨_,List.getElem_mem hk,h1⟩
theorem a0Z{α:Type}{p:α->Bool}{l:List α}:decide (0<=qH p l)=l.any p:=by
 unfold qH;cases h:l.findIdx? p with
 |none=>
  rw[List.findIdx?_eq_none_iff]at h;have:l.any p=false:=by rw[List.any_eq_false];intro x hx;simpa using h x hx
  rw[this];rfl
 |some i=>rw[List.findIdx?_eq_some_iff_getElem]at h;obtain⟨h1,h2,h3⟩:=h;rw[SK h1 h2];simp
theorem a4I{f v:Value}{p:Sec->Bool}{l:List Sec}{W:AW}(h:Secs W v l)(hl:l.length<1000)(hp:∀s rv,aK f [ZK s rv] W=some (.bool (p s),W)):aK (.func (.func 272) #[] #[]) [v,f] W=some (.int .i64 (qH p l),W):=by
 refine aN rfl ?_ iZ;unfold eQ;simp only[SX,h.len xN];refine bB l.length (by omega) (λk R W'=>W'=W/\R 0=v/\R 1=f/\R 7=.int .i64 (l.length:Int)/\R 8=.int .i64 (k:Int)/\(l.take k).any p=false)
  (λr=>r.2.2=W/\((r.1=.exit 0/\qH p l= -1)\/(r.1=.ret/\r.2.1 4=.int .i64 (qH p l)))) ⟨rfl,rfl,rfl,rfl,rfl,rfl⟩ ?_ ?_ ?_
 ·rintro k R W' hk ⟨rfl,h0,h1,h7,h8,ha⟩;unfold cK;obtain⟨b,o,rv,g1,g2,g3,_⟩:=h.get hk;have e1:((k:Int)<(l.length:Int)):=by omega
  have e2:(k:Int)+1=((k+1:Nat):Int):=by omega
  have ea:=aS (P:=Tryz.prog) (W:=W') (t:=3) (c:=false) (d:=true) (a:=(k:Int)) (b:=1) (by omega) (by omega);simp only[SX,h0,h1,h7,h8,e1,g1,g3 _ (.refl _),hp];cases hx:p l[k]
  ·simp only[SX,ea,aB];exact .inl ⟨trivial,trivial,h0,h1,h7,by rw[<-e2];rfl,FP hk hx ha⟩
  ·simp only[SX,aB];exact .inr ⟨by simp,trivial,.inr ⟨trivial,by rw[UL hk hx ha];rfl⟩⟩
 ·rintro R W' ⟨rfl,h0,h1,h7,h8,ha⟩;unfold cK;have e1:¬((l.length:Int)<(l.length:Int)):=by omega
  rw[List.take_length]at ha;simp only[SX,h7,h8,e1,aB];exact⟨by simp,trivial,.inl ⟨trivial,VB ha⟩⟩
 ·rintro⟨x,R,W'⟩ ⟨hW,hq⟩;simp only at hW hq;subst hW;rcases hq with⟨rfl,hq⟩|⟨rfl,h4⟩
  ·simp only[SX,aB,hq];exact⟨trivial,.refl _⟩
  ·simp only[SX,aB,h4];exact⟨trivial,.refl _⟩
theorem a4C{f v:Value}{p:Int->Bool}{l:List Int}{W:AW}(h:Ints W v l)(hl:l.length<1000)(hp:∀n,aK f [.int .i64 n] W=some (.bool (p n),W)):aK (.func (.func 222) #[] #[]) [v,f] W=some (.int .i64 (qH p l),W):=by
 refine aN rfl ?_ uZ;unfold oQ;simp only[SX,h.len D9];refine bB l.length (by omega) (λk R W'=>W'=W/\R 0=v/\R 1=f/\R 7=.int .i64 (l.length:Int)/\R 8=.int .i64 (k:Int)/\(l.take k).any p=false)
  (λr=>r.2.2=W/\((r.1=.exit 0/\qH p l= -1)\/(r.1=.ret/\r.2.1 4=.int .i64 (qH p l)))) ⟨rfl,rfl,rfl,rfl,rfl,rfl⟩ ?_ ?_ ?_
 ·rintro k R W' hk ⟨rfl,h0,h1,h7,h8,ha⟩;unfold iL;obtain⟨q,g1,g2⟩:=h.get hk;have e1:((k:Int)<(l.length:Int)):=by omega
  have e2:(k:Int)+1=((k+1:Nat):Int):=by omega
  have ea:=aS (P:=Tryz.prog) (W:=W') (t:=3) (c:=false) (d:=true) (a:=(k:Int)) (b:=1) (by omega) (by omega);simp only[SX,h0,h1,h7,h8,e1,g1,g2 _ (.refl _),hp];cases hx:p l[k]
  ·simp only[SX,ea,aB];exact .inl ⟨trivial,trivial,h0,h1,h7,by rw[<-e2];rfl,FP hk hx ha⟩
  ·simp only[SX,aB];exact .inr ⟨by simp,trivial,.inr ⟨trivial,by rw[UL hk hx ha];rfl⟩⟩
 ·rintro R W' ⟨rfl,h0,h1,h7,h8,ha⟩;unfold iL;have e1:¬((l.length:Int)<(l.length:Int)):=by omega
  rw[List.take_length]at ha;simp only[SX,h7,h8,e1,aB];exact⟨by simp,trivial,.inl ⟨trivial,VB ha⟩⟩
 ·rintro⟨x,R,W'⟩ ⟨hW,hq⟩;simp only at hW hq;subst hW;rcases hq with⟨rfl,hq⟩|⟨rfl,h4⟩
  ·simp only[SX,aB,hq];exact⟨trivial,.refl _⟩
  ·simp only[SX,aB,h4];exact⟨trivial,.refl _⟩
theorem a4L{f v:Value}{p:Sec->Bool}{l:List Sec}{W:AW}(h:Secs W v l)(hl:l.length<1000)(hp:∀s rv,aK f [ZK s rv] W=some (.bool (p s),W)):aK (.func (.func 234) #[] #[]) [v,f] W=some (.bool (l.any p),W):=by refine aN rfl ?_ iO;unfold dX;simp only[SX,a4I h hl hp,a0Z,aB];exact⟨trivial,.refl _⟩
theorem a4w{f v:Value}{p:Int->Bool}{l:List Int}{W:AW}(h:Ints W v l)(hl:l.length<1000)(hp:∀n,aK f [.int .i64 n] W=some (.bool (p n),W)):aK (.func (.func 169) #[] #[]) [v,f] W=some (.bool (l.any p),W):=by refine aN rfl ?_ rT;unfold lJ;simp only[SX,a4C h hl hp,a0Z,aB];exact⟨trivial,.refl _⟩
theorem a4i(n:Int)(W:AW):aK (.func (.func 236) #[] #[]) [.int .i64 n] W=some (.bool (lN n 1 64),W):=by refine aN rfl ?_ KL;unfold DV;simp only[SX,qO,aB];exact⟨trivial,.refl _⟩
theorem aAC(a b c:Value)(W:AW):bZ (.agg #[a,b,c]) W=some (.pointer (some ⟨W.next,0,none⟩),W.add (.cells [a,b,c])):=fZ _
theorem a1g{c:Nat}{m:List UInt8}{W:AW}(hc:∀W',Le W W'->aL (.pointer (some ⟨c,0,none⟩)) W'=some (.string (aO m),W'))(s:Sec)(rv:Value):
 aK (.func (.func 235) #[] #[.pointer (some ⟨c,0,none⟩)]) [ZK s rv] W=some (.bool (s.name==m),W):=by
 refine aN rfl ?_ KY;unfold DX;have h0:=hc _ ((Le.refl W).add (.cells [.string (aO s.name),rv,.int .i64 s.q]));have h1:aL (.pointer (some ⟨W.next,0,none⟩)) (W.add (.cells [.string (aO s.name),rv,.int .i64 s.q]))=some (.string (aO s.name),W.add (.cells [.string (aO s.name),rv,.int .i64 s.q])):=bY bR rfl;simp only[SX,aAC,h0,h1,Nat.zero_add,vH,aB];exact⟨trivial,(Le.refl _).add _⟩
theorem a5a{s:Sec}{rv bv:Value}{before:List Sec}{W:AW}(hs:Ints W rv s.rows)(hb:Secs W bv before)(hl:before.length<1000):aK (.func (.func 189) #[] #[]) [ZK s rv,bv] W=some (.int .i64 (BK s before),W):=by
 refine aN rfl ?_ SH;unfold LZ;have hle:Le W (W.add (.cells [.string (aO s.name),rv,.int .i64 s.q])):=(Le.refl W).add _;simp only[SX,aAC,Nat.zero_add];generalize hW1:W.add (.cells [.string (aO s.name),rv,.int .i64 s.q])=W1 at *;have hcs:cellsAt W1 W.next=some [.string (aO s.name),rv,.int .i64 s.q]:=by rw[<-hW1];exact bR
 have hn:W.next<W1.next:=by rw[<-hW1,AW.add_next];omega
 have h0:∀W',Le W1 W'->aL (.pointer (some ⟨W.next,0,none⟩)) W'=some (.string (aO s.name),W'):=λW' k=>bY (by rw[k.cellsAt hn];exact hcs) rfl
 have h1:aL (.pointer (some ⟨W.next,1,none⟩)) W1=some (rv,W1):=bY hcs rfl;have h2:aL (.pointer (some ⟨W.next,2,none⟩)) W1=some (.int .i64 s.q,W1):=bY hcs rfl;have hf:=a4L (W:=W1) (hb.mono hle) hl (p:=λx=>x.name==s.name) (λx rv=>a1g h0 x rv);unfold BK;cases n1:vC s.name
 ·simp only[SX,h0 _ (.refl _),yN,n1,if_true,aB];exact⟨trivial,hle⟩
 ·cases n2:before.any λx=>x.name==s.name
  ·by_cases n3:s.rows.length=0
   ·have e:((s.rows.length:Int)=0):=by omega
    simp only[SX,h0 _ (.refl _),yN,n1,hf,n2,h1,(hs.mono hle).len D9,e,if_pos n3,if_true,if_false,Bool.true_eq_false,Bool.false_eq_true,aB];exact⟨trivial,hle⟩
   ·have e:¬((s.rows.length:Int)=0):=by omega
    by_cases n4:16<s.rows.length
    ·have e2:((16:Int)<(s.rows.length:Int)):=by omega
     simp only[SX,h0 _ (.refl _),yN,n1,hf,n2,h1,(hs.mono hle).len D9,e,n3,e2,n4,if_true,if_false,Bool.true_eq_false,Bool.false_eq_true,aB];exact⟨trivial,hle⟩
    ·have e2:¬((16:Int)<(s.rows.length:Int)):=by omega
     have hg:=a4w (W:=W1) (hs.mono hle) (by omega) (p:=λn=>lN n 1 64) (λn=>a4i n W1);cases n5:s.rows.any λn=>lN n 1 64
     ·cases n6:lN s.q 0 64
      ·simp only[SX,h0 _ (.refl _),yN,n1,hf,n2,h1,(hs.mono hle).len D9,e,n3,e2,n4,hg,n5,h2,qO,n6,if_true,if_false,Bool.true_eq_false,Bool.false_eq_true,aB];exact⟨trivial,hle⟩
      ·simp only[SX,h0 _ (.refl _),yN,n1,hf,n2,h1,(hs.mono hle).len D9,e,n3,e2,n4,hg,n5,h2,qO,n6,if_true,if_false,Bool.true_eq_false,Bool.false_eq_true,aB];exact⟨trivial,hle⟩
     ·simp only[SX,h0 _ (.refl _),yN,n1,hf,n2,h1,(hs.mono hle).len D9,e,n3,e2,n4,hg,n5,if_true,if_false,Bool.true_eq_false,Bool.false_eq_true,aB];exact⟨trivial,hle⟩
  ·simp only[SX,h0 _ (.refl _),yN,n1,hf,n2,if_true,if_false,Bool.true_eq_false,Bool.false_eq_true,aB];exact⟨trivial,hle⟩
theorem LP(a b c d:Value)(W:AW):bZ (.agg #[a,b,c,d]) W=some (.pointer (some ⟨W.next,0,none⟩),W.add (.cells [a,b,c,d])):=fZ _
theorem mI(W:AW)(cs ds:List Value):(W.add (.cells cs)).put W.next (.cells ds)=W.add (.cells ds):=WX W _ _
theorem aBh{b:Nat}{a c d x y z:Value}{W:AW}(h:rwCells W b=some [x,y,z])(h1:Eng.one a=true)(h2:Eng.one c=true)(h3:Eng.one d=true):cB 3 (.pointer (some ⟨b,0,none⟩)) (.agg #[a,c,d]) W=some (undef,W.put b (.cells [a,c,d])):=by
 rw[IZ,h];have e:(#[a,c,d]:Array Value).toList.all Eng.one=true:=by simp[h1,h2,h3]
 simp only[Option.bind_some,e,and_true];rfl
theorem Row.one{α:Type}{W:AW}{z:Nat}{f:List Value->Nat->α->Prop}{v:Value}{l:List α}(h:Row W z f v l):Eng.one v=true:=by obtain⟨a,c,rfl,_⟩:=h;rfl
theorem a2X{v:Ven}{sv:Value}{W:AW}(hs:Secs W sv v.secs)(hv:v.secs.length<1000){i:Nat}(hi:i<v.secs.length)(hr:v.secs[i].rows.length<1000):aK (.func (.func 164) #[] #[]) [kN v sv,.int .i64 (i:Int)] W=some (.int .i64 (BK v.secs[i] (v.secs.take i)),W):=by
 refine aN rfl ?_ JU;unfold DU;have hle:Le W (W.add (.cells [.int .i64 v.sh,.int .i64 v.ttl,.int .i64 v.ses,sv])):=(Le.refl W).add _;obtain⟨b,o,rv,g1,g2,g3,_⟩:=hs.get hi;have c3:aL (.pointer (some ⟨W.next,3,none⟩)) (W.add (.cells [.int .i64 v.sh,.int .i64 v.ttl,.int .i64 v.ses,sv]))=some (sv,W.add (.cells [.int .i64 v.sh,.int .i64 v.ttl,.int .i64 v.ses,sv])):=bY bR rfl;simp only[SX,LP,Nat.zero_add,c3,g1,g3 _ hle,a9x,aBh eD (xJ _) (Row.one g2) (vI _ _),mI];generalize hW1:W.add (.cells [.int .i64 v.sh,.int .i64 v.ttl,.int .i64 v.ses,sv])=W1 at *;have hle2:Le W (W1.add (.cells [.string (aO v.secs[i].name),rv,.int .i64 v.secs[i].q])):=hle.add _;have hb1:cellsAt (W1.add (.cells [.string (aO v.secs[i].name),rv,.int .i64 v.secs[i].q])) W.next=some [.int .i64 v.sh,.int .i64 v.ttl,.int .i64 v.ses,sv]:=by rw[LH _ (by rw[<-hW1,AW.add_next];omega),<-hW1];exact bR
 have hb2:cellsAt (W1.add (.cells [.string (aO v.secs[i].name),rv,.int .i64 v.secs[i].q])) W1.next=some [.string (aO v.secs[i].name),rv,.int .i64 v.secs[i].q]:=bR;generalize hW2:W1.add (.cells [.string (aO v.secs[i].name),rv,.int .i64 v.secs[i].q])=W2 at *;have d0:aL (.pointer (some ⟨W1.next,0,none⟩)) W2=some (.string (aO v.secs[i].name),W2):=bY hb2 rfl;have d1:aL (.pointer (some ⟨W1.next,1,none⟩)) W2=some (rv,W2):=bY hb2 rfl;have d2:aL (.pointer (some ⟨W1.next,2,none⟩)) W2=some (.int .i64 v.secs[i].q,W2):=bY hb2 rfl;have c3:aL (.pointer (some ⟨W.next,3,none⟩)) W2=some (sv,W2):=bY hb1 rfl;have hlr:=(g2.mono hle2).len (P:=Tryz.prog) D9;simp only[SX,d0,a2i];generalize hs':v.secs[i]=s at *;unfold BK;cases n1:vC s.name
 ·simp only[SX,if_true,aB];exact⟨trivial,hle2⟩
 ·simp only[SX];refine bB i (by omega) (λk R W'=>W'=W2/\R 1=.int .i64 (i:Int)/\R 2=.pointer (some ⟨W.next,0,none⟩)/\R 5=.pointer (some ⟨W1.next,0,none⟩)/\R 6=.int .i64 (k:Int)/\((v.secs.take i).take k).any (λx=>x.name==s.name)=false)
   (λr=>r.2.2=W2/\((r.1=.exit 0/\r.2.1 5=.pointer (some ⟨W1.next,0,none⟩)/\(v.secs.take i).any (λx=>x.name==s.name)=false)\/(r.1=.ret/\r.2.1 4=.int .i64 8/\(v.secs.take i).any (λx=>x.name==s.name)=true))) ⟨rfl,rfl,rfl,rfl,rfl,rfl⟩ ?_ ?_ ?_
  ·rintro k R W' hk ⟨rfl,h1,h2,h5,h6,ha⟩;unfold qC;have hk2:k<v.secs.length:=by omega
   have hk3:k<(v.secs.take i).length:=by rw[List.length_take];omega
   have hke:(v.secs.take i)[k]=v.secs[k]:=List.getElem_take;obtain⟨b',o',rv',f1,f2,f3,f4,_⟩:=hs.get hk2;have e1:((k:Int)<(i:Int)):=by omega
   have e2:(k:Int)+1=((k+1:Nat):Int):=by omega
   have ea:=aS (P:=Tryz.prog) (W:=W') (t:=3) (c:=false) (d:=true) (a:=(k:Int)) (b:=1) (by omega) (by omega);simp only[SX,h1,h2,h5,h6,e1,Nat.zero_add,c3,f1,Nat.add_zero,f4 _ hle2,d0,vH];cases hx:v.secs[k].name==s.name
   ·simp only[SX,ea,aB];exact .inl ⟨trivial,trivial,h1,h2,h5,by rw[<-e2];rfl,FP hk3 (by rw[hke];exact hx) ha⟩
   ·simp only[SX,aB];exact .inr ⟨by simp,trivial,.inr ⟨trivial,rfl,SK hk3 (by rw[hke];exact hx)⟩⟩
  ·rintro R W' ⟨rfl,h1,h2,h5,h6,ha⟩;unfold qC;have e1:¬((i:Int)<(i:Int)):=by omega
   rw[List.take_of_length_le (by rw[List.length_take];omega)]at ha;simp only[SX,h1,h6,e1,aB];exact⟨by simp,trivial,.inl ⟨trivial,h5,ha⟩⟩
  ·rintro⟨x,R,W'⟩ ⟨hW,hq⟩;simp only at hW hq;subst hW;rcases hq with⟨rfl,h5,hq⟩|⟨rfl,h4,hq⟩
   ·by_cases n3:s.rows.length=0
    ·have e:((s.rows.length:Int)=0):=by omega
     simp only[SX,h5,Nat.zero_add,d1,hlr,e,hq,if_pos n3,if_false,Bool.true_eq_false,Bool.false_eq_true,aB];exact⟨trivial,hle2⟩
    ·have e:¬((s.rows.length:Int)=0):=by omega
     by_cases n4:16<s.rows.length
     ·have e2:((16:Int)<(s.rows.length:Int)):=by omega
      simp only[SX,h5,Nat.zero_add,d1,hlr,e,e2,hq,if_neg n3,if_pos n4,if_false,Bool.true_eq_false,Bool.false_eq_true,aB];exact⟨trivial,hle2⟩
     ·have e2:¬((16:Int)<(s.rows.length:Int)):=by omega
      simp only[SX,h5,Nat.zero_add,d1,hlr,e,e2,hq,if_neg n3,if_neg n4,if_false,Bool.true_eq_false,Bool.false_eq_true];refine bB s.rows.length (by omega) (λk R W3=>W3=W'/\R 5=.pointer (some ⟨W1.next,0,none⟩)/\R 7=.int .i64 (k:Int)/\(s.rows.take k).any (λn=>lN n 1 64)=false)
       (λr=>r.2.2=W'/\((r.1=.exit 2/\r.2.1 5=.pointer (some ⟨W1.next,0,none⟩)/\s.rows.any (λn=>lN n 1 64)=false)\/(r.1=.ret/\r.2.1 4=.int .i64 7/\s.rows.any (λn=>lN n 1 64)=true))) ⟨rfl,h5,rfl,rfl⟩ ?_ ?_ ?_
      ·rintro k R W3 hk ⟨rfl,h5,h7,ha⟩;unfold qB;obtain⟨p,p1,p2⟩:=g2.get hk;have e1:((k:Int)<(s.rows.length:Int)):=by omega
       have e2:(k:Int)+1=((k+1:Nat):Int):=by omega
       have ea:=aS (P:=Tryz.prog) (W:=W3) (t:=3) (c:=false) (d:=true) (a:=(k:Int)) (b:=1) (by omega) (by omega);simp only[SX,h5,h7,Nat.zero_add,d1,hlr,e1,p1,p2 _ hle2,wT,IC];cases hx:lN s.rows[k] 1 64
       ·simp only[SX,ea,aB];exact .inl ⟨trivial,trivial,h5,by rw[<-e2];rfl,FP hk hx ha⟩
       ·simp only[SX,aB];exact .inr ⟨by simp,trivial,.inr ⟨trivial,rfl,SK hk hx⟩⟩
      ·rintro R W3 ⟨rfl,h5,h7,ha⟩;unfold qB;have e1:¬((s.rows.length:Int)<(s.rows.length:Int)):=by omega
       rw[List.take_length]at ha;simp only[SX,h5,h7,Nat.zero_add,d1,hlr,e1,aB];exact⟨by simp,trivial,.inl ⟨trivial,h5,ha⟩⟩
      ·rintro⟨x,R,W3⟩ ⟨hW,hq⟩;simp only at hW hq;subst hW;rcases hq with⟨rfl,h5,hq⟩|⟨rfl,h4,hq⟩
       ·simp only[SX,h5,hq,Nat.zero_add,d2,wT,IC,Bool.false_eq_true,if_false];cases n6:lN s.q 0 64
        ·simp only[SX,Bool.false_eq_true,if_false,aB];exact⟨trivial,hle2⟩
        ·simp only[SX,if_true,aB];exact⟨trivial,hle2⟩
       ·simp only[SX,hq,h4,if_true,aB];exact⟨trivial,hle2⟩
   ·simp only[SX,h4,hq,if_true,if_false,Bool.true_eq_false,aB];exact⟨trivial,hle2⟩
theorem KS{s:Sec}{b:List Sec}(h:BK s b=0):vC s.name=true/\(b.any λx=>x.name==s.name)=false/\s.rows.length≠0/\s.rows.length<=16/\(∀n∈s.rows,1<=n/\n<=64)/\0<=s.q/\s.q<=64:=by
 unfold BK at h;split at h
 ·exact absurd h (by decide)
 rename_i h1;split at h
 ·exact absurd h (by decide)
 rename_i h2;split at h
 ·exact absurd h (by decide)
 rename_i h3;split at h
 ·exact absurd h (by decide)
 rename_i h4;split at h
 ·exact absurd h (by decide)
 rename_i h5;split at h
 ·exact absurd h (by decide)
 rename_i h6;refine⟨by simpa using h1,by simpa using h2,h3,by omega,?_,?_⟩
 ·intro n hn;have:lN n 1 64=false:=by
   cases ho:lN n 1 64
   ·rfl
   ·exact absurd (List.any_eq_true.2 ⟨n,hn,ho⟩) h5
  unfold lN at this;simp only[Bool.or_eq_false_iff,decide_eq_false_iff_not]at this;omega
 ·unfold lN at h6;simp only[Bool.or_eq_true,decide_eq_true_iff]at h6;omega
theorem tL{l:List Int}{k:Nat}(hk:k<l.length):lG (l.take (k+1))=lG (l.take k)+l[k]:=by rw[<-List.take_append_getElem hk,a7n]
theorem uE{l:List Sec}{k:Nat}(hk:k<l.length):dB (l.take (k+1))=dB (l.take k)+lG l[k].rows:=by unfold dB;rw[List.map_take,List.map_take,tL (by rw[List.length_map];exact hk),List.getElem_map]
theorem uB{l:List Int}(h:∀n∈l,1<=n/\n<=64)(k:Nat):(0<=lG (l.take k)/\lG (l.take k)<=64*k)/\(min k l.length:Int)<=lG (l.take k):=by
 induction k with
 |zero=>simp[lG];omega
 |succ k ih=>
  by_cases hk:k<l.length
  ·rw[tL hk];have:=h _ (List.getElem_mem hk);omega
  ·rw[List.take_of_length_le (by omega)]at ih|-;omega
theorem KH{l:List Sec}{k:Nat}(h:qA l k=none)(hk:k<l.length):qA l (k+1)=if BK l[k] (l.take k)=0 then none else some (k,BK l[k] (l.take k)):=by show(match qA l k with|some r=>some r|none=>match l[k]? with|some s=>if BK s (l.take k)=0 then none else some (k,BK s (l.take k))|none=>none)=_;rw[h,List.getElem?_eq_getElem hk]
theorem VU{l:List Sec}{k:Nat}(h:qA l k=none):∀i (hi:i<k) (hl:i<l.length),BK l[i] (l.take i)=0:=by
 induction k with
 |zero=>intro i hi;omega
 |succ k ih=>
  have h1:qA l k=none:=by
   cases hb:qA l k with
   |none=>rfl
   |some r=>rw[CX hb (Nat.le_succ k)]at h;cases h
  intro i hi hl;by_cases e:i=k
  ·subst e;rw[KH h1 hl]at h;split at h
   ·assumption
   ·cases h
  ·exact ih h1 i (by omega) hl
theorem ZF{l:List Sec}{k:Nat}(h:qA l k=none)(hk:k<=l.length):0<=dB (l.take k)/\dB (l.take k)<=1024*k:=by
 induction k with
 |zero=>simp[dB,lG]
 |succ k ih=>
  have h1:qA l k=none:=by
   cases hb:qA l k with
   |none=>rfl
   |some r=>rw[CX hb (Nat.le_succ k)]at h;cases h
  have h2:=ih h1 (by omega);have hk':k<l.length:=by omega
  obtain⟨_,_,_,h3,h4,_⟩:=KS (VU h k (by omega) hk');rw[uE hk'];have h5:=(uB h4 l[k].rows.length).1;rw[List.take_length]at h5;omega
theorem M6{v:Ven}{sv:Value}{W:AW}(hs:SecsC W sv v.secs)(hv:v.secs.length<1000):aK (.func (.func 129) #[] #[]) [kN v sv] W=some (.tuple #[.int .i64 (lZ v).1,.int .i64 (lZ v).2],W):=by
 refine aN rfl ?_ SF;unfold LY;have hle:Le W (W.add (.cells [.int .i64 v.sh,.int .i64 v.ttl,.int .i64 v.ses,sv])):=(Le.refl W).add _;have hc:cellsAt (W.add (.cells [.int .i64 v.sh,.int .i64 v.ttl,.int .i64 v.ses,sv])) W.next=some [.int .i64 v.sh,.int .i64 v.ttl,.int .i64 v.ses,sv]:=bR;have hn:W.next<(W.add (.cells [.int .i64 v.sh,.int .i64 v.ttl,.int .i64 v.ses,sv])).next:=by rw[AW.add_next];omega
 simp only[SX,LP,Nat.zero_add];generalize hW1:W.add (.cells [.int .i64 v.sh,.int .i64 v.ttl,.int .i64 v.ses,sv])=W1 at *;have c0:aL (.pointer (some ⟨W.next,0,none⟩)) W1=some (.int .i64 v.sh,W1):=bY hc rfl;have c1:aL (.pointer (some ⟨W.next,1,none⟩)) W1=some (.int .i64 v.ttl,W1):=bY hc rfl;have c2:aL (.pointer (some ⟨W.next,2,none⟩)) W1=some (.int .i64 v.ses,W1):=bY hc rfl;have c3:∀W',Le W1 W'->aL (.pointer (some ⟨W.next,3,none⟩)) W'=some (sv,W'):=λW' k=>bY (by rw[k.cellsAt hn];exact hc) rfl
 simp only[SX,c0,qO];unfold lZ FL;cases n1:lN v.sh 1 16;case true=>simp only[SX,Bool.true_or,if_true,aB];exact⟨trivial,hle⟩
 simp only[SX,Nat.zero_add,c1,yQ];cases n2:lN v.ttl 1 1000000000;case true=>simp only[SX,Bool.true_or,Bool.or_true,if_true,aB];exact⟨trivial,hle⟩
 simp only[SX,Nat.zero_add,c2,yQ];cases n3:lN v.ses 1 1000000000;case true=>simp only[SX,Bool.true_or,Bool.or_true,if_true,aB];exact⟨trivial,hle⟩
 simp only[SX,Nat.zero_add,c3 _ (.refl _),hs.1.len xN,Bool.or_self,Bool.false_eq_true,if_false];by_cases n4:v.secs.length=0;case pos=>
  have e:((v.secs.length:Int)=0):=by omega
  simp only[SX,e,if_pos n4,aB];exact⟨trivial,hle⟩
 have e4:¬((v.secs.length:Int)=0):=by omega
 simp only[SX,e4,if_neg n4,Nat.zero_add,c3 _ (.refl _),hs.1.len xN];by_cases n5:8<v.secs.length;case pos=>
  have e:((8:Int)<(v.secs.length:Int)):=by omega
  simp only[SX,e,if_pos n5,aB];exact⟨trivial,hle⟩
 have e5:¬((8:Int)<(v.secs.length:Int)):=by omega
 simp only[SX,e5,if_neg n5,Nat.zero_add,c3 _ (.refl _),hs.1.len xN];refine bB v.secs.length (by omega) (λk R W'=>Le W1 W'/\R 1=.pointer (some ⟨W.next,0,none⟩)/\R 4=.int .i64 (dB (v.secs.take k))/\R 35=sv/\R 36=.int .i64 (v.secs.length:Int)/\R 37=.int .i64 (k:Int)/\qA v.secs k=none)
  (λr=>Le W1 r.2.2/\((r.1=.exit 1/\r.2.1 4=.int .i64 (dB v.secs)/\qA v.secs v.secs.length=none)\/(r.1=.ret/\∃i e,r.2.1 2=.int .i64 ((i:Nat):Int)/\r.2.1 3=.int .i64 e/\qA v.secs v.secs.length=some (i,e)))) ⟨.refl _,rfl,rfl,rfl,rfl,rfl,rfl⟩ ?_ ?_ ?_
 ·rintro k R W' hk ⟨hl,h1,h4,h35,h36,h37,hb⟩;unfold uR;obtain⟨b,o,rv,g1,g2,g3,_⟩:=hs.1.get hk;obtain⟨u,u1,u2⟩:=hs.pre hk;have e1:((k:Int)<(v.secs.length:Int)):=by omega
  simp only[SX,h35,h36,h37,e1,g1,g3 _ (hle.trans hl),a9x,aBh eD (xJ _) (Row.one g2) (vI _ _),mI];have hl2:Le W1 (W'.add (.cells [.string (aO v.secs[k].name),rv,.int .i64 v.secs[k].q])):=hl.add _;have hc2:cellsAt (W'.add (.cells [.string (aO v.secs[k].name),rv,.int .i64 v.secs[k].q])) W'.next=some [.string (aO v.secs[k].name),rv,.int .i64 v.secs[k].q]:=bR;generalize hW2:W'.add (.cells [.string (aO v.secs[k].name),rv,.int .i64 v.secs[k].q])=W2 at *;have d3:bH 3 (.pointer (some ⟨W'.next,0,none⟩)) W2=some (ZK v.secs[k] rv,W2):=tF hc2 rfl;have d1:aL (.pointer (some ⟨W'.next,1,none⟩)) W2=some (rv,W2):=bY hc2 rfl;have hlr:=(g2.mono (hle.trans hl2)).len (P:=Tryz.prog) D9;simp only[SX,d3,h1,Nat.zero_add,c3 _ hl2,u1,a5a (g2.mono (hle.trans hl2)) (u2.mono (hle.trans hl2)) (by rw[List.length_take];omega)];have hbs:=KH hb hk;by_cases hz:BK v.secs[k] (v.secs.take k)=0
  ·rw[if_pos hz]at hbs;obtain⟨_,_,_,hr1,hr2,_⟩:=KS hz;have htb:=ZF hb (by omega);simp only[SX,hz,d1,hlr];refine bB v.secs[k].rows.length (by omega) (λj R' W3=>W3=W2/\R' 1=.pointer (some ⟨W.next,0,none⟩)/\R' 4=.int .i64 (dB (v.secs.take k)+lG (v.secs[k].rows.take j))/\R' 35=sv/\R' 36=.int .i64 (v.secs.length:Int)/\R' 37=.int .i64 (k:Int)/\R' 53=rv/\R' 54=.int .i64 (v.secs[k].rows.length:Int)/\R' 55=.int .i64 (j:Int))
    (λr=>r.2.2=W2/\r.1=.exit 3/\r.2.1 1=.pointer (some ⟨W.next,0,none⟩)/\r.2.1 4=.int .i64 (dB (v.secs.take (k+1)))/\r.2.1 35=sv/\r.2.1 36=.int .i64 (v.secs.length:Int)/\r.2.1 37=.int .i64 (k:Int)) ⟨rfl,h1,by rw[List.take_zero,show lG []=0 from rfl,Int.add_zero];exact h4,h35,h36,h37,rfl,rfl,rfl⟩ ?_ ?_ ?_
   ·rintro j R' W3 hj ⟨rfl,h1,h4,h35,h36,h37,h53,h54,h55⟩;unfold nT;obtain⟨p,p1,p2⟩:=g2.get hj;have e1:((j:Int)<(v.secs[k].rows.length:Int)):=by omega
    have e2:(j:Int)+1=((j+1:Nat):Int):=by omega
    have ea:=aS (P:=Tryz.prog) (W:=W3) (t:=3) (c:=false) (d:=true) (a:=(j:Int)) (b:=1) (by omega) (by omega);have hsb:=(uB hr2 j).1;have hsn:=hr2 _ (List.getElem_mem hj);have eb:=aS (P:=Tryz.prog) (W:=W3) (t:=3) (c:=false) (d:=false) (a:=dB (v.secs.take k)+lG (v.secs[k].rows.take j)) (b:=v.secs[k].rows[j]) (by omega) (by omega);simp only[SX,h4,h53,h54,h55,e1,p1,p2 _ (hle.trans hl2),ea,eb,aB];refine .inl ⟨trivial,trivial,h1,?_,h35,h36,h37,h53,h54,by rw[<-e2];rfl⟩;rw[tL hj,<-Int.add_assoc];rfl
   ·rintro R' W3 ⟨rfl,h1,h4,h35,h36,h37,h53,h54,h55⟩;unfold nT;have e1:¬((v.secs[k].rows.length:Int)<(v.secs[k].rows.length:Int)):=by omega
    simp only[SX,h54,h55,e1,aB];refine⟨by simp,trivial,trivial,h1,?_,h35,h36,h37⟩;rw[uE hk];rw[List.take_length]at h4;exact h4
   ·rintro⟨x,R',W3⟩ ⟨hW,rfl,h1,h4,h35,h36,h37⟩;simp only at hW h1 h4 h35 h36 h37;subst hW;have e2:(k:Int)+1=((k+1:Nat):Int):=by omega
    have ea:=aS (P:=Tryz.prog) (W:=W3) (t:=3) (c:=false) (d:=true) (a:=(k:Int)) (b:=1) (by omega) (by omega);simp only[SX,h37,ea,aB];exact .inl ⟨trivial,hl2,h1,h4,h35,h36,by rw[<-e2];rfl,hbs⟩
  ·rw[if_neg hz]at hbs;simp only[SX,hz,aB];exact .inr ⟨by simp,hl2,.inr ⟨trivial,k,_,rfl,rfl,CX hbs (by omega)⟩⟩
 ·rintro R W' ⟨hl,h1,h4,h35,h36,h37,hb⟩;unfold uR;have e1:¬((v.secs.length:Int)<(v.secs.length:Int)):=by omega
  rw[List.take_length]at h4;simp only[SX,h36,h37,e1,aB];exact⟨by simp,hl,.inl ⟨trivial,h4,hb⟩⟩
 ·rintro⟨x,R,W'⟩ ⟨hl,hq⟩;simp only at hl hq;rcases hq with⟨rfl,h4,hb⟩|⟨rfl,i,e,h2,h3,hb⟩
  ·rw[hb];by_cases n6:4096<dB v.secs
   ·simp only[SX,h4,n6,if_true,aB];exact⟨trivial,hle.trans hl⟩
   ·simp only[SX,h4,n6,if_false,aB];exact⟨trivial,hle.trans hl⟩
  ·rw[hb];simp only[SX,h2,h3,aB];exact⟨trivial,hle.trans hl⟩
abbrev Plc:=Nat×Nat×Nat
def BS(i k m:Nat):List Plc:=(List.range m).map λj=>(i,k,j)
def KV(i:Nat)(rows:List Int)(k:Nat):List Plc:=(List.range k).flatMap λj=>BS i j (rows.getD j 0).toNat
def F7(l:List Sec)(n:Nat):List Plc:=(List.range n).flatMap λi=>match l[i]? with
 |some s=>KV i s.rows s.rows.length
 |none=>[]
def lW(l:List Sec):List Plc:=F7 l l.length
theorem a4l(i k m:Nat):BS i k (m+1)=BS i k m++[(i,k,m)]:=by simp[BS,List.range_succ]
theorem JG(i:Nat)(rows:List Int){k:Nat}(hk:k<rows.length):KV i rows (k+1)=KV i rows k++BS i k rows[k].toNat:=by unfold KV;rw[List.range_succ,List.flatMap_append,List.flatMap_cons,List.flatMap_nil,List.append_nil,List.getD_eq_getElem?_getD,List.getElem?_eq_getElem hk,Option.getD_some]
theorem KR(l:List Sec){n:Nat}(hn:n<l.length):F7 l (n+1)=F7 l n++KV n l[n].rows l[n].rows.length:=by unfold F7;rw[List.range_succ,List.flatMap_append,List.flatMap_cons,List.flatMap_nil,List.append_nil,List.getElem?_eq_getElem hn]
structure Good (l:List Sec):Prop where
 len:l.length<=8
 rows:∀s∈l,s.rows.length≠0/\s.rows.length<=16/\∀n∈s.rows,1<=n/\n<=64
theorem Good.of{l:List Sec}(h:l.length<=8)(hb:qA l l.length=none):Good l:=
 ⟨h,λs hs=>by obtain⟨i,hi,rfl⟩:=List.getElem_of_mem hs;obtain⟨_,_,h3,h4,h5,_⟩:=KS (VU hb i hi hi);exact⟨h3,h4,h5⟩⟩
theorem a0Y(i k m:Nat):(BS i k m).length=m:=by simp[BS]
theorem PW{i:Nat}{rows:List Int}(h:∀n∈rows,1<=n/\n<=64):∀{k:Nat},k<=rows.length->((KV i rows k).length:Int)=lG (rows.take k)
 |0,_=>by simp[KV,lG]
 |k+1,hk=>by
  have hk':k<rows.length:=by omega
  rw[JG i rows hk',List.length_append,a0Y,tL hk',<-PW (i:=i) h (by omega:k<=rows.length)];have:=h _ (List.getElem_mem hk');omega
theorem zV{l:List Sec}(h:Good l):∀{n:Nat},n<=l.length->((F7 l n).length:Int)=dB (l.take n)/\(F7 l n).length<=1024*n
 |0,_=>by simp[F7,dB,lG]
 |n+1,hn=>by
  have hn':n<l.length:=by omega
  obtain⟨h1,h2,h3⟩:=h.rows _ (List.getElem_mem hn');have ih:=zV h (by omega:n<=l.length);have hl:=PW (i:=n) h3 (Nat.le_refl _);have hb:=(uB h3 l[n].rows.length).1;rw[List.take_length]at hl hb;rw[KR l hn',List.length_append,uE hn'];omega
theorem yD{l:List Sec}(h:Good l):((lW l).length:Int)=dB l:=by have:=(zV h (Nat.le_refl l.length)).1;rwa [List.take_length]at this
def TH(p:Plc):List Value:=[.int .i64 (p.1:Int),.int .i64 (p.2.1:Int),.int .i64 (p.2.2:Int)]
def aAq(cs:List Value)(p:Nat)(a:Plc):Prop:=cs[p]? =some (.int .i64 (a.1:Int))/\cs[p+1]? =some (.int .i64 (a.2.1:Int))/\cs[p+2]? =some (.int .i64 (a.2.2:Int))
theorem YZ(p:Plc):(TH p).length=3:=rfl
theorem a7S(p:Plc):(TH p).all Eng.one=true:=rfl
theorem a9C(a:Plc)(pre post:List Value):aAq (pre++(TH a++post)) pre.length a:=by refine⟨?_,?_,?_⟩<;>(rw[List.getElem?_append_right (by omega)];simp[TH])
abbrev Plcs(W:AW)(v:Value)(l:List Plc):Prop:=Row W 3 aAq v l
theorem aCV:nK Tryz.prog #[238,238] 3 24=true:=by kernel_rfl
theorem aBv(a b c:Int)(W:AW):dA Tryz.prog 309 [(0,.int .i64 a),(1,.int .i64 b),(2,.int .i64 c)] W=some (.agg #[.int .i64 a,.int .i64 b,.int .i64 c],W):=Eq.trans (by kernel_rfl) rfl
theorem aCD(a b c:Int)(W:AW):aR Tryz.prog 238 1 [(0,.agg #[.int .i64 a,.int .i64 b,.int .i64 c])] W=some (.slice (some ⟨W.next,0,none⟩) 1 1,W.add (.cells [.int .i64 a,.int .i64 b,.int .i64 c])):=Eq.trans (by kernel_rfl) rfl
theorem KA{v:Ven}{sv:Value}{W:AW}(hs:Secs W sv v.secs)(hg:Good v.secs):∃r W',aK (.func (.func 152) #[] #[]) [kN v sv] W=some (r,W')/\Le W W'/\Plcs W' r (lW v.secs):=by
 have hle:Le W (W.add (.cells [.int .i64 v.sh,.int .i64 v.ttl,.int .i64 v.ses,sv])):=(Le.refl W).add _;have hc:cellsAt (W.add (.cells [.int .i64 v.sh,.int .i64 v.ttl,.int .i64 v.ses,sv])) W.next=some [.int .i64 v.sh,.int .i64 v.ttl,.int .i64 v.ses,sv]:=bR;have hn:W.next<(W.add (.cells [.int .i64 v.sh,.int .i64 v.ttl,.int .i64 v.ses,sv])).next:=by rw[AW.add_next];omega
 refine XN ?_ MW;unfold IW;simp only[SX,LP];generalize hW1:W.add (.cells [.int .i64 v.sh,.int .i64 v.ttl,.int .i64 v.ses,sv])=W1 at *;have c3:∀W',Le W1 W'->aL (.pointer (some ⟨W.next,3,none⟩)) W'=some (sv,W'):=λW' k=>bY (by rw[k.cellsAt hn];exact hc) rfl
 have add1:∀(k:Nat) (W':AW),k<1000000->aD Tryz.prog .add 3 false true (.int .i64 (k:Int)) (.int .i64 1) W'=some (.int .i64 ((k+1:Nat):Int),W'):=λk W' hk=>aS (by omega) (by omega)
 have hlen:=hg.len;refine bB v.secs.length (by omega) (λi R W'=>Le W1 W'/\R 1=.pointer (some ⟨W.next,0,none⟩)/\R 4=.int .i64 (i:Int)/\Lst W1.next W' 3 TH (R 3) (F7 v.secs i))
  (λr=>Le W1 r.2.2/\r.1=.exit 0/\Lst W1.next r.2.2 3 TH (r.2.1 3) (F7 v.secs v.secs.length)) ⟨.refl _,rfl,rfl,Lst.nil _ _ _ _⟩ ?_ ?_ ?_
 ·rintro i R W' hi ⟨hl,h1,h4,hG⟩;unfold sD;have e1:((i:Int)<(v.secs.length:Int)):=by omega
  simp only[SX,h1,h4,Nat.zero_add,c3 _ hl,hs.len xN,e1];obtain⟨b,o,rv,g1,g2,_,_,g5,_⟩:=hs.get hi;obtain⟨r1,r2,r3⟩:=hg.rows _ (List.getElem_mem hi);have hpl:=(zV hg (by omega:i<=v.secs.length)).2;refine bB v.secs[i].rows.length (by omega) (λk R W'=>Le W1 W'/\R 1=.pointer (some ⟨W.next,0,none⟩)/\R 4=.int .i64 (i:Int)/\R 5=.int .i64 (k:Int)/\Lst W1.next W' 3 TH (R 3) (F7 v.secs i++KV i v.secs[i].rows k))
   (λr=>Le W1 r.2.2/\r.1=.exit 2/\r.2.1 1=.pointer (some ⟨W.next,0,none⟩)/\r.2.1 4=.int .i64 (i:Int)/\Lst W1.next r.2.2 3 TH (r.2.1 3) (F7 v.secs (i+1))) ⟨hl,h1,h4,rfl,by rw[show KV i v.secs[i].rows 0=[]from rfl,List.append_nil];exact hG⟩ ?_ ?_ ?_
  ·rintro k R W' hk ⟨hl,h1,h4,h5,hG⟩;unfold mW;have e1:((k:Int)<(v.secs[i].rows.length:Int)):=by omega
   have g2':=g2.mono (hle.trans hl);simp only[SX,h1,h4,h5,Nat.zero_add,c3 _ hl,g1,g5 _ (hle.trans hl),g2'.len D9,e1];obtain⟨p,p1,p2⟩:=g2.get hk;have hrk:=r3 _ (List.getElem_mem hk);have hsl:=PW (i:=i) r3 (by omega:k<=v.secs[i].rows.length);have hsb:=(uB r3 k).1;refine bB v.secs[i].rows[k].toNat (by omega) (λm R W'=>Le W1 W'/\R 1=.pointer (some ⟨W.next,0,none⟩)/\R 4=.int .i64 (i:Int)/\R 5=.int .i64 (k:Int)/\R 6=.int .i64 (m:Int)/\Lst W1.next W' 3 TH (R 3) (F7 v.secs i++KV i v.secs[i].rows k++BS i k m))
    (λr=>Le W1 r.2.2/\r.1=.exit 4/\r.2.1 1=.pointer (some ⟨W.next,0,none⟩)/\r.2.1 4=.int .i64 (i:Int)/\r.2.1 5=.int .i64 (k:Int)/\Lst W1.next r.2.2 3 TH (r.2.1 3) (F7 v.secs i++KV i v.secs[i].rows (k+1))) ⟨hl,h1,h4,h5,rfl,by rw[show BS i k 0=[]from rfl,List.append_nil];exact hG⟩ ?_ ?_ ?_
   ·rintro m R W' hm ⟨hl,h1,h4,h5,h6,hG⟩;unfold kF;have e1:((m:Int)<v.secs[i].rows[k]):=by omega
    simp only[SX,h1,h4,h5,h6,Nat.zero_add,c3 _ hl,g1,g5 _ (hle.trans hl),p1,p2 _ (hle.trans hl),e1,aBv,aCD];have hGm:=hG.mono ((Le.refl W').add (.cells [.int .i64 (i:Int),.int .i64 (k:Int),.int .i64 (m:Int)]));have hlb:(F7 v.secs i++KV i v.secs[i].rows k++BS i k m).length+1<100000:=by rw[List.length_append,List.length_append,a0Y];omega
    obtain⟨v',W2,q1,q2,q3,q4⟩:=Lst.push (P:=Tryz.prog) (a:=(i,k,m)) (b:=W'.next) (c:=1) aCV YZ a7S hGm bR (by omega) (by omega) (by rw[AW.add_next];have:=hl.next;omega);simp only[SX,q1,add1 m _ (by omega),aB];refine .inl ⟨trivial,q4 _ (hl.add _) (Nat.le_refl _),h1,h4,h5,rfl,?_⟩;rw[a4l,<-List.append_assoc];exact q2
   ·rintro R W' ⟨hl,h1,h4,h5,h6,hG⟩;unfold kF;have e1:¬((v.secs[i].rows[k].toNat:Int)<v.secs[i].rows[k]):=by omega
    simp only[SX,h1,h4,h5,h6,Nat.zero_add,c3 _ hl,g1,g5 _ (hle.trans hl),p1,p2 _ (hle.trans hl),e1,aB];refine⟨by simp,hl,trivial,h1,h4,h5,?_⟩;rw[JG _ _ hk,<-List.append_assoc];exact hG
   ·rintro⟨x,R,W'⟩ ⟨hl,rfl,h1,h4,h5,hG⟩;simp only at hl h1 h4 h5 hG;simp only[SX,h5,add1 k _ (by omega),aB];exact .inl ⟨trivial,hl,h1,h4,rfl,hG⟩
  ·rintro R W' ⟨hl,h1,h4,h5,hG⟩;unfold mW;have e1:¬((v.secs[i].rows.length:Int)<(v.secs[i].rows.length:Int)):=by omega
   have g2':=g2.mono (hle.trans hl);simp only[SX,h1,h4,h5,Nat.zero_add,c3 _ hl,g1,g5 _ (hle.trans hl),g2'.len D9,e1,aB];refine⟨by simp,hl,trivial,h1,h4,?_⟩;rw[KR _ hi];exact hG
  ·rintro⟨x,R,W'⟩ ⟨hl,rfl,h1,h4,hG⟩;simp only at hl h1 h4 hG;simp only[SX,h4,add1 i _ (by omega),aB];exact .inl ⟨trivial,hl,h1,rfl,hG⟩
 ·rintro R W' ⟨hl,h1,h4,hG⟩;unfold sD;have e1:¬((v.secs.length:Int)<(v.secs.length:Int)):=by omega
  simp only[SX,h1,h4,Nat.zero_add,c3 _ hl,hs.len xN,e1,aB];exact⟨by simp,hl,trivial,hG⟩
 ·rintro⟨x,R,W'⟩ ⟨hl,rfl,hG⟩;simp only at hl hG;simp only[SX,aB];exact⟨hle.trans hl,hG.row YZ a9C⟩
theorem aAo:((#[238]:Array TypeId)[0]?).bind Tryz.prog.underlying=some (.slice 309):=by kernel_rfl
theorem UQ{v:Ven}{sv:Value}{W:AW}(hs:Secs W sv v.secs)(hv:v.secs.length<1000)(hr:∀s∈v.secs,s.rows.length<1000):aK (.func (.func 108) #[] #[]) [kN v sv] W=some (.tuple #[.int .i64 (lZ v).1,.int .i64 (lZ v).2],W):=by
 refine aN rfl ?_ PE;unfold MI;have hle:Le W (W.add (.cells [.int .i64 v.sh,.int .i64 v.ttl,.int .i64 v.ses,sv])):=(Le.refl W).add _;have hc:cellsAt (W.add (.cells [.int .i64 v.sh,.int .i64 v.ttl,.int .i64 v.ses,sv])) W.next=some [.int .i64 v.sh,.int .i64 v.ttl,.int .i64 v.ses,sv]:=bR;have hn:W.next<(W.add (.cells [.int .i64 v.sh,.int .i64 v.ttl,.int .i64 v.ses,sv])).next:=by rw[AW.add_next];omega
 simp only[SX,LP,Nat.zero_add];generalize hW1:W.add (.cells [.int .i64 v.sh,.int .i64 v.ttl,.int .i64 v.ses,sv])=W1 at *;have c0:aL (.pointer (some ⟨W.next,0,none⟩)) W1=some (.int .i64 v.sh,W1):=bY hc rfl;have c1:aL (.pointer (some ⟨W.next,1,none⟩)) W1=some (.int .i64 v.ttl,W1):=bY hc rfl;have c2:aL (.pointer (some ⟨W.next,2,none⟩)) W1=some (.int .i64 v.ses,W1):=bY hc rfl;have c3:aL (.pointer (some ⟨W.next,3,none⟩)) W1=some (sv,W1):=bY hc rfl;have c4:bH 4 (.pointer (some ⟨W.next,0,none⟩)) W1=some (kN v sv,W1):=tF hc rfl;have hs1:=hs.mono hle;simp only[SX,c0,wT,IC];unfold lZ FL;cases n1:lN v.sh 1 16;case true=>simp only[SX,Bool.true_or,if_true,aB];exact⟨trivial,hle⟩
 simp only[SX,Nat.zero_add,c1,wT,IC];cases n2:lN v.ttl 1 1000000000;case true=>simp only[SX,Bool.true_or,Bool.or_true,if_true,aB];exact⟨trivial,hle⟩
 simp only[SX,Nat.zero_add,c2,wT,IC];cases n3:lN v.ses 1 1000000000;case true=>simp only[SX,Bool.true_or,Bool.or_true,if_true,aB];exact⟨trivial,hle⟩
 simp only[SX,Nat.zero_add,c3,hs.len xN,Bool.or_self,Bool.false_eq_true,if_false];by_cases n4:v.secs.length=0;case pos=>
  have e:((v.secs.length:Int)=0):=by omega
  simp only[SX,e,if_pos n4,aB];exact⟨trivial,hle⟩
 have e4:¬((v.secs.length:Int)=0):=by omega
 simp only[SX,e4,if_neg n4,Nat.zero_add,c3,hs.len xN];by_cases n5:8<v.secs.length;case pos=>
  have e:((8:Int)<(v.secs.length:Int)):=by omega
  simp only[SX,e,if_pos n5,aB];exact⟨trivial,hle⟩
 have e5:¬((8:Int)<(v.secs.length:Int)):=by omega
 simp only[SX,e5,if_neg n5];refine bB v.secs.length (by omega) (λk R W'=>W'=W1/\R 1=.pointer (some ⟨W.next,0,none⟩)/\R 4=.int .i64 (k:Int)/\qA v.secs k=none)
  (λr=>r.2.2=W1/\((r.1=.exit 0/\r.2.1 1=.pointer (some ⟨W.next,0,none⟩)/\qA v.secs v.secs.length=none)\/(r.1=.ret/\∃i e,r.2.1 2=.int .i64 ((i:Nat):Int)/\r.2.1 3=.int .i64 e/\qA v.secs v.secs.length=some (i,e)))) ⟨rfl,rfl,rfl,rfl⟩ ?_ ?_ ?_
 ·rintro k R W' hk ⟨rfl,h1,h4,hb⟩;unfold uN;have e1:((k:Int)<(v.secs.length:Int)):=by omega
  have e2:(k:Int)+1=((k+1:Nat):Int):=by omega
  have ea:=aS (P:=Tryz.prog) (W:=W') (t:=3) (c:=false) (d:=true) (a:=(k:Int)) (b:=1) (by omega) (by omega);simp only[SX,h1,h4,Nat.zero_add,c3,hs.len xN,e1,c4,a2X hs1 hv hk (hr _ (List.getElem_mem hk))];have hbs:=KH hb hk;by_cases hz:BK v.secs[k] (v.secs.take k)=0
  ·rw[if_pos hz]at hbs;simp only[SX,hz,ea,aB];exact .inl ⟨trivial,trivial,h1,by rw[<-e2];rfl,hbs⟩
  ·rw[if_neg hz]at hbs;simp only[SX,hz,aB];exact .inr ⟨by simp,trivial,.inr ⟨trivial,k,_,rfl,rfl,CX hbs (by omega)⟩⟩
 ·rintro R W' ⟨rfl,h1,h4,hb⟩;unfold uN;have e1:¬((v.secs.length:Int)<(v.secs.length:Int)):=by omega
  simp only[SX,h1,h4,Nat.zero_add,c3,hs.len xN,e1,aB];exact⟨by simp,trivial,.inl ⟨trivial,h1,hb⟩⟩
 ·rintro⟨x,R,W'⟩ ⟨hW,hq⟩;simp only at hW hq;subst hW;rcases hq with⟨rfl,h1,hb⟩|⟨rfl,i,e,h2,h3,hb⟩
  ·rw[hb];have hg:=Good.of (by omega) hb;obtain⟨r,W2,q1,q2,q3⟩:=KA hs1 hg;simp only[SX,h1,c4,q1,q3.len aAo,yD hg];by_cases n6:4096<dB v.secs
   ·simp only[SX,n6,if_true,aB];exact⟨trivial,hle.trans q2⟩
   ·simp only[SX,n6,if_false,aB];exact⟨trivial,hle.trans q2⟩
  ·rw[hb];simp only[SX,h2,h3,aB];exact⟨trivial,hle⟩
theorem gY{v:Ven}(h:(lZ v).2=0):Good v.secs/\FL v=false/\0<v.secs.length/\qA v.secs v.secs.length=none/\dB v.secs<=4096/\(lZ v).1=0:=by
 unfold lZ at h|-;split at h
 ·exact absurd h (by decide)
 rename_i h1;split at h
 ·exact absurd h (by decide)
 rename_i h2;split at h
 ·exact absurd h (by decide)
 rename_i h3;cases hb:qA v.secs v.secs.length with
 |some r=>
  obtain⟨i,e⟩:=r;rw[hb]at h;simp only at h;subst h;exfalso;have:∀n,qA v.secs n≠some (i,0):=by
   intro n;induction n with
   |zero=>simp[qA]
   |succ n ih=>
    intro hn;have hn':(match qA v.secs n with|some r=>some r|none=>match v.secs[n]? with|some s=>if BK s (v.secs.take n)=0 then none else some (n,BK s (v.secs.take n))|none=>none)=some (i,0):=hn;cases hbn:qA v.secs n with
    |some r=>rw[hbn]at hn';simp only at hn';rw[hn']at hbn;exact ih hbn
    |none=>
     rw[hbn]at hn';simp only at hn';split at hn'
     ·split at hn'
      ·cases hn'
      ·rename_i hz;injection hn' with hn';injection hn' with _ e;exact hz e
     ·cases hn'
  exact this _ hb
 |none=>
  rw[hb]at h;simp only at h|-;split at h
  ·exact absurd h (by decide)
  rename_i h4;rw[if_neg h4,if_neg h1,if_neg h2,if_neg h3];exact⟨Good.of (by omega) hb,by simpa using h1,by omega,trivial,by omega,rfl⟩
theorem KJ(v:Ven)(sv:Value)(W:AW):∃W1,bZ (kN v sv) W=some (.pointer (some ⟨W.next,0,none⟩),W1)/\Le W W1/\W.next<W1.next/\
 (∀W',Le W1 W'->bH 4 (.pointer (some ⟨W.next,0,none⟩)) W'=some (kN v sv,W'))/\(∀W',Le W1 W'->aL (.pointer (some ⟨W.next,0,none⟩)) W'=some (.int .i64 v.sh,W'))/\(∀W',Le W1 W'->aL (.pointer (some ⟨W.next,3,none⟩)) W'=some (sv,W')):=by
 have hc:cellsAt (W.add (.cells [.int .i64 v.sh,.int .i64 v.ttl,.int .i64 v.ses,sv])) W.next=some [.int .i64 v.sh,.int .i64 v.ttl,.int .i64 v.ses,sv]:=bR;have hn:W.next<(W.add (.cells [.int .i64 v.sh,.int .i64 v.ttl,.int .i64 v.ses,sv])).next:=by rw[AW.add_next];omega
 exact⟨_,LP _ _ _ _ W,(Le.refl W).add _,hn,λW' k=>tF (by rw[k.cellsAt hn];exact hc) rfl,λW' k=>bY (by rw[k.cellsAt hn];exact hc) rfl,λW' k=>bY (by rw[k.cellsAt hn];exact hc) rfl⟩
def iA(v:Ven):Int×Int:=if(lZ v).2=0 then(dB v.secs,0)else(0,(lZ v).2)
theorem Z8{v:Ven}{sv:Value}{W:AW}(hs:Secs W sv v.secs)(hv:v.secs.length<1000)(hr:∀s∈v.secs,s.rows.length<1000):aK (.func (.func 85) #[] #[]) [kN v sv] W=some (.tuple #[.int .i64 (iA v).1,.int .i64 (iA v).2],W):=by
 refine aN rfl ?_ PI;unfold MN iA;obtain⟨W1,hB,hle,hn,c4,c0,c3⟩:=KJ v sv W;simp only[SX,hB,c4 _ (.refl _),UQ (hs.mono hle) hv hr];by_cases he:(lZ v).2=0
 ·obtain⟨r,W2,q1,q2,q3⟩:=KA (hs.mono hle) (gY he).1;simp only[SX,decide_eq_true he,c4 _ (.refl _),q1,q3.len aAo,yD (gY he).1,if_pos he,aB];exact⟨trivial,hle.trans q2⟩
 ·simp only[SX,he,if_false,aB];exact⟨trivial,hle⟩
structure RowT where
 sec:Nat
 row:Nat
 first:Int
 many:Int
abbrev a02(r:RowT):Value:=.agg #[.int .i64 (r.sec:Int),.int .i64 (r.row:Int),.int .i64 r.first,.int .i64 r.many]
def IM(l:List Sec)(i:Nat)(rows:List Int)(k:Nat):List RowT:=(List.range k).map λj=>⟨i,j,dB (l.take i)+lG (rows.take j),rows.getD j 0⟩
def vN(l:List Sec)(n:Nat):List RowT:=(List.range n).flatMap λi=>match l[i]? with
 |some s=>IM l i s.rows s.rows.length
 |none=>[]
def gU(l:List Sec):List RowT:=vN l l.length
theorem tJ(l:List Sec)(i:Nat)(rows:List Int){k:Nat}(hk:k<rows.length):IM l i rows (k+1)=IM l i rows k++[⟨i,k,dB (l.take i)+lG (rows.take k),rows[k]⟩]:=by unfold IM;rw[List.range_succ,List.map_append,List.map_cons,List.map_nil,List.getD_eq_getElem?_getD,List.getElem?_eq_getElem hk,Option.getD_some]
theorem pX(l:List Sec){n:Nat}(hn:n<l.length):vN l (n+1)=vN l n++IM l n l[n].rows l[n].rows.length:=by unfold vN;rw[List.range_succ,List.flatMap_append,List.flatMap_cons,List.flatMap_nil,List.append_nil,List.getElem?_eq_getElem hn]
theorem a6X{l:List Sec}{i:Nat}{rows:List Int}{k n:Nat}(h:k<=n)(hn:n<=rows.length):IM l i rows k<+:IM l i rows n:=by
 induction n with
 |zero=>obtain rfl:k=0:=by omega
        exact List.prefix_refl _
 |succ n ih=>
  by_cases e:k=n+1
  ·subst e;exact List.prefix_refl _
  ·rw[tJ l i rows (by omega)];exact(ih (by omega) (by omega)).trans (List.prefix_append _ _)
theorem a5F{l:List Sec}{k n:Nat}(h:k<=n)(hn:n<=l.length):vN l k<+:vN l n:=by
 induction n with
 |zero=>obtain rfl:k=0:=by omega
        exact List.prefix_refl _
 |succ n ih=>
  by_cases e:k=n+1
  ·subst e;exact List.prefix_refl _
  ·rw[pX l (by omega)];exact(ih (by omega) (by omega)).trans (List.prefix_append _ _)
theorem a7F{l:List Sec}{i k:Nat}(hi:i<l.length)(hk:k<l[i].rows.length):(vN l i++IM l i l[i].rows k)++[⟨i,k,dB (l.take i)+lG (l[i].rows.take k),l[i].rows[k]⟩]<+:gU l:=by rw[List.append_assoc,<-tJ l i _ hk];refine List.IsPrefix.trans ?_ (a5F (k:=i+1) (by omega) (Nat.le_refl _));rw[pX l hi];exact(List.prefix_append_right_inj _).2 (a6X (by omega) (Nat.le_refl _))
theorem aEv(a b c d:Int)(W:AW):dA Tryz.prog 210 [(0,.int .i64 a),(1,.int .i64 b),(2,.int .i64 c),(3,.int .i64 d)] W=some (.agg #[.int .i64 a,.int .i64 b,.int .i64 c,.int .i64 d],W):=Eq.trans (by kernel_rfl) rfl
theorem a9T{v:Ven}{sv f:Value}{bx:Nat}{W0 W:AW}(hs:Secs W0 sv v.secs)(hg:Good v.secs)(hb:aL (.pointer (some ⟨bx,3,none⟩)) W=some (sv,W))(I:List RowT->AW->Prop)(Q:AW->Prop)
 (hI:I [] W)(hS:∀pre W',I pre W'->Le W0 W')(hA:∀pre W' cs,I pre W'->I pre (W'.add (.cells cs)))
 (step:∀pre r W',pre++[r]<+:gU v.secs->I pre W'->∃b W2,aK f [a02 r] W'=some (.bool b,W2)/\(b=true->I (pre++[r]) W2)/\(b=false->Q W2)):
 ∃W2,aK (.func (.func 190) #[] #[.pointer (some ⟨bx,0,none⟩)]) [f] W=some (.tuple #[],W2)/\(I (gU v.secs) W2\/Q W2):=by
 have main:Ok (xR aK f (.pointer (some ⟨bx,0,none⟩)) W) λr=>r.1=.tuple #[]/\(I (gU v.secs) r.2\/Q r.2):=by
  unfold xR;have hlen:=hg.len;have add1:∀(k:Nat) (W':AW),k<1000000->aD Tryz.prog .add 3 false true (.int .i64 (k:Int)) (.int .i64 1) W'=some (.int .i64 ((k+1:Nat):Int),W'):=λk W' hk=>aS (by omega) (by omega)
  simp only[SX,Nat.zero_add,hb,hs.len xN];refine bB v.secs.length (by omega) (λi R W'=>R 0=f/\R 3=.int .i64 (dB (v.secs.take i))/\R 9=sv/\R 10=.int .i64 (v.secs.length:Int)/\R 11=.int .i64 (i:Int)/\I (vN v.secs i) W')
   (λr=>(r.1=.exit 0/\I (gU v.secs) r.2.2)\/(r.1=.ret/\Q r.2.2)) ⟨rfl,rfl,rfl,rfl,rfl,hI⟩ ?_ ?_ ?_
  ·rintro i R W' hi ⟨h0,h3,h9,h10,h11,hi'⟩;unfold sM;have e1:((i:Int)<(v.secs.length:Int)):=by omega
   obtain⟨b,o,rv,g1,g2,g3,_⟩:=hs.get hi;obtain⟨r1,r2,r3⟩:=hg.rows _ (List.getElem_mem hi);have htb:0<=dB (v.secs.take i)/\dB (v.secs.take i)<=1024*i:=by have:=zV hg (by omega:i<=v.secs.length);omega
   have hI2:=hA _ _ [.string (aO v.secs[i].name),rv,.int .i64 v.secs[i].q] hi';have hc2:cellsAt (W'.add (.cells [.string (aO v.secs[i].name),rv,.int .i64 v.secs[i].q])) W'.next=some [.string (aO v.secs[i].name),rv,.int .i64 v.secs[i].q]:=bR;simp only[SX,h9,h10,h11,e1,g1,g3 _ (hS _ _ hi'),a9x,aBh eD (xJ _) (Row.one g2) (vI _ _),mI,Nat.zero_add];generalize hW2:W'.add (.cells [.string (aO v.secs[i].name),rv,.int .i64 v.secs[i].q])=W2 at *;have d1:aL (.pointer (some ⟨W'.next,1,none⟩)) W2=some (rv,W2):=bY hc2 rfl;simp only[SX,d1,g2.len D9];refine bB v.secs[i].rows.length (by omega) (λk R W'=>R 0=f/\R 3=.int .i64 (dB (v.secs.take i)+lG (v.secs[i].rows.take k))/\R 4=.int .i64 (i:Int)/\R 9=sv/\R 10=.int .i64 (v.secs.length:Int)/\R 11=.int .i64 (i:Int)/\R 17=rv/\R 18=.int .i64 (v.secs[i].rows.length:Int)/\R 19=.int .i64 (k:Int)/\I (vN v.secs i++IM v.secs i v.secs[i].rows k) W')
    (λr=>(r.1=.exit 2/\r.2.1 0=f/\r.2.1 3=.int .i64 (dB (v.secs.take (i+1)))/\r.2.1 9=sv/\r.2.1 10=.int .i64 (v.secs.length:Int)/\r.2.1 11=.int .i64 (i:Int)/\I (vN v.secs (i+1)) r.2.2)\/(r.1=.ret/\Q r.2.2))
    ⟨h0,by rw[List.take_zero,show lG []=0 from rfl,Int.add_zero];exact h3,rfl,h9,h10,h11,rfl,rfl,rfl,by rw[show IM v.secs i v.secs[i].rows 0=[]from rfl,List.append_nil];exact hI2⟩ ?_ ?_ ?_
   ·rintro k R W' hk ⟨h0,h3,h4,h9,h10,h11,h17,h18,h19,hi'⟩;unfold mX;have e1:((k:Int)<(v.secs[i].rows.length:Int)):=by omega
    obtain⟨p,p1,p2⟩:=g2.get hk;obtain⟨c,W3,s1,s2,s3⟩:=step _ ⟨i,k,dB (v.secs.take i)+lG (v.secs[i].rows.take k),v.secs[i].rows[k]⟩ W' (a7F hi hk) hi';have hsb:=(uB r3 k).1;have hsn:=r3 _ (List.getElem_mem hk);have eb:=aS (P:=Tryz.prog) (W:=W3) (t:=3) (c:=false) (d:=false) (a:=dB (v.secs.take i)+lG (v.secs[i].rows.take k)) (b:=v.secs[i].rows[k]) (by omega) (by omega);simp only[SX,h0,h3,h4,h17,h18,h19,e1,p1,p2 _ (hS _ _ hi'),aEv,s1];cases c
    ·simp only[SX,aB];exact .inr ⟨by simp,.inr ⟨trivial,s3 rfl⟩⟩
    ·simp only[SX,eb,add1 k _ (by omega),aB];refine .inl ⟨trivial,h0,?_,h4,h9,h10,h11,h17,h18,rfl,?_⟩
     ·rw[tL hk,<-Int.add_assoc];rfl
     ·rw[tJ _ _ _ hk,<-List.append_assoc];exact s2 rfl
   ·rintro R W' ⟨h0,h3,h4,h9,h10,h11,h17,h18,h19,hi'⟩;unfold mX;have e1:¬((v.secs[i].rows.length:Int)<(v.secs[i].rows.length:Int)):=by omega
    simp only[SX,h18,h19,e1,aB];refine⟨by simp,.inl ⟨trivial,h0,?_,h9,h10,h11,?_⟩⟩
    ·rw[uE hi];rw[List.take_length]at h3;exact h3
    ·rw[pX _ hi];exact hi'
   ·rintro⟨x,R,W'⟩ hq;rcases hq with⟨rfl,h0,h3,h9,h10,h11,hi'⟩|⟨rfl,hq⟩
    ·simp only at h0 h3 h9 h10 h11 hi';simp only[SX,h11,add1 i _ (by omega),aB];exact .inl ⟨trivial,h0,h3,h9,h10,rfl,hi'⟩
    ·simp only[SX,aB];exact .inr ⟨by simp,.inr ⟨trivial,hq⟩⟩
  ·rintro R W' ⟨h0,h3,h9,h10,h11,hi'⟩;unfold sM;have e1:¬((v.secs.length:Int)<(v.secs.length:Int)):=by omega
   simp only[SX,h10,h11,e1,aB];exact⟨by simp,.inl ⟨trivial,hi'⟩⟩
  ·rintro⟨x,R,W'⟩ hq;rcases hq with⟨rfl,hi'⟩|⟨rfl,hq⟩
   ·simp only[SX,aB];exact⟨trivial,.inl hi'⟩
   ·simp only[SX,aB];exact⟨trivial,.inr hq⟩
 obtain⟨⟨r,W'⟩,h1,h2,h3⟩:=main;simp only at h2 h3;subst h2;exact⟨W',by rw[NH h1,eG rfl],h3⟩
theorem a3i{v:Ven}{sv:Value}(W:AW):∃W1,aK (.func (.func 130) #[] #[]) [kN v sv] W=some (.func (.func 190) #[] #[.pointer (some ⟨W.next,0,none⟩)],W1)/\Le W W1/\W.next<W1.next/\(∀W',Le W1 W'->aL (.pointer (some ⟨W.next,3,none⟩)) W'=some (sv,W')):=by
 obtain⟨W1,hB,hle,hn,c4,c0,c3⟩:=KJ v sv W;refine⟨W1,?_,hle,hn,c3⟩;have:EU aK (kN v sv) W=some (.func (.func 190) #[] #[.pointer (some ⟨W.next,0,none⟩)],W1):=by unfold EU;simp only[SX,hB]
 rw[TZ this,eG rfl]
theorem a2E{v:Ven}{sv:Value}{W0 W:AW}{bx nt:Nat}{R:Nat->Value}{ps:Array Tmp}{ac bd:Code}(hs:Secs W0 sv v.secs)(hg:Good v.secs)
 (hb:aL (.pointer (some ⟨bx,3,none⟩)) (W.add (.loop .ready none R nt ps ac bd))=some (sv,W.add (.loop .ready none R nt ps ac bd)))(hp:ps.size=1)
 (J:List RowT->AW->Prop)(Q:X->AW->Prop)(h0:J [] (W.add (.loop .ready none R nt ps ac bd)))
 (hS:∀pre W',J pre W'->Le W0 W')(hA:∀pre W' cs,J pre W'->W.next<W'.next->J pre (W'.add (.cells cs)))(hP:∀pre W' o,J pre W'->J pre (W'.put W.next o))(hQ:∀x W' o,Q x W'->Q x (W'.put W.next o))
 (d:Nat)(has:∀r W' R',R'=qW ps.toList [a02 r] R->j5 Tryz.prog aK false nt ac LT R' W' sW=some (.normal,fC R' (some d) (.pointer (some ⟨W'.next,0,none⟩)),W'.add (.cells [.int .i64 (r.sec:Int),.int .i64 (r.row:Int),.int .i64 r.first,.int .i64 r.many])))
 (step:∀pre r W' b R',R'=fC (qW ps.toList [a02 r] R) (some d) (.pointer (some ⟨b,0,none⟩))->pre++[r]<+:gU v.secs->J pre W'->W.next<W'.next->rwCells W' b=some [.int .i64 (r.sec:Int),.int .i64 (r.row:Int),.int .i64 r.first,.int .i64 r.many]->W.next<b->b<W'.next->
   Ok (j5 Tryz.prog aK false nt bd LT R' W' sW) λq=>W'.next<=q.2.2.next/\q.2.2.get W.next=W'.get W.next/\((q.1=.normal/\J (pre++[r]) q.2.2)\/(q.1≠ .normal/\Q q.1 q.2.2))):
 ∃x W2,oI aK (.func (.func 190) #[] #[.pointer (some ⟨bx,0,none⟩)]) (.loop .ready none R nt ps ac bd) W=some (x,W2.kill W.next)/\((x=.normal/\J (gU v.secs) W2)\/(x≠ .normal/\Q x W2)):=by
 obtain⟨W2,h1,h2⟩:=a9T (f:=.func (.yield W.next) #[] #[]) (W:=W.add (.loop .ready none R nt ps ac bd)) hs hg hb
  (λpre W'=>J pre W'/\W.next<W'.next/\W'.get W.next=some (.loop .ready none R nt ps ac bd))
  (λW'=>∃x,x≠ .normal/\Q x W'/\W'.get W.next=some (.loop .done x.jump R nt ps ac bd))
  ⟨h0,by rw[AW.add_next];omega,AW.get_add _ _⟩ (λpre W' h=>hS _ _ h.1)
  (λpre W' cs h=>⟨hA _ _ _ h.1 h.2.1,by rw[AW.add_next];omega,by rw[AW.get_add_ne _ _ (by omega)];exact h.2.2⟩)
  (λpre r W' hpre ⟨hJ,hlt,hget⟩=>by
    have hJ2:=hP _ _ (.loop .busy none R nt ps ac bd) (hA _ _ [.int .i64 (r.sec:Int),.int .i64 (r.row:Int),.int .i64 r.first,.int .i64 r.many] hJ hlt);obtain⟨⟨x,R2,W3⟩,k1,k2,k3,k4⟩:=step pre r _ W'.next _ rfl hpre hJ2 (by rw[AW.put_next,AW.add_next];omega) (by rw[fM _ (by omega)];exact eD) hlt (by rw[AW.put_next,AW.add_next];omega);simp only at k1 k2 k3 k4;rw[AW.get_put]at k3;have hy:=WO (P:=Tryz.prog) (args:=[a02 r]) hget (by rw[hp];rfl) (has r W' _ rfl) (by rw[AW.get_add_ne _ _ (by omega)];exact hget) k1 k3;have hn3:W.next<W3.next:=by rw[AW.put_next,AW.add_next]at k2;omega
    rcases k4 with⟨rfl,k4⟩|⟨kx,k4⟩
    ·exact⟨true,_,hy,λ_=>⟨hP _ _ _ k4,by rw[AW.put_next];exact hn3,AW.get_put _ _ _⟩,λh=>by cases h⟩
    ·refine⟨false,W3.put W.next (.loop .done x.jump R nt ps ac bd),?_,λh=>by(cases h),λ_=>⟨x,kx,hQ _ _ _ k4,AW.get_put _ _ _⟩⟩;refine hy.trans ?_;cases x with
     |normal=>exact absurd rfl kx
     |exit i=>rfl
     |ret=>rfl)
 rcases h2 with⟨h2,h3,h4⟩|⟨x,h2,h3,h4⟩
 ·exact⟨.normal,W2,I1 h1 h4 (by simp),.inl ⟨rfl,h2⟩⟩
 ·exact⟨x,W2,OJ h1 h4,.inr ⟨h2,h3⟩⟩
theorem a4g{v:Ven}{sv:Value}{W0 W:AW}{bx nt:Nat}{R:Nat->Value}{ps:Array Tmp}{ac bd:Code}{ρ:Type}{K:X×AW->Option ρ}{G:ρ->Prop}(hs:Secs W0 sv v.secs)(hg:Good v.secs)
 (hb:aL (.pointer (some ⟨bx,3,none⟩)) (W.add (.loop .ready none R nt ps ac bd))=some (sv,W.add (.loop .ready none R nt ps ac bd)))(hp:ps.size=1)
 (J:List RowT->AW->Prop)(Q:X->AW->Prop)(h0:J [] (W.add (.loop .ready none R nt ps ac bd)))
 (hS:∀pre W',J pre W'->Le W0 W')(hA:∀pre W' cs,J pre W'->W.next<W'.next->J pre (W'.add (.cells cs)))(hP:∀pre W' o,J pre W'->J pre (W'.put W.next o))(hQ:∀x W' o,Q x W'->Q x (W'.put W.next o))
 (d:Nat)(has:∀r W' R',R'=qW ps.toList [a02 r] R->j5 Tryz.prog aK false nt ac LT R' W' sW=some (.normal,fC R' (some d) (.pointer (some ⟨W'.next,0,none⟩)),W'.add (.cells [.int .i64 (r.sec:Int),.int .i64 (r.row:Int),.int .i64 r.first,.int .i64 r.many])))
 (step:∀pre r W' b R',R'=fC (qW ps.toList [a02 r] R) (some d) (.pointer (some ⟨b,0,none⟩))->pre++[r]<+:gU v.secs->J pre W'->W.next<W'.next->rwCells W' b=some [.int .i64 (r.sec:Int),.int .i64 (r.row:Int),.int .i64 r.first,.int .i64 r.many]->W.next<b->b<W'.next->
   Ok (j5 Tryz.prog aK false nt bd LT R' W' sW) λq=>W'.next<=q.2.2.next/\q.2.2.get W.next=W'.get W.next/\((q.1=.normal/\J (pre++[r]) q.2.2)\/(q.1≠ .normal/\Q q.1 q.2.2)))
 (after:∀x W2,(x=.normal/\J (gU v.secs) W2)\/(x≠ .normal/\Q x W2)->Ok (K (x,W2.kill W.next)) G):
 Ok (aA (oI aK (.func (.func 190) #[] #[.pointer (some ⟨bx,0,none⟩)]) (.loop .ready none R nt ps ac bd) W) K) G:=by
 obtain⟨x,W2,h1,h2⟩:=a2E hs hg hb hp J Q h0 hS hA hP hQ d has step;rw[h1,wP];exact after x W2 h2
def eF(l:List RowT):Int:=lG (l.map (·.many))
def Firsts:Int->List RowT->Prop
 |_,[]=>True
 |s,r::l=>r.first=s/\Firsts (s+r.many) l
theorem nL:eF []=0:=rfl
theorem fT(r:RowT)(l:List RowT):eF (r::l)=r.many+eF l:=rfl
theorem oN(a b:List RowT):eF (a++b)=eF a+eF b:=by
 induction a with
 |nil=>simp[nL]
 |cons r a ih=>rw[List.cons_append,fT,fT,ih];omega
theorem Firsts.append:∀{a b:List RowT} {s:Int},Firsts s a->Firsts (s+eF a) b->Firsts s (a++b)
 |[],_,s,_,h=>by rw[nL,Int.add_zero]at h;exact h
 |r::a,b,s,⟨h1,h2⟩,h=>⟨h1,Firsts.append h2 (by rw[fT,<-Int.add_assoc]at h;exact h)⟩
theorem Firsts.at:∀{a b:List RowT} {r:RowT} {s:Int},Firsts s (a++r::b)->r.first=s+eF a
 |[],_,_,s,⟨h,_⟩=>by rw[h,nL,Int.add_zero]
 |x::a,b,r,s,⟨_,h⟩=>by rw[Firsts.at h,fT,Int.add_assoc]
theorem OI(l:List Sec)(i:Nat)(rows:List Int):∀{k:Nat},k<=rows.length->eF (IM l i rows k)=lG (rows.take k)
 |0,_=>rfl
 |k+1,hk=>by rw[tJ l i rows (by omega),oN,OI l i rows (by omega),tL (by omega),fT,nL,Int.add_zero]
theorem MK(l:List Sec)(i:Nat)(rows:List Int):∀{k:Nat},k<=rows.length->Firsts (dB (l.take i)) (IM l i rows k)
 |0,_=>trivial
 |k+1,hk=>by rw[tJ l i rows (by omega)];exact(MK l i rows (by omega)).append ⟨by rw[OI l i rows (by omega)],trivial⟩
theorem JR(l:List Sec):∀{n:Nat},n<=l.length->eF (vN l n)=dB (l.take n)
 |0,_=>rfl
 |n+1,hn=>by rw[pX l (by omega),oN,JR l (by omega),OI l n _ (Nat.le_refl _),uE (by omega),List.take_length]
theorem J5(l:List Sec):∀{n:Nat},n<=l.length->Firsts 0 (vN l n)
 |0,_=>trivial
 |n+1,hn=>by rw[pX l (by omega)];refine(J5 l (by omega)).append ?_;rw[JR l (by omega),Int.zero_add];exact MK l n _ (Nat.le_refl _)
theorem Z6(l:List Sec):eF (gU l)=dB l:=by have:=JR l (Nat.le_refl l.length);rwa [List.take_length]at this
theorem MB(l:List Sec):Firsts 0 (gU l):=J5 l (Nat.le_refl _)
def RowOf(l:List Sec)(r:RowT):Prop:=∃(hi:r.sec<l.length) (hk:r.row<l[r.sec].rows.length),r.many=l[r.sec].rows[r.row]
theorem zN{l:List Sec}{r:RowT}(h:r∈gU l):RowOf l r:=by unfold gU vN at h;obtain⟨i,hi,h⟩:=List.mem_flatMap.1 h;rw[List.mem_range]at hi;rw[List.getElem?_eq_getElem hi]at h;unfold IM at h;obtain⟨k,hk,rfl⟩:=List.mem_map.1 h;rw[List.mem_range]at hk;exact⟨hi,hk,by simp[List.getD_eq_getElem?_getD,List.getElem?_eq_getElem hk]⟩
theorem RowOf.many{l:List Sec}{r:RowT}(h:RowOf l r)(hg:Good l):1<=r.many/\r.many<=64/\r.sec<8/\r.row<16:=by obtain⟨hi,hk,hm⟩:=h;obtain⟨_,h2,h3⟩:=hg.rows _ (List.getElem_mem hi);have:=h3 _ (List.getElem_mem hk);have:=hg.len;omega
theorem JX{l:List RowT}(h:∀r∈l,1<=r.many):(l.length:Int)<=eF l:=by
 induction l with
 |nil=>simp[nL]
 |cons r l ih=>
  have h1:=h r (by simp);have h2:=ih λx hx=>h x (by simp[hx])
  rw[fT,List.length_cons];omega
theorem WF{a l:List RowT}(h:a<+:l)(hm:∀r∈l,1<=r.many):0<=eF a/\eF a<=eF l:=by
 obtain⟨b,rfl⟩:=h;have h1:=JX (l:=a) λr hr=>hm r (by simp[hr])
 have h2:=JX (l:=b) λr hr=>hm r (by simp[hr])
 rw[oN];omega
theorem VH{l:List Sec}(hg:Good l):0<=dB l/\dB l<=8192:=by have h:=(zV hg (Nat.le_refl l.length));rw[List.take_length]at h;have:=hg.len;omega
theorem YS{l:List Sec}(hg:Good l){pre:List RowT}{r:RowT}(h:pre++[r]<+:gU l):RowOf l r/\r.first=eF pre/\0<=eF pre/\eF (pre++[r])<=8192/\1<=r.many/\r.many<=64/\eF (pre++[r])=eF pre+r.many:=by
 have hm:∀r∈gU l,1<=r.many:=λr hr=>((zN hr).many hg).1
 have hr:r∈gU l:=h.subset (by simp);have h1:=WF h hm;have h2:=WF ((List.prefix_append pre [r]).trans h) hm;rw[Z6]at h1;obtain⟨b,hb⟩:=h;have hf:=MB l;rw[<-hb,List.append_assoc]at hf;have:=Firsts.at hf;have hx:=(zN hr).many hg;have:=VH hg;refine⟨zN hr,by omega,by omega,by omega,by omega,by omega,?_⟩;rw[oN,fT,nL,Int.add_zero]
theorem VF(l:List Sec)(i:Nat)(rows:List Int):∀{k:Nat},k<=rows.length->KV i rows k=(IM l i rows k).flatMap λr=>BS r.sec r.row r.many.toNat
 |0,_=>rfl
 |k+1,hk=>by rw[JG i rows (by omega),tJ l i rows (by omega),List.flatMap_append,<-VF l i rows (by omega),List.flatMap_cons,List.flatMap_nil,List.append_nil]
theorem a1n(l:List Sec):lW l=(gU l).flatMap λr=>BS r.sec r.row r.many.toNat:=by
 have:∀n,n<=l.length->F7 l n=(vN l n).flatMap λr=>BS r.sec r.row r.many.toNat:=by
  intro n;induction n with
  |zero=>intro _;rfl
  |succ n ih=>intro hn;rw[KR l (by omega),pX l (by omega),List.flatMap_append,<-ih (by omega),<-VF l n _ (Nat.le_refl _)]
 exact this _ (Nat.le_refl _)
theorem oL3(x:Value)(W:AW):rD Tryz.prog 3 x W=aL x W:=by kernel_rfl
theorem al3(W:AW):aW Tryz.prog 3 W=some (.pointer (some ⟨W.next,0,none⟩),W.add (.cells [.int .i64 0])):=Eq.trans (by kernel_rfl) rfl
theorem aDi(W:AW):aW Tryz.prog 210 W=some (.pointer (some ⟨W.next,0,none⟩),W.add (.cells [.int .i64 0,.int .i64 0,.int .i64 0,.int .i64 0])):=Eq.trans (by kernel_rfl) rfl
theorem aDh{b:Nat}{a c d e x y z u:Value}{W:AW}(h:rwCells W b=some [x,y,z,u])(h1:Eng.one a=true)(h2:Eng.one c=true)(h3:Eng.one d=true)(h4:Eng.one e=true):cB 4 (.pointer (some ⟨b,0,none⟩)) (.agg #[a,c,d,e]) W=some (undef,W.put b (.cells [a,c,d,e])):=by rw[a2W,h,Option.bind_some];have hc:(Value.agg #[a,c,d,e]).cells=#[a,c,d,e]:=WE _;rw[hc,if_pos ⟨rfl,by simp,by simp[h1,h2,h3,h4]⟩];rfl
theorem stI{b:Nat}{x:Value}{n:Int}{W:AW}(h:rwCells W b=some [x]):cB 1 (.pointer (some ⟨b,0,none⟩)) (.int .i64 n) W=some (undef,W.put b (.cells [.int .i64 n])):=by rw[a9v,h];rfl
theorem YL{b:Nat}{x:Value}{W:AW}(h:rwCells W b=some [x]):aL (.pointer (some ⟨b,0,none⟩)) W=some (x,W):=bY (fA h) rfl
theorem a7o{v:Ven}{sv:Value}{W:AW}(hs:SecsC W sv v.secs)(hv:v.secs.length<1000):aK (.func (.func 67) #[] #[]) [kN v sv] W=some (.tuple #[.int .i64 (iA v).1,.int .i64 (iA v).2],W):=by
 refine aN rfl ?_ OD;unfold LU iA;obtain⟨W1,hB,hle,hn,c4,c0,c3⟩:=KJ v sv W;have l2:Le W1 (W1.add (.cells [.int .i64 0])):=(Le.refl W1).add _;have hr:rwCells (W1.add (.cells [.int .i64 0])) W1.next=some [.int .i64 0]:=eD;have hn2:W1.next<(W1.add (.cells [.int .i64 0])).next:=by rw[AW.add_next];omega
 simp only[SX,hB,al3];generalize W1.add (.cells [.int .i64 0])=W2 at *;simp only[SX,c4 _ l2,M6 (hs.mono (hle.trans l2)) hv];by_cases he:(lZ v).2=0;case neg=>simp only[SX,he,if_false,stI hr,bE,oL3,YL (gP _),Option.bind_some,aB];exact⟨trivial,(hle.trans l2).put (by have:=hle.next;omega) _⟩
 obtain⟨hg,-⟩:=gY he;obtain⟨W3,q1,q2,q3,q4⟩:=a3i (v:=v) (sv:=sv) W2;have l3:W1.next<W3.next:=by have:=q2.next;omega
 simp only[SX,decide_eq_true he,c4 _ l2,q1,if_pos he];refine a4g (hs.mono hle).1 hg (q4 _ ((Le.refl _).add _)) rfl (λpre W'=>Le W1 W'/\rwCells W' W1.next=some [.int .i64 (eF pre)]) (λ_ _=>False) ⟨(l2.trans q2).add _,by rw[nG _ l3,q2.rwCells hn2];exact hr⟩ (λ_ _ h=>h.1)
  (λpre W' cs h hl=>⟨h.1.add _,by rw[nG _ (by omega)];exact h.2⟩) (λpre W' o h=>⟨h.1.put (by omega) _,by rw[fM _ (by omega)];exact h.2⟩) (λ_ _ _ h=>h) 6 ?_ ?_ ?_
 ·intro r W' R' hR;have r17:R' 17=a02 r:=by rw[hR];rfl
  rw[E9];unfold zA;simp only[SX,aDi,r17,aDh eD (vI _ _) (vI _ _) (vI _ _) (vI _ _),mI]
 ·intro pre r W' b R' hR hpre ⟨h1,h2⟩ hl hb hb1 hb2;have r2:R' 2=.pointer (some ⟨W1.next,0,none⟩):=by rw[hR];rfl
  have r6:R' 6=.pointer (some ⟨b,0,none⟩):=by rw[hR];rfl
  clear hR;rw[EF];unfold z8;obtain⟨k1,k2,k3,k4,k5,k6,k7⟩:=YS hg hpre;have ea:=aS (P:=Tryz.prog) (W:=W') (t:=3) (c:=false) (d:=false) (a:=eF pre) (b:=r.many) (by omega) (by omega);simp only[SX,r2,r6,YL h2,iK (o:=3) hb rfl,ea,stI h2,Nat.zero_add,aB];exact⟨by rw[AW.put_next];omega,by rw[AW.get_put_ne _ _ (by omega)],.inl ⟨trivial,h1.put (Nat.le_refl _) _,by rw[k7];exact gP _⟩⟩
 ·rintro x W4 (⟨rfl,h1,h2⟩|⟨_,h⟩);case inr=>exact h.elim
  have h3:rwCells (W4.kill W3.next) W1.next=some [.int .i64 (eF (gU v.secs))]:=by rw[<-h2];unfold rwCells;rw[AW.get_kill_ne _ (by omega)]
  simp only[SX,YL h3,stI h3,bE,oL3,YL (gP _),Option.bind_some,Z6,aB];exact⟨trivial,(hle.trans (h1.kill (by omega))).put (by have:=hle.next;omega) _⟩
abbrev aEu(r:RowT):List Value:=[.int .i64 (r.sec:Int),.int .i64 (r.row:Int),.int .i64 r.first,.int .i64 r.many]
theorem aER(n:Int)(W:AW):∃W1,bZ (.int .i64 n) W=some (.pointer (some ⟨W.next,0,none⟩),W1)/\W1.next=W.next+1/\Le W W1/\rwCells W1 W.next=some [.int .i64 n]:=
 ⟨_,PV _ _,AW.add_next _ _,(Le.refl W).add _,eD⟩
theorem aDw(W:AW):∃W1,aW Tryz.prog 3 W=some (.pointer (some ⟨W.next,0,none⟩),W1)/\W1.next=W.next+1/\Le W W1/\rwCells W1 W.next=some [.int .i64 0]:=⟨_,al3 W,AW.add_next _ _,(Le.refl W).add _,eD⟩
theorem a3F{W:AW}{b c:Nat}(h:b≠c):rwCells (W.kill b) c=rwCells W c:=by unfold rwCells;rw[W.get_kill_ne h]
theorem aDk{b:Nat}{a c d e:Int}{x y z u:Value}{W:AW}(h:rwCells W b=some [x,y,z,u]):cB 4 (.pointer (some ⟨b,0,none⟩)) (.agg #[.int .i64 a,.int .i64 c,.int .i64 d,.int .i64 e]) W=some (undef,W.put b (.cells [.int .i64 a,.int .i64 c,.int .i64 d,.int .i64 e])):=aDh h rfl rfl rfl rfl
def aCS(seat:Int)(r:RowT):Bool:=decide (r.first<=seat)&&decide (seat<r.first+r.many)
abbrev zs:List Value:=[.int .i64 0,.int .i64 0,.int .i64 0,.int .i64 0]
abbrev aDS:RowT:=⟨0,0,0,0⟩
def a1l(v:Ven)(seat:Int):RowT×Int:=if(lZ v).2=0 then(match(gU v.secs).find? (aCS seat)with
 |some r=>(r,0)
 |none=>(aDS,4))else(aDS,(lZ v).2)
def iF(sec:Int)(r:RowT):Bool:=decide ((r.sec:Int)=sec)
def a2Z:List RowT->Int
 |[]=>0
 |r::_=>r.first
def C8(v:Ven)(sec:Int):Int×Int×Int:=if(lZ v).2=0 then
 if eF ((gU v.secs).filter (iF sec))=0 then(0,0,4)else(a2Z ((gU v.secs).filter (iF sec)),eF ((gU v.secs).filter (iF sec)),0)
 else(0,0,(lZ v).2)
theorem mZ{α:Type}{p:α->Bool}{pre:List α}{r:α}(h:p r=true):(pre++[r]).filter p=pre.filter p++[r]:=by simp[List.filter_append,h]
theorem yK{α:Type}{p:α->Bool}{pre:List α}{r:α}(h:p r=false):(pre++[r]).filter p=pre.filter p:=by simp[List.filter_append,h]
theorem a5v{l:List RowT}{r:RowT}(h:l≠[]):a2Z (l++[r])=a2Z l:=by
 cases l with
 |nil=>exact absurd rfl h
 |cons=>rfl
theorem aCT{v:Ven}{sv:Value}{W:AW}{sec:Int}(hs:SecsC W sv v.secs)(hv:v.secs.length<1000):aK (.func (.func 156) #[] #[]) [kN v sv,.int .i64 sec] W=some (.tuple #[.int .i64 (C8 v sec).1,.int .i64 (C8 v sec).2.1,.int .i64 (C8 v sec).2.2],W):=by
 refine aN rfl ?_ Z4;unfold a0o C8;obtain⟨W1,hB,hle,hn,c4,c0,c3⟩:=KJ v sv W;obtain⟨W2,b2,n2,l2,r2⟩:=aER sec W1;obtain⟨W3,b3,n3,l3,r3⟩:=aDw W2;obtain⟨W4,b4,n4,l4,r4⟩:=aDw W3;have r34:rwCells W4 W2.next=some [.int .i64 0]:=by rw[l4.rwCells (by omega)];exact r3
 have l24:=l3.trans l4;have l02:=hle.trans l2;have hsn:=hle.next;have e2:∀(W':AW) a b,rwCells ((W'.put W2.next (.cells a)).put W3.next b) W2.next=some a:=λW' a b=>by rw[fM _ (by omega)];exact gP _
 have e3:∀(W':AW) a,rwCells (W'.put W2.next a) W3.next=rwCells W' W3.next:=λW' a=>fM _ (by omega)
 simp only[SX,hB,b2,b3,b4,c4 _ (l2.trans l24),M6 (hs.mono (l02.trans l24)) hv];by_cases he:(lZ v).2=0;case neg=>simp only[SX,he,if_false,stI r34,stI ((e3 _ _).trans r4),QU,oL3,YL (e2 _ _ _),YL (gP _),Option.bind_some,aB];exact⟨trivial,((l02.trans l24).put (by omega) _).put (by omega) _⟩
 obtain⟨hg,-⟩:=gY he;obtain⟨W5,q1,q2,q3,q4⟩:=a3i (v:=v) (sv:=sv) W4;have hn5:=q2.next;simp only[SX,decide_eq_true he,c4 _ (l2.trans l24),q1,if_pos he];refine a4g (hs.mono l02).1 hg (q4 _ ((Le.refl _).add _)) rfl (λpre W'=>Le W2 W'/\rwCells W' W2.next=some [.int .i64 (a2Z (pre.filter (iF sec)))]/\rwCells W' W3.next=some [.int .i64 (eF (pre.filter (iF sec)))])
  (λx W'=>False)
  ⟨(l24.trans q2).add _,by rw[nG _ (by omega),q2.rwCells (by omega)];exact r34,by rw[nG _ (by omega),q2.rwCells (by omega)];exact r4⟩ (λ_ _ h=>h.1)
  (λpre W' cs h hl=>⟨h.1.add _,by rw[nG _ (by omega)];exact h.2.1,by rw[nG _ (by omega)];exact h.2.2⟩)
  (λpre W' o h=>⟨h.1.put (by omega) _,by rw[fM _ (by omega)];exact h.2.1,by rw[fM _ (by omega)];exact h.2.2⟩)
  (λx W' o h=>h) 9 ?_ ?_ ?_
 ·intro r W' R' hR;have r17:R' 20=a02 r:=by rw[hR];rfl
  rw[NC];unfold II;simp only[SX,aDi,r17,aDk eD,mI]
 ·intro pre r W' b R' hR hpre ⟨h1,h2,h3⟩ hl hb hb1 hb2;have f3:R' 3=.pointer (some ⟨W1.next,0,none⟩):=by rw[hR];rfl
  have f4:R' 4=.pointer (some ⟨W2.next,0,none⟩):=by rw[hR];rfl
  have f5:R' 5=.pointer (some ⟨W3.next,0,none⟩):=by rw[hR];rfl
  have f8:R' 9=.pointer (some ⟨b,0,none⟩):=by rw[hR];rfl
  clear hR;rw[NA];unfold FZ;obtain⟨k1,k2,k3,k4,k5,k6,k7⟩:=YS hg hpre;have hse:rwCells W' W1.next=some [.int .i64 sec]:=by rw[h1.rwCells (by omega)];exact r2
  have hmp:∀x∈pre,1<=x.many:=λx hx=>((zN (((List.prefix_append pre [r]).trans hpre).subset hx)).many hg).1
  have hms:=JX (l:=pre.filter (iF sec)) (λx hx=>hmp x (List.mem_filter.1 hx).1);have hms2:eF (pre.filter (iF sec))<=eF pre:=by
   have:∀l:List RowT,(∀x∈l,1<=x.many)->eF (l.filter (iF sec))<=eF l:=by
    intro l;induction l with
    |nil=>intro _;exact Int.le_refl _
    |cons x l ih=>
     intro h;have:=ih λy hy=>h y (by simp[hy])
     have:=h x (by simp);rw[List.filter_cons];split
     ·rw[fT,fT];omega
     ·rw[fT];omega
   exact this _ hmp
  have ea:∀W',aD Tryz.prog .add 3 false false (.int .i64 (eF (pre.filter (iF sec)))) (.int .i64 r.many) W'=some (.int .i64 (eF (pre.filter (iF sec))+r.many),W'):=λW'=>aS (by omega) (by omega)
  simp only[SX,f3,f8,YL hse,iK (o:=0) hb rfl,Nat.zero_add];by_cases t1:(r.sec:Int)=sec;case neg=>have hin:iF sec r=false:=decide_eq_false t1;simp only[SX,t1,aB];exact⟨Nat.le_refl _,trivial,.inl ⟨trivial,h1,by rw[yK hin];exact h2,by rw[yK hin];exact h3⟩⟩
  have hin:iF sec r=true:=decide_eq_true t1;have hms3:eF (pre.filter (iF sec)++[r])=eF (pre.filter (iF sec))+r.many:=by rw[oN,fT,nL,Int.add_zero]
  simp only[SX,decide_eq_true t1,f5,YL h3];by_cases t2:eF (pre.filter (iF sec))=0
  ·have hnil:pre.filter (iF sec)=[]:=by rw[t2]at hms;exact List.length_eq_zero_iff.1 (by omega)
   have hb':rwCells (W'.put W2.next (.cells [.int .i64 r.first])) b=some (aEu r):=by rw[fM _ (by omega)];exact hb
   simp only[SX,decide_eq_true t2,f4,f5,f8,iK (o:=2) hb rfl,iK (o:=3) hb' rfl,Nat.zero_add,stI h2,YL ((e3 _ _).trans h3),ea,stI ((e3 _ _).trans h3),aB];exact⟨Nat.le_refl _,by rw[AW.get_put_ne _ _ (by omega),AW.get_put_ne _ _ (by omega)],.inl ⟨trivial,(h1.put (by omega) _).put (by omega) _,by rw[e2,mZ hin,hnil];rfl,by rw[gP,mZ hin,hms3]⟩⟩
  ·have hne:pre.filter (iF sec)≠[]:=λe=>t2 (by rw[e];rfl)
   simp only[SX,t2,f4,f5,f8,iK (o:=3) hb rfl,Nat.zero_add,YL h3,ea,stI h3,aB];exact⟨Nat.le_refl _,by rw[AW.get_put_ne _ _ (by omega)],.inl ⟨trivial,h1.put (by omega) _,by rw[fM _ (by omega),mZ hin,a5v hne];exact h2,by rw[gP,mZ hin,hms3]⟩⟩
 ·rintro x W6 (⟨rfl,h1,h2,h3⟩|⟨_,h⟩);case inr=>exact h.elim
  have k2:rwCells (W6.kill W5.next) W2.next=some [.int .i64 (a2Z ((gU v.secs).filter (iF sec)))]:=by rw[a3F (by omega)];exact h2
  have k3:rwCells (W6.kill W5.next) W3.next=some [.int .i64 (eF ((gU v.secs).filter (iF sec)))]:=by rw[a3F (by omega)];exact h3
  simp only[SX,YL k3];by_cases t2:eF ((gU v.secs).filter (iF sec))=0
  ·simp only[SX,decide_eq_true t2,if_pos t2,stI k2,stI ((e3 _ _).trans k3),QU,oL3,YL (e2 _ _ _),YL (gP _),Option.bind_some,aB];exact⟨trivial,(((l02.trans h1).kill (by omega)).put (by omega) _).put (by omega) _⟩
  ·have hag:p9 true (some (.int .i64 (eF ((gU v.secs).filter (iF sec))),(W6.kill W5.next).put W2.next (.cells [.int .i64 (a2Z ((gU v.secs).filter (iF sec)))]))) (.int .i64 (eF ((gU v.secs).filter (iF sec))))=true:=a7T rfl (tN _ _);simp only[SX,t2,if_neg t2,YL k2,YL k3,stI k2,YL ((e3 _ _).trans k3),hag,Bool.and_self,stI ((e3 _ _).trans k3),QU,oL3,YL (e2 _ _ _),YL (gP _),Option.bind_some,aB];exact⟨by simp only[if_false],(((l02.trans h1).kill (by omega)).put (by omega) _).put (by omega) _⟩
theorem ld3{b:Nat}{x y z:Value}{W:AW}(h:rwCells W b=some [x,y,z]):bH 3 (.pointer (some ⟨b,0,none⟩)) W=some (.agg #[x,y,z],W):=tF (fA h) rfl
def aEO(v:Ven)(seat:Int):Plc×Int:=if(a1l v seat).2=0 then(((a1l v seat).1.sec,(a1l v seat).1.row,(seat-(a1l v seat).1.first).toNat),0)else((0,0,0),(a1l v seat).2)
abbrev aEf(p:Plc):Value:=.agg #[.int .i64 (p.1:Int),.int .i64 (p.2.1:Int),.int .i64 (p.2.2:Int)]
theorem Plcs.get{W:AW}{v:Value}{l:List Plc}(h:Plcs W v l){i:Nat}(hi:i<l.length):∃b o,(∀W' k,gH 3 v (.int k (i:Int)) W'=some (.pointer (some ⟨b,o,none⟩),W'))/\
 ∀W',Le W W'->aL (.pointer (some ⟨b,o,none⟩)) W'=some (.int .i64 (l[i].1:Int),W')/\aL (.pointer (some ⟨b,o+1,none⟩)) W'=some (.int .i64 (l[i].2.1:Int),W')/\bH 3 (.pointer (some ⟨b,o,none⟩)) W'=some (aEf l[i],W'):=by
 obtain⟨a,c,rfl,h⟩:=h;rcases h with rfl|⟨b,o,cs,rfl,hb,hc,hat⟩
 ·simp at hi
 ·refine⟨b,o+i*3,λW' k=>nC hi,λW' hle=>?_⟩;have hc':=(hle.cellsAt hb).trans hc;obtain⟨h1,h2,h3⟩:=hat i hi;refine⟨bY hc' h1,bY hc' h2,?_⟩;have:=a7x h1 h2 h3;rw[F5,hc',Option.bind_some,this];rfl
theorem VJ(b:Bool):aU undef b=false:=Eq.trans (by unfold aU undef;rfl) rfl
def XQ{α:Type}(p:α->Bool)(l:List α):Nat:=if(l.filter p).length=0 then 0 else l.findIdx p
theorem a4S{α:Type}{p:α->Bool}{l:List α}{a:α}:XQ p (l++[a])=if p a=true/\(l.filter p).length=0 then l.length else XQ p l:=by
 unfold XQ;cases ha:p a with
 |false=>rw[yK ha];simp only[Bool.false_eq_true,false_and,if_false];by_cases h:(l.filter p).length=0
         ·rw[if_pos h,if_pos h]
         ·rw[if_neg h,if_neg h];have:l.findIdx p<l.length:=by rw[List.findIdx_lt_length];obtain⟨x,hx⟩:=List.exists_mem_of_length_pos (Nat.pos_of_ne_zero h);exact⟨x,(List.mem_filter.1 hx).1,(List.mem_filter.1 hx).2⟩
          rw[List.findIdx_append,if_pos this]
 |true=>
  rw[mZ ha];by_cases h:(l.filter p).length=0
  ·simp only[h,and_self,if_true,List.length_append,List.length_cons,List.length_nil];have hn:l.findIdx p=l.length:=by
    rw[List.findIdx_eq_length];intro x hx;cases hp:p x with
    |false=>rfl
    |true=>have:x∈l.filter p:=List.mem_filter.2 ⟨hx,hp⟩;rw[List.length_eq_zero_iff.1 h]at this;cases this
   rw[if_neg (by omega),List.findIdx_append,if_neg (by omega)];simp[List.findIdx_cons,ha]
  ·simp only[h,and_false,if_false];have:l.findIdx p<l.length:=by rw[List.findIdx_lt_length];obtain⟨x,hx⟩:=List.exists_mem_of_length_pos (Nat.pos_of_ne_zero h);exact⟨x,(List.mem_filter.1 hx).1,(List.mem_filter.1 hx).2⟩
   rw[if_neg (by rw[List.length_append];simp),List.findIdx_append,if_pos this]
def eO(sec:Int)(q:Plc):Bool:=decide ((q.1:Int)=sec)
def vZ(v:Ven)(sec:Int):Int×Int×Int:=if(lZ v).2=0 then
 if((lW v.secs).filter (eO sec)).length=0 then(0,0,4)else((XQ (eO sec) (lW v.secs):Nat),(((lW v.secs).filter (eO sec)).length:Nat),0)
 else(0,0,(lZ v).2)
theorem a9g{v:Ven}{sv:Value}{W:AW}{sec:Int}(hs:Secs W sv v.secs)(hv:v.secs.length<1000)(hr:∀s∈v.secs,s.rows.length<1000):aK (.func (.func 213) #[] #[]) [kN v sv,.int .i64 sec,.int .i64 (-1)] W=some (.tuple #[.int .i64 (vZ v sec).1,.int .i64 (vZ v sec).2.1,.int .i64 (vZ v sec).2.2],W):=by
 refine aN rfl ?_ UD;unfold OP vZ;obtain⟨W1,hB,hle,hn,c4,c0,c3⟩:=KJ v sv W;simp only[SX,hB,c4 _ (.refl _),UQ (hs.mono hle) hv hr];by_cases he:(lZ v).2=0;case neg=>simp only[SX,he,if_false,aB];exact⟨trivial,hle⟩
 obtain⟨hg,-⟩:=gY he;obtain⟨r,W2,q1,q2,q3⟩:=KA (hs.mono hle) hg;have hpl:=yD hg;have htm:=VH hg;simp only[SX,decide_eq_true he,if_pos he,c4 _ (.refl _),q1];have add1:∀(k:Nat) (W':AW),k<1000000->aD Tryz.prog .add 3 false true (.int .i64 (k:Int)) (.int .i64 1) W'=some (.int .i64 ((k+1:Nat):Int),W'):=λk W' hk=>aS (by omega) (by omega)
 generalize hl:lW v.secs=l at *;have hcb:∀i,((l.take i).filter (eO sec)).length<=l.length:=λi=>Nat.le_trans (List.length_filter_le _ _) (by rw[List.length_take];omega)
 refine bB l.length (by omega) (λi R W'=>W'=W2/\R 1=.int .i64 sec/\R 2=.int .i64 (-1)/\R 11=.int .i64 ((XQ (eO sec) (l.take i):Nat):Int)/\R 12=.int .i64 (((l.take i).filter (eO sec)).length:Int)/\R 13=r/\R 14=.int .i64 (i:Int))
  (λq=>q.2.2=W2/\q.1=.exit 0/\q.2.1 11=.int .i64 ((XQ (eO sec) l:Nat):Int)/\q.2.1 12=.int .i64 ((l.filter (eO sec)).length:Int)) ⟨rfl,rfl,rfl,rfl,rfl,rfl,rfl⟩ ?_ ?_ ?_
 ·rintro i R W' hi ⟨rfl,f1,f2,f11,f12,f13,f14⟩;unfold vT;have e1:((i:Int)<(l.length:Int)):=by omega
  obtain⟨b,o,p1,p2⟩:=q3.get hi;obtain⟨p3,p4,p5⟩:=p2 W' (.refl _);have ht:l.take (i+1)=l.take i++[l[i]]:=by rw[List.take_add_one,List.getElem?_eq_getElem hi];rfl
  have hti:(l.take i).length=i:=by rw[List.length_take];omega
  have hfs:=a4S (p:=eO sec) (l:=l.take i) (a:=l[i]);rw[hti,<-ht]at hfs;simp only[SX,f1,f2,f13,f14,q3.len aAo,e1,p1,Nat.add_zero,p3];by_cases t1:(l[i].1:Int)=sec;case neg=>have hp:eO sec l[i]=false:=decide_eq_false t1;rw[hp]at hfs;simp only[Bool.false_eq_true,false_and,if_false]at hfs;simp only[SX,t1,VJ,f14,add1 i _ (by omega),aB];exact .inl ⟨trivial,trivial,f1,f2,by rw[hfs];exact f11,by rw[ht,yK hp];exact f12,f13,rfl⟩
  have hp:eO sec l[i]=true:=decide_eq_true t1;rw[hp]at hfs;simp only[true_and]at hfs;have hc:=hcb i;simp only[SX,decide_eq_true t1,f2,decide_true,f12];by_cases t2:((l.take i).filter (eO sec)).length=0
  ·have t3:(((l.take i).filter (eO sec)).length:Int)=0:=by omega
   rw[if_pos t2]at hfs;simp only[SX,decide_eq_true t3,f12,f14,add1 i _ (by omega),add1 ((l.take i).filter (eO sec)).length _ (by omega),aB];refine .inl ⟨trivial,trivial,f1,f2,by rw[hfs];rfl,?_,f13,rfl⟩;rw[ht,mZ hp,List.length_append];rfl
  ·have t3:¬(((l.take i).filter (eO sec)).length:Int)=0:=by omega
   rw[if_neg t2]at hfs;simp only[SX,t3,f12,f14,add1 i _ (by omega),add1 ((l.take i).filter (eO sec)).length _ (by omega),aB];refine .inl ⟨trivial,trivial,f1,f2,by rw[hfs];exact f11,?_,f13,rfl⟩;rw[ht,mZ hp,List.length_append];rfl
 ·rintro R W' ⟨rfl,f1,f2,f11,f12,f13,f14⟩;unfold vT;have e1:¬((l.length:Int)<(l.length:Int)):=by omega
  rw[List.take_length]at f11 f12;simp only[SX,f13,f14,q3.len aAo,e1,aB];exact⟨by simp,trivial,trivial,f11,f12⟩
 ·rintro⟨x,R,W'⟩ ⟨hW,hx,f11,f12⟩;simp only at hW hx f11 f12;subst hW;subst hx;simp only[SX,f12];by_cases t2:(l.filter (eO sec)).length=0
  ·have t3:((l.filter (eO sec)).length:Int)=0:=by omega
   simp only[SX,decide_eq_true t3,if_pos t2,aB];exact⟨trivial,hle.trans q2⟩
  ·have t3:¬((l.filter (eO sec)).length:Int)=0:=by omega
   simp only[SX,t3,if_neg t2,f11,f12,aB];exact⟨trivial,hle.trans q2⟩
theorem a6i{v:Ven}{sv:Value}{W:AW}{sec:Int}(hs:Secs W sv v.secs)(hv:v.secs.length<1000)(hr:∀s∈v.secs,s.rows.length<1000):aK (.func (.func 155) #[] #[]) [kN v sv,.int .i64 sec] W=some (.tuple #[.int .i64 (vZ v sec).1,.int .i64 (vZ v sec).2.1,.int .i64 (vZ v sec).2.2],W):=by refine aN rfl ?_ a06;unfold a0D;obtain⟨W1,hB,hle,hn,c4,c0,c3⟩:=KJ v sv W;simp only[SX,hB,c4 _ (.refl _),a9g (hs.mono hle) hv hr,aB];exact⟨trivial,hle⟩
def vF(r:RowT):List Plc:=BS r.sec r.row r.many.toNat
theorem JM(r:RowT):(vF r).length=r.many.toNat:=by simp[vF,BS]
theorem VC{sec:Int}{r:RowT}(h:iF sec r=true):∀q∈vF r,eO sec q=true:=by intro q hq;unfold vF BS at hq;obtain⟨j,_,rfl⟩:=List.mem_map.1 hq;exact h
theorem a0m{sec:Int}{r:RowT}(h:iF sec r=false):∀q∈vF r,eO sec q=false:=by intro q hq;unfold vF BS at hq;obtain⟨j,_,rfl⟩:=List.mem_map.1 hq;exact h
theorem GL{sec:Int}:∀{L:List RowT},(∀r∈L,1<=r.many)->(((L.flatMap vF).filter (eO sec)).length:Int)=eF (L.filter (iF sec))
 |[],_=>rfl
 |r::L,hm=>by
  have hr:=hm r (by simp);have ih:=GL (sec:=sec) (L:=L) (λy hy=>hm y (by simp[hy]));rw[List.flatMap_cons,List.filter_append,List.length_append,List.filter_cons];cases h:iF sec r with
  |true=>rw[if_pos rfl,fT,<-ih,List.filter_eq_self.2 (VC h),JM];omega
  |false=>rw[if_neg (by simp),<-ih,List.filter_eq_nil_iff.2 (λq hq=>by rw[a0m h q hq];simp)];simp
theorem G5{sec:Int}:∀{L:List RowT} {s:Int} {r0:RowT} {l0:List RowT},Firsts s L->(∀r∈L,1<=r.many)->L.filter (iF sec)=r0::l0->s+((L.flatMap vF).findIdx (eO sec):Int)=r0.first
 |[],_,_,_,_,_,h=>by cases h
 |r::L,s,r0,l0,⟨hf,hF⟩,hm,h=>by
  have hr:=hm r (by simp);rw[List.flatMap_cons];rw[List.filter_cons]at h;cases hs:iF sec r with
  |true=>
   rw[hs,if_pos rfl]at h;injection h with h1 h2;subst h1;have:((vF r++L.flatMap vF).findIdx (eO sec))=0:=by
    cases hc:vF r with
    |nil=>have:=JM r;rw[hc]at this;simp at this;omega
    |cons q l=>have:=VC hs q (by rw[hc];simp);rw[List.cons_append,List.findIdx_cons,this];rfl
   rw[this];omega
  |false=>
   rw[hs,if_neg (by simp)]at h;have ih:=G5 hF (λy hy=>hm y (by simp[hy])) h;have hn:(vF r).findIdx (eO sec)=(vF r).length:=by rw[List.findIdx_eq_length];intro x hx;exact a0m hs x hx
   rw[List.findIdx_append,hn,if_neg (by omega),JM];omega
theorem a7f(v:Ven)(sec:Int):vZ v sec=C8 v sec:=by
 unfold vZ C8;by_cases he:(lZ v).2=0;case neg=>rw[if_neg he,if_neg he]
 rw[if_pos he,if_pos he];obtain⟨hg,-⟩:=gY he;have hm:∀x∈gU v.secs,1<=x.many:=λx hx=>((zN hx).many hg).1
 have hc:=GL (sec:=sec) hm;have hpl:(gU v.secs).flatMap vF=lW v.secs:=(a1n v.secs).symm;rw[hpl]at hc;by_cases h0:((lW v.secs).filter (eO sec)).length=0
 ·rw[if_pos h0,if_pos (by omega)]
 ·rw[if_neg h0,if_neg (by omega)];have hf:((XQ (eO sec) (lW v.secs):Nat):Int)=a2Z ((gU v.secs).filter (iF sec)):=by
   unfold XQ;rw[if_neg h0];cases hl:(gU v.secs).filter (iF sec)with
   |nil=>rw[hl]at hc;rw[nL]at hc;omega
   |cons r l=>have:=G5 (MB v.secs) hm hl;rw[hpl]at this;show _=r.first;omega
  rw[hf,hc]
def aCk(v:Ven)(seat:Int):Plc×Int:=if(iA v).2=0 then(if seat<0\/(iA v).1<=seat then((0,0,0),4)else((lW v.secs).getD seat.toNat (0,0,0),0))else((0,0,0),(iA v).2)
end Go.Proofs.YtnigceddndemkaaGreatDoor
namespace Go.Proofs.YtnigceddndemkaaGreatDoor.Ho
open Go Go.Eng Go.Hp
set_option maxRecDepth 100000
theorem a9y{o t:Option (Value×AW)}{v:Value}{W W':AW}(hv:(bC v&& !isU v)=false)(h:Ok t λr=>r=(v,W'))(hom:∀{r},t=some r->o=some (gc W r)):o=some (v,W'):=by obtain⟨r,h1,rfl⟩:=h;rw[hom h1,eG hv]
theorem Gr.mono{W W':AW}{A B:Nat->Prop}(h:Gr W W' A)(hs:∀b,A b->B b):Gr W W' B:=⟨h.next,λb hb hn=>h.get b hb λha=>hn (hs b ha)⟩
theorem Le.gr{W W':AW}(h:Le W W')(In:Nat->Prop):Gr W W' In:=⟨h.next,λb hb _=>h.get b hb⟩
structure St where
 q:Nat
 mh:Nat
 hm:Nat
 nx:Int
 n:Nat
 f:Nat->En
abbrev St.es(s:St):List (Int×Int):=xO s.n s.f
abbrev HT(W:AW)(In:Nat->Prop)(H:Nat)(many:Nat)(s:St):Prop:=HS W In H s.q s.mh s.hm (many:Int) s.nx s.n s.f
def SlS(W:AW)(B:Nat)(v:Value)(xs:List SeT):Prop:=(xs=[]/\v=.slice none 0 0)\/(xs≠[]/\B<W.next/\v=.slice (some ⟨B,0,none⟩) xs.length (dI+5)/\W.get B=some (.cells (xs.flatMap dU)))
section
variable {W W':AW} {B:Nat} {v:Value} {xs:List SeT}
theorem SlS.keep(h:SlS W B v xs)(hn:W.next<=W'.next)(hg:xs≠[]->W'.get B=W.get B):SlS W' B v xs:=by
 rcases h with h|⟨h0,h1,h2,h3⟩
 ·exact .inl h
 ·exact .inr ⟨h0,by omega,h2,by rw[hg h0];exact h3⟩
theorem SlS.lt(h:SlS W B v xs)(h0:xs≠[]):B<W.next:=by
 rcases h with⟨h,-⟩|⟨-,h1,-⟩
 ·exact absurd h h0
 ·exact h1
theorem SlS.ix(h:SlS W B v xs){j:Nat}{x:SeT}(hj:xs[j]? =some x)(W':AW)(k:IntKind):gH 5 v (.int k (j:Int)) W'=some (.pointer (some ⟨B,j*5,none⟩),W'):=by
 obtain⟨hi,-⟩:=List.getElem?_eq_some_iff.1 hj;rcases h with⟨rfl,-⟩|⟨h0,h1,rfl,h3⟩
 ·simp at hi
 ·have:=nC (W:=W') (z:=5) (b:=B) (o:=0) (l:=xs.length) (c:=dI+5) (i:=j) (k:=k) hi;rwa [Nat.zero_add]at this
theorem SlS.cells(h:SlS W B v xs){j:Nat}{x:SeT}(hj:xs[j]? =some x):W.get B=some (.cells (xs.flatMap dU)):=by
 obtain⟨hi,-⟩:=List.getElem?_eq_some_iff.1 hj;rcases h with⟨rfl,-⟩|⟨h0,h1,rfl,h3⟩
 ·simp at hi
 ·exact h3
theorem SlS.all(h:SlS W B v xs){j:Nat}{x:SeT}(hj:xs[j]? =some x):bH 5 (.pointer (some ⟨B,j*5,none⟩)) W=some (lY x,W):=by rw[F5,bK (h.cells hj)];simp only[Option.bind_some,WN dW hj,dW,if_true]
theorem SlS.st(h:SlS W B v xs){j:Nat}{x:SeT}(hj:xs[j]? =some x):aL (.pointer (some ⟨B,j*5,none⟩)) W=some (.int .i64 x.st,W):=bY (bK (h.cells hj)) (qM (o:=0) dW hj (by omega))
theorem SlS.put(h:SlS W B v xs){j:Nat}{x:SeT}(hj:xs[j]? =some x)(y:SeT):cB 5 (.pointer (some ⟨B,j*5,none⟩)) (lY y) W=some (undef,W.put B (.cells ((xs.set j y).flatMap dU)))/\SlS (W.put B (.cells ((xs.set j y).flatMap dU))) B v (xs.set j y):=by
 obtain⟨hi,-⟩:=List.getElem?_eq_some_iff.1 hj;refine⟨?_,?_⟩
 ·have:=AU (n:=5) (b:=B) (o:=j*5) (v:=lY y) (h.cells hj) rfl (by show j*5+5<=_;rw[aZ dW];omega) rfl;rw[this];show some (undef,W.put B (.cells (jS (xs.flatMap dU) (j*5) (dU y))))=_;rw[zY dW hj]
 ·rcases h with⟨rfl,-⟩|⟨h0,h1,rfl,h3⟩
  ·simp at hi
  ·exact .inr ⟨λe=>h0 ((List.set_eq_nil_iff _ _).1 e),h1,by rw[List.length_set],AW.get_put _ _ _⟩
theorem SlS.row(h:SlS W B v xs):SeL W v xs:=by
 have:Lst 0 W 5 dU v xs:=by
  rcases h with h|⟨h0,h1,h2,h3⟩
  ·exact .inl h
  ·exact .inr ⟨h0,B,Nat.zero_le _,h1,h2,h3⟩
 exact Lst.seats this
end
structure Md where
 M:Nat
 SB:Nat
 k:Nat
 many:Nat
 v:Ven
 sv:Value
 W0:AW
 T:Nat->Nat
 H:Nat->Nat
 tv:Nat->Value
 A:Nat->Nat->Prop
 s:Nat->St
def shE(H:Nat->Nat)(tv:Nat->Value)(i:Nat):List Value:=[hP (H i),tv i]
theorem H9(H:Nat->Nat)(tv:Nat->Value)(i:Nat):(shE H tv i).length=2:=rfl
def shC(k:Nat)(H:Nat->Nat)(tv:Nat->Value):List Value:=(List.range k).flatMap (shE H tv)
abbrev mV(M:Nat):Value:=.pointer (some ⟨M,0,none⟩)
structure MapP (K:Nat->Prop) (V:AW) (d:Md) (l:List SeT) (e:Nat->List (Int×Int)):Prop where
 up:∀b,V.next<=b->K b
 mc:V.get d.M=some (.cells [.int .i64 d.v.sh,.int .i64 d.v.ttl,.int .i64 d.v.ses,d.sv,.int .i64 (d.many:Int),.slice (some ⟨d.SB,0,none⟩) d.k d.k])
 ml:d.M<V.next
 kM:K d.M
 sc:V.get d.SB=some (.cells (shC d.k d.H d.tv))
 sl:d.SB<V.next
 sk:K d.SB
 ne:d.SB≠d.M
 vk:d.v.sh=(d.k:Int)
 kp:1<=d.k/\d.k<=16
 mn:d.many<=4096
 ll:l.length<=d.many
 col:∀i,i<d.k->SlS V (d.T i) (d.tv i) (fF l d.k i)
 tk:∀i,i<d.k->fF l d.k i≠[]->K (d.T i)/\d.T i≠d.M/\d.T i≠d.SB
 tt:∀i j,i<d.k->j<d.k->fF l d.k i≠[]->fF l d.k j≠[]->d.T i=d.T j->i=j
 ho:∀i,i<d.k->HT V (d.A i) (d.H i) d.many (d.s i)
 al:∀i,i<d.k->∀b,d.A i b->b<V.next
 ak:∀i,i<d.k->∀b,d.A i b->K b
 am:∀i,i<d.k->∀b,d.A i b->b≠d.M/\b≠d.SB
 at_:∀i j,i<d.k->j<d.k->fF l d.k j≠[]->¬d.A i (d.T j)
 aa:∀i j,i<d.k->j<d.k->∀b,d.A i b->d.A j b->i=j
 es:∀i,i<d.k->(d.s i).es.Perm (e i)
 w0:Le d.W0 V
 wk:∀b,K b->d.W0.next<=b
 secs:SecsC d.W0 d.sv d.v.secs
section
variable {K:Nat->Prop} {V:AW} {d:Md} {l:List SeT} {e:Nat->List (Int×Int)}
theorem aEl:((#[137]:Array TypeId)[0]?).bind Tryz.prog.underlying=some (.slice 144):=by kernel_rfl
theorem MapP.l4(h:MapP K V d l e):aL (.pointer (some ⟨d.M,4,none⟩)) V=some (.int .i64 (d.many:Int),V):=iK (bT h.mc) rfl
theorem MapP.l5(h:MapP K V d l e):aL (.pointer (some ⟨d.M,5,none⟩)) V=some (.slice (some ⟨d.SB,0,none⟩) d.k d.k,V):=iK (bT h.mc) rfl
theorem MapP.lv(h:MapP K V d l e):bH 4 (.pointer (some ⟨d.M,0,none⟩)) V=some (kN d.v d.sv,V):=qL (bK h.mc) rfl
theorem zU(b k c:Nat)(W:AW):aG Tryz.prog .len #[137] 3 #[false] [.slice (some ⟨b,0,none⟩) k c] W=some (.int .i64 (k:Int),W):=jB aEl _ _ _
theorem a3r{k i:Nat}(H:Nat->Nat)(tv:Nat->Value)(hi:i<k):(shC k H tv)[i*2]? =some (hP (H i))/\(shC k H tv)[i*2+1]? =some (tv i):=by have hr:(List.range k)[i]? =some i:=List.getElem?_range hi;exact⟨qM (o:=0) (H9 H tv) hr (by omega),qM (o:=1) (H9 H tv) hr (by omega)⟩
theorem MapP.h0(h:MapP K V d l e){i:Nat}(hi:i<d.k):aL (.pointer (some ⟨d.SB,i*2,none⟩)) V=some (hP (d.H i),V):=iK (bT h.sc) (a3r _ _ hi).1
theorem MapP.h1(h:MapP K V d l e){i:Nat}(hi:i<d.k):aL (.pointer (some ⟨d.SB,i*2+1,none⟩)) V=some (d.tv i,V):=iK (bT h.sc) (a3r _ _ hi).2
theorem QI{b k i:Nat}(hi:i<k)(W:AW)(q:IntKind):gH 2 (.slice (some ⟨b,0,none⟩) k k) (.int q (i:Int)) W=some (.pointer (some ⟨b,i*2,none⟩),W):=by have:=nC (W:=W) (z:=2) (b:=b) (o:=0) (l:=k) (c:=k) (i:=i) (k:=q) hi;rwa [Nat.zero_add]at this
theorem a1k(s k:Nat)(hk:0<k)(t:TypeId)(c d:Bool)(W:AW):aD Tryz.prog .rem t c d (.int .i64 (s:Int)) (.int .i64 (k:Int)) W=some (.int .i64 ((s % k:Nat):Int),W):=by rw[a04 (by omega)];rw[Int.tmod_eq_emod_of_nonneg (by omega)];rfl
theorem aEW(s k:Nat)(hk:0<k)(hs:s<9223372036854775808)(t:TypeId)(c d:Bool)(W:AW):aD Tryz.prog .quo t c d (.int .i64 (s:Int)) (.int .i64 (k:Int)) W=some (.int .i64 ((s/k:Nat):Int),W):=by rw[SI (by omega)];rw[Int.tdiv_eq_ediv_of_nonneg (by omega)];have h1:((s:Int)/(k:Int))=((s/k:Nat):Int):=rfl;have h2:s/k<=s:=Nat.div_le_self _ _;rw[h1];generalize s/k=q at *;rw[xH (by omega) (by omega)]
theorem u28:Tryz.prog.underlying 28=some (.pointer 139):=by kernel_rfl
theorem aEH(b:Nat)(c d:Bool)(W:AW):aD Tryz.prog .neq 28 c d (.pointer (some ⟨b,0,none⟩)) (.pointer none) W=some (.bool true,W):=by unfold aD kK j6;simp only[u28];rfl
theorem aAY(h:MapP K V d l e):aK (.func (.func 84) #[] #[]) [mV d.M] V=some (.bool true,V):=by refine aN rfl ?_ JH;unfold DW;have hk:decide ((0:Int)<(d.k:Int))=true:=decide_eq_true (by have:=h.kp.1;omega);simp only[SX,aEH,aH,Nat.zero_add,h.l5,zU,hk,aB];exact⟨trivial,Le.refl _⟩
theorem OL(h:MapP K V d l e){s:Nat}{x:SeT}(hs:l[s]? =some x):aK (.func (.func 81) #[] #[]) [mV d.M,.int .i64 (s:Int)] V=some (.pointer (some ⟨d.T (s % d.k),s/d.k*5,none⟩),V):=by refine a9y rfl ?_ KM;unfold DY;have hk:0<d.k:=h.kp.1;have hi:=Nat.mod_lt s hk;obtain⟨hlt,-⟩:=List.getElem?_eq_some_iff.1 hs;have:=h.ll;have:=h.mn;have hc:=NR hk hs;simp only[SX,aH,Nat.zero_add,h.l5,zU,a1k s d.k hk,QI hi,h.h1 hi,aEW s d.k hk (by omega),(h.col _ hi).ix hc,aB]
end
theorem HS.same{W W':AW}{In In':Nat->Prop}{H q mh hm:Nat}{se nx nx':Int}{n n':Nat}{f f':Nat->En}(h:HS W In H q mh hm se nx n f)(h':HS W' In' H q mh hm se nx' n' f')(hq:W'.get q=W.get q):nx=nx'/\n=n':=by
 obtain⟨⟨lv,bl,k1,-⟩,-⟩:=h.qs;obtain⟨⟨lv',bl',k1',-⟩,-⟩:=h'.qs;rw[k1.qc,k1'.qc]at hq;injection hq with hq;injection hq with hq;simp only[List.cons.injEq,and_true]at hq;obtain⟨e1,-,-,e2⟩:=hq;injection e2 with _ e2;refine⟨e2.symm,?_⟩;have p1:=k1.pile.sl;have p2:=k1'.pile.sl;rw[e1]at p2;cases p1 with
 |nil h=>cases p2 with
  |nil h'=>rw[h,h']
 |row b j h1 h2 h3=>cases p2 with
  |row b' j' h1' h2' h3'=>rfl
theorem HS.ql{W:AW}{In:Nat->Prop}{H q mh hm:Nat}{se nx:Int}{n:Nat}{f:Nat->En}(h:HS W In H q mh hm se nx n f):q<W.next:=by obtain⟨⟨lv,bl,k1,-⟩,-⟩:=h.qs;exact k1.lt
section
variable {K:Nat->Prop} {V V':AW} {d:Md} {l:List SeT} {e:Nat->List (Int×Int)}
theorem MapP.le(h:MapP K V d l e)(hl:Le V V'):MapP K V' d l e:=by
 have g:=λb hb=>hl.get b hb
 have hn:=hl.next
 exact{up:=λb hb=>h.up b (by omega),mc:=(g _ h.ml).trans h.mc,ml:=by have:=h.ml;omega,kM:=h.kM,sc:=(g _ h.sl).trans h.sc,sl:=by have:=h.sl;omega,sk:=h.sk,ne:=h.ne,vk:=h.vk,kp:=h.kp,mn:=h.mn,ll:=h.ll
       col:=λi hi=>(h.col i hi).keep hn λh0=>g _ ((h.col i hi).lt h0),tk:=h.tk,tt:=h.tt,ho:=λi hi=>(h.ho i hi).keep hn (λb hb _=>g b hb) (λb _ hx=>hx)
       al:=λi hi b hb=>by have:=h.al i hi b hb;omega
       ak:=h.ak,am:=h.am,at_:=h.at_,aa:=h.aa,es:=h.es,w0:=h.w0.trans hl,wk:=h.wk,secs:=h.secs}
theorem MapP.shift(h:MapP K V d l e)(hl:Le V V'):MapP (λb=>K b/\b<V.next\/V'.next<=b) V' d l e:=by
 have g:=λb hb=>hl.get b hb
 have hn:=hl.next
 exact{up:=λb hb=>.inr hb,mc:=(g _ h.ml).trans h.mc,ml:=by have:=h.ml;omega,kM:=.inl ⟨h.kM,h.ml⟩,sc:=(g _ h.sl).trans h.sc,sl:=by have:=h.sl;omega,sk:=.inl ⟨h.sk,h.sl⟩,ne:=h.ne,vk:=h.vk,kp:=h.kp,mn:=h.mn,ll:=h.ll
       col:=λi hi=>(h.col i hi).keep hn λh0=>g _ ((h.col i hi).lt h0),tk:=λi hi h0=>⟨.inl ⟨(h.tk i hi h0).1,(h.col i hi).lt h0⟩,(h.tk i hi h0).2⟩,tt:=h.tt,ho:=λi hi=>(h.ho i hi).keep hn (λb hb _=>g b hb) (λb _ hx=>hx)
       al:=λi hi b hb=>by have:=h.al i hi b hb;omega
       ak:=λi hi b hb=>.inl ⟨h.ak i hi b hb,h.al i hi b hb⟩,am:=h.am,at_:=h.at_,aa:=h.aa,es:=h.es,w0:=h.w0.trans hl
       wk:=λb hb=>by
        rcases hb with hb|hb
        ·exact h.wk b hb.1
        ·have:=h.w0.next;omega
       secs:=h.secs}
theorem MapP.weak{K':Nat->Prop}(h:MapP K V d l e)(hk:∀b,K b->K' b)(hw:∀b,K' b->d.W0.next<=b):MapP K' V d l e:=
 {h with up:=λb hb=>hk b (h.up b hb),kM:=hk _ h.kM,sk:=hk _ h.sk,tk:=λi hi h0=>⟨hk _ (h.tk i hi h0).1,(h.tk i hi h0).2⟩,ak:=λi hi b hb=>hk b (h.ak i hi b hb),wk:=hw}
theorem MapP.ent{e':Nat->List (Int×Int)}(h:MapP K V d l e)(he:∀i,i<d.k->(e i).Perm (e' i)):MapP K V d l e':={h with es:=λi hi=>(h.es i hi).trans (he i hi)}
theorem MapP.back{K':Nat->Prop}{U:AW}{l':List SeT}{e':Nat->List (Int×Int)}(hU:MapP K' U d l e)(h:MapP K V' d l' e')(hne:∀i,i<d.k->fF l' d.k i≠[]->fF l d.k i≠[])(hg:Le U V'):MapP K' U d l' e':=by
 have hc:∀i,i<d.k->SlS U (d.T i) (d.tv i) (fF l' d.k i):=λi hi=>by
  rcases h.col i hi with k|⟨k0,k1,k2,k3⟩
  ·exact .inl k
  ·have ht:=(hU.col i hi).lt (hne i hi k0);exact .inr ⟨k0,ht,k2,(hg.get _ ht).symm.trans k3⟩
 exact{hU with ll:=h.ll,col:=hc,tk:=λi hi h0=>hU.tk i hi (hne i hi h0),tt:=λi j hi hj h0 h1=>hU.tt i j hi hj (hne i hi h0) (hne j hj h1),at_:=λi j hi hj h0=>hU.at_ i j hi hj (hne j hj h0),es:=h.es}
def Md.on(d:Md)(i:Nat)(V V':AW)(s':St):Md:={d with A:=λj b=>if j=i then(d.A i b\/V.next<=b)/\b<V'.next else d.A j b,s:=λj=>if j=i then s' else d.s j}
theorem MapP.on(h:MapP K V d l e){i:Nat}(hi:i<d.k):HT V (λb=>d.A i b\/V.next<=b) (d.H i) d.many (d.s i)/\(∀b,(d.A i b\/V.next<=b)->K b)/\
 ∀V' s' ei,Gr V V' (λb=>d.A i b\/V.next<=b)->HT V' (λb=>d.A i b\/V.next<=b) (d.H i) d.many s'->s'.es.Perm ei->MapP K V' (d.on i V V' s') l (λj=>if j=i then ei else e j):=by
 have hik:∀b,(d.A i b\/V.next<=b)->K b:=λb hb=>by
  rcases hb with hb|hb
  ·exact h.ak i hi b hb
  ·exact h.up b hb
 refine⟨(h.ho i hi).keep (Nat.le_refl _) (λ_ _ _=>rfl) (λb _ hb=>.inl hb),hik,λV' s' ei g hs he=>?_⟩;have hn:=g.next;have gM:V'.get d.M=V.get d.M:=g.get _ h.ml λhx=>by
  rcases hx with hx|hx
  ·exact(h.am i hi _ hx).1 rfl
  ·have:=h.ml;omega
 have gS:V'.get d.SB=V.get d.SB:=g.get _ h.sl λhx=>by
  rcases hx with hx|hx
  ·exact(h.am i hi _ hx).2 rfl
  ·have:=h.sl;omega
 have gT:∀j,j<d.k->fF l d.k j≠[]->V'.get (d.T j)=V.get (d.T j):=λj hj h0=>g.get _ ((h.col j hj).lt h0) λhx=>by
  rcases hx with hx|hx
  ·exact h.at_ i j hi hj h0 hx
  ·have:=(h.col j hj).lt h0;omega
 have hA:∀j b,(d.on i V V' s').A j b->(j=i/\(d.A i b\/V.next<=b)/\b<V'.next)\/(j≠i/\d.A j b):=λj b hb=>by
  have hb':(if j=i then(d.A i b\/V.next<=b)/\b<V'.next else d.A j b):=hb;split at hb'
  ·rename_i c;exact .inl ⟨c,hb'⟩
  ·rename_i c;exact .inr ⟨c,hb'⟩
 have hx:∀j,j<d.k->∀b,(d.on i V V' s').A j b->(b<V.next/\d.A j b)\/(j=i/\V.next<=b/\b<V'.next):=λj hj b hb=>by
  rcases hA j b hb with⟨rfl,h1|h1,h2⟩|⟨c,h1⟩
  ·exact .inl ⟨h.al j hj b h1,h1⟩
  ·exact .inr ⟨rfl,h1,h2⟩
  ·exact .inl ⟨h.al j hj b h1,h1⟩
 refine{up:=λb hb=>h.up b (by omega),mc:=gM.trans h.mc,ml:=by have:=h.ml;exact Nat.lt_of_lt_of_le this hn,kM:=h.kM,sc:=gS.trans h.sc,sl:=Nat.lt_of_lt_of_le h.sl hn,sk:=h.sk,ne:=h.ne,vk:=h.vk,kp:=h.kp,mn:=h.mn,ll:=h.ll,col:=λj hj=>(h.col j hj).keep hn (gT j hj),tk:=h.tk,tt:=h.tt,ho:=?_,al:=?_,ak:=?_,am:=?_,at_:=?_,aa:=?_,es:=?_,w0:=?_,wk:=h.wk,secs:=h.secs}
 ·intro j hj;by_cases c:j=i
  ·subst c;show HT V' (λb=>if j=j then _ else _) (d.H j) d.many (if j=j then s' else d.s j);simp only[if_true];exact hs.keep (Nat.le_refl _) (λ_ _ _=>rfl) (λb hb hx=>⟨hx,hb⟩)
  ·show HT V' (λb=>if j=i then _ else d.A j b) (d.H j) d.many (if j=i then s' else d.s j);simp only[if_neg c];exact(h.ho j hj).keep hn (λb hb hx=>g.get b hb λhy=>by
    rcases hy with hy|hy
    ·exact c (h.aa j i hj hi b hx hy)
    ·omega) (λb _ hx=>hx)
 ·intro j hj b hb;rcases hx j hj b hb with⟨h1,-⟩|⟨-,-,h1⟩
  ·omega
  ·exact h1
 ·intro j hj b hb;rcases hx j hj b hb with⟨-,h1⟩|⟨-,h1,-⟩
  ·exact h.ak j hj b h1
  ·exact h.up b h1
 ·intro j hj b hb;rcases hx j hj b hb with⟨-,h1⟩|⟨-,h1,-⟩
  ·exact h.am j hj b h1
  ·exact⟨by have:=h.ml;show b≠d.M;omega,by have:=h.sl;show b≠d.SB;omega⟩
 ·intro j m hj hm h0 hb;rcases hx j hj _ hb with⟨-,h1⟩|⟨-,h1,-⟩
  ·exact h.at_ j m hj hm h0 h1
  ·have:=(h.col m hm).lt h0;exact absurd h1 (by show¬V.next<=d.T m;omega)
 ·intro j m hj hm b hb hb2;rcases hx j hj _ hb with⟨h0,h1⟩|⟨h0,h1,-⟩<;>rcases hx m hm _ hb2 with⟨h2,h3⟩|⟨h2,h3,-⟩
  ·exact h.aa j m hj hm b h1 h3
  ·omega
  ·omega
  ·rw[h0,h2]
 ·intro j hj;show((if j=i then s' else d.s j):St).es.Perm (if j=i then ei else e j);by_cases c:j=i
  ·rw[if_pos c,if_pos c];exact he
  ·rw[if_neg c,if_neg c];exact h.es j hj
 ·refine⟨Nat.le_trans h.w0.next hn,λb hb=>(g.get b (Nat.lt_of_lt_of_le hb h.w0.next) λhy=>?_).trans (h.w0.get b hb)⟩;exact absurd hb (Nat.not_lt.2 (h.wk b (hik b hy)))
theorem MapP.set(h:MapP K V d l e){s:Nat}{x:SeT}(hs:l[s]? =some x)(y:SeT):
 ∃V',cB 5 (.pointer (some ⟨d.T (s % d.k),s/d.k*5,none⟩)) (lY y) V=some (undef,V')/\MapP K V' d (l.set s y) e/\Gr V V' K/\V'.next=V.next/\∀b,b≠d.T (s % d.k)->V'.get b=V.get b:=by
 have hk:0<d.k:=h.kp.1;have hi:=Nat.mod_lt s hk;obtain⟨hlt,-⟩:=List.getElem?_eq_some_iff.1 hs;have hc:=NR hk hs;have h0:fF l d.k (s % d.k)≠[]:=λc=>by rw[c]at hc;simp at hc
 obtain⟨p1,p2⟩:=(h.col _ hi).put hc y;have hcol:∀i,i<d.k->fF (l.set s y) d.k i=if s % d.k=i then(fF l d.k i).set (s/d.k) y else fF l d.k i:=λi hi=>a05 hi hlt
 have hnil:∀i,i<d.k->(fF (l.set s y) d.k i≠[]<->fF l d.k i≠[]):=λi hi=>by
  rw[hcol i hi];split
  ·rw[ne_eq,List.set_eq_nil_iff]
  ·exact Iff.rfl
 have tK:=h.tk _ hi h0;have hg:∀b,b≠d.T (s % d.k)->(V.put (d.T (s % d.k)) (.cells (((fF l d.k (s % d.k)).set (s/d.k) y).flatMap dU))).get b=V.get b:=λb hb=>AW.get_put_ne _ _ λc=>hb c.symm
 refine⟨_,p1,?_,⟨Nat.le_refl _,λb hb hn=>hg b λc=>hn (by rw[c];exact tK.1)⟩,rfl,hg⟩
 exact{h with
  mc:=(hg _ λc=>tK.2.1 c.symm).trans h.mc,sc:=(hg _ λc=>tK.2.2 c.symm).trans h.sc,ll:=by rw[List.length_set];exact h.ll
  col:=λi hi'=>by
   rw[hcol i hi'];by_cases c:s % d.k=i
   ·subst c;rw[if_pos rfl];exact p2
   ·rw[if_neg c];exact(h.col i hi').keep (Nat.le_refl _) λh1=>hg _ λe=>c (h.tt i (s % d.k) hi' hi h1 h0 e).symm
  tk:=λi hi' h1=>h.tk i hi' ((hnil i hi').1 h1)
  tt:=λi j hi' hj h1 h2=>h.tt i j hi' hj ((hnil i hi').1 h1) ((hnil j hj).1 h2)
  ho:=λi hi'=>(h.ho i hi').keep (Nat.le_refl _) (λb hb hx=>hg b λc=>h.at_ i (s % d.k) hi' hi h0 (by rw[<-c];exact hx)) (λb _ hx=>hx)
  at_:=λi j hi' hj h1=>h.at_ i j hi' hj ((hnil j hj).1 h1)
  w0:=⟨h.w0.next,λb hb=>(hg b λc=>by have:=h.wk _ tK.1;omega).trans (h.w0.get b hb)⟩}
end
abbrev jZ(k i:Nat):Nat->Bool:=λj=>j % k==i
abbrev XP(k i s:Nat):Nat->Bool:=λj=>jZ k i j&& !(j==s)
theorem a7u{l:List SeT}{k i s:Nat}{p:Int×Int}(h:p∈bQ l (XP k i s)):p.1≠(s:Int):=by
 obtain⟨j,h1,h2,h3,rfl⟩:=kT.1 h;intro c;have:j=s:=by have c':(j:Int)=(s:Int):=c;omega
 simp[this]at h2
theorem aAm{l:List SeT}{k i s:Nat}(hs:s<l.length)(y:SeT):bQ (l.set s y) (XP k i s)=bQ l (XP k i s):=PY (by rw[List.length_set]) λj hj hp=>by rw[O4 hs,if_neg];intro c;subst c;simp at hp
theorem aBg{l:List SeT}{k i s:Nat}(hs:s<l.length)(hi:s % k≠i)(y:SeT):bQ (l.set s y) (jZ k i)=bQ l (jZ k i):=PY (by rw[List.length_set]) λj hj hp=>by rw[O4 hs,if_neg];intro c;subst c;exact hi (by simpa using hp)
theorem aBb{l:List SeT}{k s:Nat}(hs:s<l.length)(y:SeT):(bQ (l.set s y) (jZ k (s % k))).Perm (if y.st=1 then((s:Int),y.dl)::bQ l (XP k (s % k) s)else bQ l (XP k (s % k) s)):=by
 have:=PD (l:=l.set s y) (p:=jZ k (s % k)) (s:=s) (by rw[List.length_set];exact hs) (by simp);have e:nD (l.set s y) s=y:=by rw[O4 hs,if_pos rfl]
 unfold Q8 at this;rw[e]at this;have e2:=aAm (k:=k) (i:=s % k) hs y;unfold XP at e2;rw[e2]at this;exact this
def MapS(K:Nat->Prop)(V:AW)(M k many:Nat)(v:Ven)(W0:AW)(N:Int)(l:List SeT):Prop:=
 ∃d:Md,d.M=M/\d.k=k/\d.many=many/\d.v=v/\d.W0=W0/\(∀i,i<k->(d.s i).nx<=N)/\l.length=many/\(∀x,x∈l->uW x=0)/\MapP K V d l λi=>bQ l (jZ k i)
section
variable {K:Nat->Prop} {V:AW} {d:Md} {l:List SeT} {e:Nat->List (Int×Int)}
theorem a3p(h:MapP K V d l e){i:Nat}(hi:i<d.k):(d.s i).n=(e i).length:=by have:=(h.es i hi).length_eq;rw[R7]at this;exact this
theorem a2o(h:MapP K V d l e){i:Nat}(hi:i<d.k){p:Int×Int}{r:List (Int×Int)}(hp:(e i).Perm (p::r))(hr:(e i).length<=4096):
 ∃V' s',aK (.func (.func 150) #[] #[]) [hP (d.H i),.int .i64 p.1] V=some (.tuple #[.int .i64 p.2,.int .i64 0],V')/\MapP K V' (d.on i V V' s') l (λj=>if j=i then r else e j)/\Gr V V' K/\s'.q=(d.s i).q/\s'.mh=(d.s i).mh/\s'.hm=(d.s i).hm/\s'.nx=(d.s i).nx/\s'.n+1=(d.s i).n:=by
 obtain⟨o1,o2,o3⟩:=h.on hi;have hn:=a3p h hi;have hm:p∈(d.s i).es:=((h.es i hi).trans hp).mem_iff.2 (List.mem_cons_self ..);obtain⟨x,hx,ex⟩:=FQ.1 hm;have hes:=h.es i hi;generalize hs:d.s i=s at *;obtain⟨q,mh,hm',nx,n,f⟩:=s;obtain⟨m,rfl⟩:∃m,n=m+1:=⟨n-1,by simp only at hx;omega⟩;simp only at hn hx ex hes;obtain⟨V',g,k1,k2,k3,k4⟩:=a8C o1 hx (by omega);rw[ex]at k1 k3;refine⟨V',⟨q,mh,hm',nx,m,g⟩,k1,o3 V' ⟨q,mh,hm',nx,m,g⟩ r k4 k2 ?_,k4.mono o2,rfl,rfl,rfl,rfl,rfl⟩;exact List.Perm.cons_inv (k3.trans (hes.trans hp))
theorem LA(h:MapP K V d l e){i:Nat}(hi:i<d.k){p:Int×Int}(hp:∀x,x∈e i->x.1≠p.1)(hb:0<=p.1/\p.1<(d.many:Int)/\0<=p.2)(hr:(e i).length<=4096)(hnx:(d.s i).nx<1000000000000000):
 ∃V' s',aK (.func (.func 74) #[] #[]) [hP (d.H i),.int .i64 p.1,.int .i64 p.2] V=some (.int .i64 0,V')/\MapP K V' (d.on i V V' s') l (λj=>if j=i then p::e i else e j)/\Gr V V' K/\s'.q=(d.s i).q/\s'.mh=(d.s i).mh/\s'.hm=(d.s i).hm/\s'.nx=(d.s i).nx+1/\s'.n=(d.s i).n+1:=by
 obtain⟨o1,o2,o3⟩:=h.on hi;have hn:=a3p h hi;have hes:=h.es i hi;generalize hs:d.s i=s at *;obtain⟨q,mh,hm',nx,n,f⟩:=s;simp only at hn hes hnx;have I8:I8 (d.many:Int) p.1 p.2=false:=by unfold I8;rw[decide_eq_false (by omega),decide_eq_false (by omega),decide_eq_false (by omega)];rfl
 obtain⟨V',g,k1,k2,k3,k4⟩:=a9Y o1 I8 (λx hx c=>hp _ (hes.mem_iff.1 (FQ.2 ⟨x,hx,rfl⟩)) c) (show n<5000 by omega) hnx (λb hb=>.inr hb);exact⟨V',⟨q,mh,hm',nx+1,n+1,g⟩,k1,o3 V' ⟨q,mh,hm',nx+1,n+1,g⟩ _ k4 k2 (k3.trans (List.Perm.cons _ hes)),k4.mono o2,rfl,rfl,rfl,rfl,rfl⟩
theorem OV{K':Nat->Prop}{V':AW}{d':Md}{l':List SeT}{e':Nat->List (Int×Int)}(h:MapP K V d l e)(h':MapP K' V' d' l' e'){i:Nat}(hi:i<d.k)(hi':i<d'.k)(hH:d'.H i=d.H i)(hm:d'.many=d.many)(hq:(d'.s i).q=(d.s i).q)(hmh:(d'.s i).mh=(d.s i).mh)(hhm:(d'.s i).hm=(d.s i).hm)(hl:Le V V'):(d.s i).nx=(d'.s i).nx/\(d.s i).n=(d'.s i).n:=by have a:=h.ho i hi;have b:=h'.ho i hi';unfold HT at a b;rw[hH,hm,hq,hmh,hhm]at b;exact a.same b (hl.get _ a.ql)
end
section
variable {K:Nat->Prop} {V:AW} {M k many:Nat} {v:Ven} {W0:AW} {N:Int} {l:List SeT}
theorem vY(d:Md)(i:Nat)(V V':AW)(s':St)(j:Nat):(d.on i V V' s').s j=if j=i then s' else d.s j:=rfl
theorem ZC{d:Md}(hnx:∀i,i<d.k->(d.s i).nx<=N)(hlen:l.length=d.many)(hok:∀x,x∈l->uW x=0)(hM:MapP K V d l λi=>bQ l (jZ d.k i)){s:Nat}{x y:SeT}(hs:l[s]? =some x)(hy:uW y=0)(hN:N<1000000000000000):
 ∃V',aK (.func (.func 82) #[] #[]) [mV d.M,.int .i64 (s:Int),lY y] V=some (.tuple #[],V')/\MapS K V' d.M d.k d.many d.v d.W0 (N+1) (l.set s y)/\Gr V V' K/\
  ∀(K':Nat->Prop) U,MapP K' U d l (λi=>bQ l (jZ d.k i))->Le U V->Le U V'->MapP K' U d (l.set s y) λi=>bQ (l.set s y) (jZ d.k i):=by
 have hk:0<d.k:=hM.kp.1;have hi:=Nat.mod_lt s hk;obtain⟨hlt,ex⟩:=List.getElem?_eq_some_iff.1 hs;have hmn:=hM.mn;have hx:uW x=0:=hok x (by rw[<-ex];exact List.getElem_mem _);have sx:nD l s=x:=EB hs;have hdl:∀z:SeT,uW z=0->z.st=1->0<=z.dl:=λz hz h1=>by rw[FW h1]at hz;split at hz<;>omega
 have hok':∀z,z∈l.set s y->uW z=0:=λz hz=>by
  rcases List.mem_or_eq_of_mem_set hz with c|c
  ·exact hok z c
  ·rw[c];exact hy
 have l1:Le V (V.add (.cells (dU y))):=(Le.refl _).add _;have g1:(V.add (.cells (dU y))).get V.next=some (.cells (dU y)):=AW.get_add _ _;have n1:(V.add (.cells (dU y))).next=V.next+1:=AW.add_next _ _;have p1:=hM.shift l1;have main:Ok (uC aK (mV d.M) (.int .i64 (s:Int)) (lY y) V) λr=>r.1=.tuple #[]/\MapS K r.2 d.M d.k d.many d.v d.W0 (N+1) (l.set s y)/\Gr V r.2 K/\∀(K':Nat->Prop) U,MapP K' U d l (λi=>bQ l (jZ d.k i))->Le U V->Le U r.2->MapP K' U d (l.set s y) λi=>bQ (l.set s y) (jZ d.k i):=by
  unfold uC;simp only[SX,zJ,Nat.zero_add];generalize V.add (.cells (dU y))=V1 at *;obtain⟨K1,hK1⟩:∃K1:Nat->Prop,K1=λb=>K b/\b<V.next\/V1.next<=b:=⟨_,rfl⟩
  rw[<-hK1]at p1;have hK:∀b,K1 b->K b:=λb hb=>by
   rw[hK1]at hb;rcases hb with hb|hb
   ·exact hb.1
   ·exact hM.up b (by omega)
  have hKn:¬K1 V.next:=λhb=>by rw[hK1]at hb;rcases hb with hb|hb<;>omega
  have fin:∀(V2:AW) (d2:Md) (e2:Nat->List (Int×Int)),MapP K1 V2 d2 l e2->d2.M=d.M->d2.k=d.k->d2.many=d.many->d2.v=d.v->d2.W0=d.W0->d2.T=d.T->(∀i,i<d.k->(d2.s i).nx<=N+1)->Gr V1 V2 K1->
   (∀i,i<d.k->(e2 i).Perm (bQ (l.set s y) (jZ d.k i)))->∃V3,cB 5 (.pointer (some ⟨d.T (s % d.k),s/d.k*5,none⟩)) (lY y) V2=some (undef,V3)/\MapP K1 V3 d2 (l.set s y) e2/\MapS K V3 d.M d.k d.many d.v d.W0 (N+1) (l.set s y)/\Gr V V3 K:=by
   intro V2 d2 e2 p2 eM ek em ev eW eT hn2 gr he2;obtain⟨V3,q1,q2,q3,q4,q5⟩:=p2.set hs y;rw[eT,ek]at q1;refine⟨V3,q1,q2,⟨d2,eM,ek,em,ev,eW,hn2,by rw[List.length_set];exact hlen,hok',?_⟩,?_⟩
   ·exact(q2.ent λi hi'=>he2 i (by rw[<-ek];exact hi')).weak hK (by rw[eW];exact hM.wk)
   ·have g0:Gr V V2 K:=⟨Nat.le_trans l1.next gr.next,λb hb hn=>(gr.get b (by omega) λc=>hn (hK b c)).trans (l1.get b hb)⟩;exact g0.trans (q3.mono hK)
  have box:∀V2,Gr V1 V2 K1->V2.get V.next=some (.cells (dU y)):=λV2 gr=>(gr.get _ (by omega) hKn).trans g1
  have aT:∀o V2,vsame (.pointer (some ⟨o,V2,none⟩)) (.pointer (some ⟨o,V2,none⟩))=true:=λo V2=>a5d _ _
  have hc:=NR hk hs;have hst:aL (.pointer (some ⟨d.T (s % d.k),s/d.k*5,none⟩)) V1=some (.int .i64 x.st,V1):=(p1.col _ hi).st hc;have at1:=OL p1 hs;have es0:(bQ l (jZ d.k (s % d.k))).length<=4096:=Nat.le_trans (lC _ _) (by omega);have eb0:(bQ l (XP d.k (s % d.k) s)).length<=4096:=Nat.le_trans (lC _ _) (by omega);have hsp:=PD (l:=l) (p:=jZ d.k (s % d.k)) (s:=s) hlt (by simp);rw[sx]at hsp;have hps:=aBb (k:=d.k) hlt y;have hoth:∀i,i<d.k->i≠s % d.k->(bQ l (jZ d.k i)).Perm (bQ (l.set s y) (jZ d.k i)):=λi _ hne=>by rw[aBg hlt (λc=>hne c.symm)]
  by_cases cx:x.st=1
  ·have dx:=decide_eq_true cx;rw[if_pos cx]at hsp;have hv:Q8 l s=((s:Int),x.dl):=by unfold Q8;rw[sx]
   rw[hv]at hsp;obtain⟨V2,s2,r1,p2,gr2,e1,e2,e3,e4,e5⟩:=a2o p1 hi hsp es0;have b2:=box V2 gr2;have hn2:∀i,i<d.k->((d.on (s % d.k) V1 V2 s2).s i).nx<=N:=λi hi'=>by
    rw[vY];split
    ·rw[e4];exact hnx _ hi
    ·exact hnx i hi'
   by_cases cy:y.st=1
   ·have dy:=decide_eq_true cy;rw[if_pos cy]at hps;have hi2:s % d.k<(d.on (s % d.k) V1 V2 s2).k:=hi;obtain⟨V3,s3,t1,p3,gr3,f1,f2,f3,f4,f5⟩:=LA (p:=((s:Int),y.dl)) p2 hi2 (λz hz=>by rw[if_pos rfl]at hz;exact a7u hz) ⟨by show(0:Int)<=(s:Int);omega,by show(s:Int)<(d.many:Int);omega,hdl y hy cy⟩ (by rw[if_pos rfl];exact eb0) (by have:=hn2 _ hi;omega);have b3:=box V3 (gr2.trans gr3);have es3:∀i,i<d.k->((λj=>if j=s % d.k then((s:Int),y.dl)::(if s % d.k=s % d.k then bQ l (XP d.k (s % d.k) s)else bQ l (jZ d.k (s % d.k)))else(if j=s % d.k then bQ l (XP d.k (s % d.k) s)else bQ l (jZ d.k j))) i).Perm (bQ (l.set s y) (jZ d.k i)):=λi hi'=>by
     by_cases c:i=s % d.k
     ·simp only[c,if_true];exact hps.symm
     ·simp only[if_neg c];exact hoth i hi' c
    obtain⟨V4,u1,u2,u3,u4⟩:=fin V3 _ _ p3 rfl rfl rfl rfl rfl rfl (λi hi'=>by
     rw[vY];split
     ·rw[f4,vY,if_pos rfl,e4];have:=hnx _ hi;omega
     ·have:=hn2 i hi';omega) (gr2.trans gr3) es3;have at3:aK (.func (.func 81) #[] #[]) [mV d.M,.int .i64 (s:Int)] V3=some (.pointer (some ⟨d.T (s % d.k),s/d.k*5,none⟩),V3):=OL p3 hs;have h02:aL (.pointer (some ⟨d.SB,s % d.k*2,none⟩)) V2=some (hP (d.H (s % d.k)),V2):=p2.h0 hi2;have t1':aK (.func (.func 74) #[] #[]) [hP (d.H (s % d.k)),.int .i64 (s:Int),.int .i64 y.dl] V2=some (.int .i64 0,V3):=t1;simp only[SX,aH,Nat.zero_add,Nat.add_zero,p1.l5,zU,a1k s d.k hk,QI hi,at1,hst,dx,p1.h0 hi,r1,eB b2,dy,h02,dZ b2,t1',bM b3,at3,dG,rH,Bool.and_true,u1,aB];refine⟨trivial,u3,u4,λK' U hU hUV hl=>?_⟩;have:=(OV hU u2 (i:=s % d.k) hi hi rfl rfl (by rw[vY,if_pos rfl,f1,vY,if_pos rfl,e1]) (by rw[vY,if_pos rfl,f2,vY,if_pos rfl,e2]) (by rw[vY,if_pos rfl,f3,vY,if_pos rfl,e3]) hl).1;rw[vY,if_pos rfl,f4,vY,if_pos rfl,e4]at this;omega
   ·have dy:=decide_eq_false cy;rw[if_neg cy]at hps;obtain⟨V4,u1,u2,u3,u4⟩:=fin V2 _ _ p2 rfl rfl rfl rfl rfl rfl (λi hi'=>by have:=hn2 i hi';omega) gr2 (λi hi'=>by
     by_cases c:i=s % d.k
     ·simp only[c,if_true];exact hps.symm
     ·simp only[if_neg c];exact hoth i hi' c);have at3:aK (.func (.func 81) #[] #[]) [mV d.M,.int .i64 (s:Int)] V2=some (.pointer (some ⟨d.T (s % d.k),s/d.k*5,none⟩),V2):=OL p2 hs;simp only[SX,aH,Nat.zero_add,Nat.add_zero,p1.l5,zU,a1k s d.k hk,QI hi,at1,hst,dx,p1.h0 hi,r1,eB b2,dy,bM b2,at3,dG,rH,Bool.and_true,u1,aB];refine⟨trivial,u3,u4,λK' U hU hUV hl=>?_⟩;have:=(OV hU u2 (i:=s % d.k) hi hi rfl rfl (by rw[vY,if_pos rfl,e1]) (by rw[vY,if_pos rfl,e2]) (by rw[vY,if_pos rfl,e3]) hl).2;rw[vY,if_pos rfl]at this;omega
  ·have dx:=decide_eq_false cx;rw[if_neg cx]at hsp;by_cases cy:y.st=1
   ·have dy:=decide_eq_true cy;rw[if_pos cy]at hps;obtain⟨V3,s3,t1,p3,gr3,f1,f2,f3,f4,f5⟩:=LA (p:=((s:Int),y.dl)) p1 hi (λz hz=>a7u (hsp.mem_iff.1 hz)) ⟨by show(0:Int)<=(s:Int);omega,by show(s:Int)<(d.many:Int);omega,hdl y hy cy⟩ es0 (by have:=hnx _ hi;omega);have b3:=box V3 gr3;obtain⟨V4,u1,u2,u3,u4⟩:=fin V3 _ _ p3 rfl rfl rfl rfl rfl rfl (λi hi'=>by
     rw[vY];split
     ·rw[f4];have:=hnx _ hi;omega
     ·have:=hnx i hi';omega) gr3 (λi hi'=>by
     by_cases c:i=s % d.k
     ·simp only[c,if_true];exact(List.Perm.cons _ hsp).trans hps.symm
     ·simp only[if_neg c];exact hoth i hi' c);have at3:aK (.func (.func 81) #[] #[]) [mV d.M,.int .i64 (s:Int)] V3=some (.pointer (some ⟨d.T (s % d.k),s/d.k*5,none⟩),V3):=OL p3 hs;have t1':aK (.func (.func 74) #[] #[]) [hP (d.H (s % d.k)),.int .i64 (s:Int),.int .i64 y.dl] V1=some (.int .i64 0,V3):=t1;simp only[SX,aH,Nat.zero_add,Nat.add_zero,p1.l5,zU,a1k s d.k hk,QI hi,at1,hst,dx,eB g1,dy,p1.h0 hi,dZ g1,t1',bM b3,at3,dG,rH,Bool.and_true,u1,aB];refine⟨trivial,u3,u4,λK' U hU hUV hl=>?_⟩;have:=(OV hU u2 (i:=s % d.k) hi hi rfl rfl (by rw[vY,if_pos rfl,f1]) (by rw[vY,if_pos rfl,f2]) (by rw[vY,if_pos rfl,f3]) hl).2;rw[vY,if_pos rfl]at this;omega
   ·have dy:=decide_eq_false cy;rw[if_neg cy]at hps;obtain⟨V4,u1,u2,u3,u4⟩:=fin V1 d _ p1 rfl rfl rfl rfl rfl rfl (λi hi'=>by have:=hnx i hi';omega) (Gr.refl _ _) (λi hi'=>by
     by_cases c:i=s % d.k
     ·rw[c];exact hsp.trans hps.symm
     ·exact hoth i hi' c);simp only[SX,aH,Nat.zero_add,Nat.add_zero,p1.l5,zU,a1k s d.k hk,QI hi,at1,hst,dx,eB g1,dy,bM g1,dG,rH,Bool.and_true,u1,aB];refine⟨trivial,u3,u4,λK' U hU hUV hl=>?_⟩;refine hU.back (u2.ent λi hi'=>?_) (λi hi' h0=>?_) hl
    ·by_cases c:i=s % d.k
     ·rw[c];exact hsp.trans hps.symm
     ·exact hoth i hi' c
    ·intro c;apply h0;rw[a05 hi' hlt,c];split<;>rfl
 obtain⟨⟨r,V'⟩,h1,h2,h3,h4,h5⟩:=main;simp only at h2 h3 h4 h5;subst h2;exact⟨V',by rw[FY h1,eG rfl],h3,h4,h5⟩
theorem a9B(h:MapS K V M k many v W0 N l){s:Nat}{x y:SeT}(hs:l[s]? =some x)(hy:uW y=0)(hN:N<1000000000000000):
 ∃V',aK (.func (.func 82) #[] #[]) [mV M,.int .i64 (s:Int),lY y] V=some (.tuple #[],V')/\MapS K V' M k many v W0 (N+1) (l.set s y)/\Gr V V' K:=by
 obtain⟨d,rfl,rfl,rfl,rfl,rfl,hnx,hlen,hok,hM⟩:=h;obtain⟨V',h1,h2,h3,-⟩:=ZC hnx hlen hok hM hs hy hN;exact⟨V',h1,h2,h3⟩
end
theorem a7j(W:AW):dA Tryz.prog 38 [] W=some (lY NL,W):=Eq.trans (by kernel_rfl) rfl
theorem a3P(W:AW):dA Tryz.prog 42 [] W=some (jN (0,0),W):=Eq.trans (by kernel_rfl) rfl
theorem aDl(W:AW):∃W1,aW Tryz.prog 38 W=some (.pointer (some ⟨W.next,0,none⟩),W1)/\Le W W1/\W1.next=W.next+1/\W1.get W.next=some (.cells (dU NL)):=⟨_,aBk W,(Le.refl _).add _,AW.add_next _ _,AW.get_add _ _⟩
def KD(n:Int)(many:Nat):Int:=if n<0\/(many:Int)<=n then 4 else 0
def dO(i:Int)(k:Nat)(now:Int):Int:=if i<0\/(k:Int)<=i then 4 else if now<0 then 7 else 0
section
variable {K:Nat->Prop} {V:AW} {M k many:Nat} {v:Ven} {W0:AW} {N:Int} {l:List SeT}
theorem MapS.le{V':AW}(h:MapS K V M k many v W0 N l)(hl:Le V V'):MapS K V' M k many v W0 N l:=by obtain⟨d,a,b,c,e,f,g,i,j,p⟩:=h;exact⟨d,a,b,c,e,f,g,i,j,p.le hl⟩
theorem MapS.shift{V':AW}(h:MapS K V M k many v W0 N l)(hl:Le V V'):MapS (λb=>K b/\b<V.next\/V'.next<=b) V' M k many v W0 N l:=by obtain⟨d,a,b,c,e,f,g,i,j,p⟩:=h;exact⟨d,a,b,c,e,f,g,i,j,p.shift hl⟩
theorem MapS.weak{K':Nat->Prop}(h:MapS K V M k many v W0 N l)(hk:∀b,K b->K' b)(hw:∀b,K' b->W0.next<=b):MapS K' V M k many v W0 N l:=by obtain⟨d,a,b,c,e,rfl,g,i,j,p⟩:=h;exact⟨d,a,b,c,e,rfl,g,i,j,p.weak hk hw⟩
theorem MapS.up(h:MapS K V M k many v W0 N l){b:Nat}(hb:V.next<=b):K b:=by obtain⟨d,-,-,-,-,-,-,-,-,p⟩:=h;exact p.up b hb
theorem MapS.wk(h:MapS K V M k many v W0 N l){b:Nat}(hb:K b):W0.next<=b:=by obtain⟨d,-,-,-,-,rfl,-,-,-,p⟩:=h;exact p.wk b hb
theorem MapS.grow{N':Int}(h:MapS K V M k many v W0 N l)(hN:N<=N'):MapS K V M k many v W0 N' l:=by obtain⟨d,a,b,c,e,f,g,i,j,p⟩:=h;exact⟨d,a,b,c,e,f,λi hi=>Int.le_trans (g i hi) hN,i,j,p⟩
theorem MapS.len(h:MapS K V M k many v W0 N l):l.length=many:=by obtain⟨d,a,b,c,e,f,g,i,j,p⟩:=h;exact i
theorem MapS.kp(h:MapS K V M k many v W0 N l):1<=k/\k<=16:=by obtain⟨d,a,rfl,c,e,f,g,i,j,p⟩:=h;exact p.kp
theorem MapS.mn(h:MapS K V M k many v W0 N l):many<=4096:=by obtain⟨d,a,b,rfl,e,f,g,i,j,p⟩:=h;exact p.mn
theorem MapS.vk(h:MapS K V M k many v W0 N l):v.sh=(k:Int):=by obtain⟨d,a,rfl,c,rfl,f,g,i,j,p⟩:=h;exact p.vk
theorem MapS.ok(h:MapS K V M k many v W0 N l){x:SeT}(hx:x∈l):uW x=0:=by obtain⟨d,a,b,c,e,f,g,i,j,p⟩:=h;exact j x hx
theorem YH(h:MapS K V M k many v W0 N l):aK (.func (.func 84) #[] #[]) [mV M] V=some (.bool true,V):=by obtain⟨d,rfl,-,-,-,-,-,-,-,p⟩:=h;exact aAY p
theorem sM4(h:MapS K V M k many v W0 N l):aL (.pointer (some ⟨M,4,none⟩)) V=some (.int .i64 (many:Int),V):=by obtain⟨d,rfl,-,rfl,-,-,-,-,-,p⟩:=h;exact p.l4
theorem sM5(h:MapS K V M k many v W0 N l):∃B,aL (.pointer (some ⟨M,5,none⟩)) V=some (.slice (some ⟨B,0,none⟩) k k,V):=by obtain⟨d,rfl,rfl,-,-,-,-,-,-,p⟩:=h;exact⟨_,p.l5⟩
theorem OX(h:MapS K V M k many v W0 N l)(n:Int):aK (.func (.func 95) #[] #[]) [mV M,.int .i64 n] V=some (.int .i64 (KD n many),V):=by
 refine aN rfl ?_ EG;unfold zC;unfold KD;by_cases c1:n<0
 ·have d1:=decide_eq_true c1;rw[if_pos (.inl c1)];simp only[SX,nQ,nY,YH h,d1,aB];exact⟨trivial,Le.refl _⟩
 ·have d1:=decide_eq_false c1;by_cases c2:(many:Int)<=n
  ·have d2:=decide_eq_true c2;rw[if_pos (.inr c2)];simp only[SX,nQ,nY,YH h,d1,d2,aH,Nat.zero_add,sM4 h,aB];exact⟨trivial,Le.refl _⟩
  ·have d2:=decide_eq_false c2;rw[if_neg (by omega)];simp only[SX,nQ,nY,YH h,d1,d2,aH,Nat.zero_add,sM4 h,aB];exact⟨trivial,Le.refl _⟩
theorem CE(h:MapS K V M k many v W0 N l)(i now:Int):aK (.func (.func 75) #[] #[]) [mV M,.int .i64 i,.int .i64 now] V=some (.int .i64 (dO i k now),V):=by
 refine aN rfl ?_ D5;unfold wU;unfold dO;obtain⟨B,hB⟩:=sM5 h;by_cases c1:i<0
 ·have d1:=decide_eq_true c1;rw[if_pos (.inl c1)];simp only[SX,nQ,nY,YH h,d1,aB];exact⟨trivial,Le.refl _⟩
 ·have d1:=decide_eq_false c1;by_cases c2:(k:Int)<=i
  ·have d2:=decide_eq_true c2;rw[if_pos (.inr c2)];simp only[SX,nQ,nY,YH h,d1,d2,aH,Nat.zero_add,hB,zU,aB];exact⟨trivial,Le.refl _⟩
  ·have d2:=decide_eq_false c2;rw[if_neg (by omega)];by_cases c3:now<0
   ·have d3:=decide_eq_true c3;simp only[SX,nQ,nY,YH h,d1,d2,d3,aH,Nat.zero_add,hB,zU,if_pos c3,aB];exact⟨trivial,Le.refl _⟩
   ·have d3:=decide_eq_false c3;simp only[SX,nQ,nY,YH h,d1,d2,d3,aH,Nat.zero_add,hB,zU,if_neg c3,aB];exact⟨trivial,Le.refl _⟩
theorem sAt(h:MapS K V M k many v W0 N l){s:Nat}{x:SeT}(hs:l[s]? =some x):∃b o,aK (.func (.func 81) #[] #[]) [mV M,.int .i64 (s:Int)] V=some (.pointer (some ⟨b,o,none⟩),V)/\bH 5 (.pointer (some ⟨b,o,none⟩)) V=some (lY x,V)/\aL (.pointer (some ⟨b,o,none⟩)) V=some (.int .i64 x.st,V):=by obtain⟨d,rfl,rfl,-,-,-,-,-,-,p⟩:=h;have hk:0<d.k:=p.kp.1;have hc:=NR hk hs;have hi:=Nat.mod_lt s hk;exact⟨_,_,OL p hs,(p.col _ hi).all hc,(p.col _ hi).st hc⟩
def a0Q(l:List SeT)(n:Int):SeT:=if KD n l.length=0 then nD l n.toNat else NL
theorem X8{n:Int}{m:Nat}(h:KD n m=0):∃s:Nat,n=(s:Int)/\s<m:=by
 unfold KD at h;split at h
 ·omega
 ·rename_i c;exact⟨n.toNat,by omega,by omega⟩
theorem a9O(h:MapS K V M k many v W0 N l)(n:Int):aK (.func (.func 29) #[] #[]) [mV M,.int .i64 n] V=some (.tuple #[lY (a0Q l n),.int .i64 (KD n l.length)],V):=by
 refine aN rfl ?_ IK;unfold BI;obtain⟨V1,k1,l1,n1,g1⟩:=aDl V;have h1:=h.le l1;have hlen:=h.len;have st:=λy=>a1L (x:=y) g1
 have ld:=λy=>bM (x:=y) (W:=V1.put V.next (.cells (dU y))) (b:=V.next) (AW.get_put _ _ _)
 have hse:=OX h1 n;rw[<-hlen]at hse;unfold a0Q;by_cases c:KD n l.length=0
 ·have dc:=decide_eq_true c;obtain⟨s,rfl,hs⟩:=X8 c;obtain⟨b,o,a1,a2,-⟩:=sAt h1 (iJ hs);have d0:decide ((0:Int)=0)=true:=rfl;rw[c]at hse;simp only[SX,k1,hse,d0,a1,aH,a2,st,bE,D8,ld,Option.bind_some,aB];exact⟨by rw[c,if_pos rfl];rfl,l1.put (Nat.le_refl _) _⟩
 ·have dc:=decide_eq_false c;simp only[SX,k1,hse,dc,a7j,st,bE,D8,ld,Option.bind_some,aB];exact⟨by rw[if_neg c],l1.put (Nat.le_refl _) _⟩
def zX(l:List SeT)(n:Int)(y:SeT):Int:=if KD n l.length≠0 then KD n l.length else if uW y≠0 then 6 else 0
def jM(l:List SeT)(n:Int)(y:SeT):List SeT:=if zX l n y=0 then l.set n.toNat y else l
theorem a9m(h:MapS K V M k many v W0 N l)(n:Int)(y:SeT)(hN:N<1000000000000000):
 ∃V',aK (.func (.func 30) #[] #[]) [mV M,.int .i64 n,lY y] V=some (.int .i64 (zX l n y),V')/\MapS K V' M k many v W0 (N+1) (jM l n y)/\Gr V V' K:=by
 have hlen:=h.len;by_cases c:zX l n y=0;case neg=>
  refine⟨V,?_,?_,Gr.refl _ _⟩
  ·refine aN rfl ?_ nZ;unfold oW;have l1:Le V (V.add (.cells (dU y))):=(Le.refl _).add _;have g1:(V.add (.cells (dU y))).get V.next=some (.cells (dU y)):=AW.get_add _ _;simp only[SX,zJ,Nat.zero_add];generalize V.add (.cells (dU y))=V1 at *;have hse:=OX (h.le l1) n;rw[<-hlen]at hse;unfold zX at c|-;by_cases c1:KD n l.length=0
   ·have c0:¬KD n l.length≠0:=λx=>x c1
    rw[if_neg c0]at c|-;have c2:uW y≠0:=λe=>by rw[if_neg (λx=>x e)]at c;exact c rfl
    rw[c1]at hse;have d0:decide ((0:Int)=0)=true:=rfl;have d1:=decide_eq_false c2;simp only[SX,hse,d0,bM g1,jO,d1,aB];exact⟨by rw[if_pos c2],l1⟩
   ·rw[if_pos c1];have d1:=decide_eq_false c1;simp only[SX,hse,d1,aB];exact⟨trivial,l1⟩
  ·unfold jM;rw[if_neg c];exact h.grow (by omega)
 have c1:KD n l.length=0:=by apply Classical.byContradiction;intro x;unfold zX at c;rw[if_pos x]at c;exact x c
 have c2:uW y=0:=by apply Classical.byContradiction;intro x;unfold zX at c;rw[if_neg (λz=>z c1),if_pos x]at c;omega
 obtain⟨s,rfl,hs⟩:=X8 c1;have hl':jM l (s:Int) y=l.set s y:=by unfold jM;rw[if_pos c];rfl
 rw[hl',c];obtain⟨d,rfl,rfl,rfl,rfl,rfl,hnx,-,hok,p⟩:=h;have main:Ok (oW aK (mV d.M) (.int .i64 (s:Int)) (lY y) V) λr=>r.1=.int .i64 0/\MapS K r.2 d.M d.k d.many d.v d.W0 (N+1) (l.set s y)/\Gr V r.2 K/\(Le V r.2->MapS K V d.M d.k d.many d.v d.W0 (N+1) (l.set s y)):=by
  unfold oW;have l1:Le V (V.add (.cells (dU y))):=(Le.refl _).add _;have g1:(V.add (.cells (dU y))).get V.next=some (.cells (dU y)):=AW.get_add _ _;simp only[SX,zJ,Nat.zero_add];generalize V.add (.cells (dU y))=V1 at *;have p1:=p.le l1;have hS:MapS K V1 d.M d.k d.many d.v d.W0 N l:=⟨d,rfl,rfl,rfl,rfl,rfl,hnx,hlen,hok,p1⟩;have hse:=OX hS s;rw[<-hlen,c1]at hse;have d0:decide ((0:Int)=0)=true:=rfl;obtain⟨V',q1,q2,q3,q4⟩:=ZC hnx hlen hok p1 (iJ hs) c2 hN;simp only[SX,hse,d0,bM g1,jO,c2,q1,aB];refine⟨trivial,q2,(Le.gr l1 K).trans q3,λhl=>⟨d,rfl,rfl,rfl,rfl,rfl,λi hi=>by have:=hnx i hi;omega,by rw[List.length_set];exact hlen,λz hz=>?_,q4 K V p l1 hl⟩⟩;rcases List.mem_or_eq_of_mem_set hz with c|c
  ·exact hok z c
  ·rw[c];exact c2
 obtain⟨⟨r,V'⟩,h1,h2,h3,h4,h5⟩:=main;simp only at h2 h3 h4 h5;subst h2;rcases BG (W:=V) (W':=V') (.int .i64 0)with hg|⟨hg,hle⟩
 ·exact⟨V',by rw[nZ h1,hg],h3,h4⟩
 ·exact⟨V,by rw[nZ h1,hg],h5 hle,Gr.refl _ _⟩
theorem MapS.hold(h:MapS K V M k many v W0 N l){i:Nat}(hi:i<k):∃B H tv T,aL (.pointer (some ⟨M,5,none⟩)) V=some (.slice (some ⟨B,0,none⟩) k k,V)/\(∃In s,HT V In H many s/\s.es.Perm (bQ l (jZ k i)))/\aL (.pointer (some ⟨B,i*2,none⟩)) V=some (hP H,V)/\aL (.pointer (some ⟨B,i*2+1,none⟩)) V=some (tv,V)/\SlS V T tv (fF l k i):=by obtain⟨d,rfl,rfl,rfl,-,-,-,-,-,p⟩:=h;exact⟨_,_,_,_,p.l5,⟨_,_,p.ho i hi,p.es i hi⟩,p.h0 hi,p.h1 hi,p.col i hi⟩
end
section
variable {α:Type} {z:Nat} {f:α->List Value} {at_:List Value->Nat->α->Prop} {W:AW} {v:Value} {l:List α}
theorem FN(hf:∀a,(f a).length=z):∀(l:List α) (cs:List Value) (o:Nat),(∀i (h:i<l.length),(cs.drop (o+i*z)).take z=f l[i])->(cs.drop o).take (l.length*z)=l.flatMap f
 |[],cs,o,h=>by simp
 |a::l,cs,o,h=>by
  have h0:(cs.drop o).take z=f a:=by have:=h 0 (by simp);rw[Nat.zero_mul,Nat.add_zero]at this;exact this
  have ih:=FN hf l cs (o+z) λi hi=>by
   have h1:=h (i+1) (by simp;omega);have e:o+(i+1)*z=o+z+i*z:=by rw[Nat.add_mul,Nat.one_mul];omega
   rw[e]at h1;exact h1
  rw[List.length_cons,Nat.add_mul,Nat.one_mul,Nat.add_comm,List.take_add,h0,List.drop_drop,ih,List.flatMap_cons]
def OwnL(lo:Nat)(W:AW)(z:Nat)(f:α->List Value)(v:Value)(l:List α):Prop:=
 ∃B c,lo<=B/\B<W.next/\v=.slice (some ⟨B,0,none⟩) l.length c/\(l≠[]->W.get B=some (.cells (l.flatMap f)))
theorem OwnL.row{lo:Nat}(hf:∀a,(f a).length=z)(h:OwnL lo W z f v l)(hat:∀a pre post,at_ (pre++(f a++post)) pre.length a):Row W z at_ v l:=by
 obtain⟨B,c,h0,h1,rfl,h2⟩:=h;by_cases he:l=[]
 ·exact⟨_,c,rfl,.inl he⟩
 ·refine⟨_,c,rfl,.inr ⟨B,0,_,rfl,h1,bK (h2 he),λi hi=>?_⟩⟩;obtain⟨e1,e2⟩:=fV hf (List.getElem?_eq_getElem hi);rw[e1,Nat.zero_add,<-e2];exact hat _ _ _
theorem OwnL.one{lo:Nat}(h:OwnL lo W z f v l):Eng.one v=true:=by obtain⟨B,c,h0,h1,rfl,h2⟩:=h;rfl
theorem OwnL.same{lo:Nat}(h:OwnL lo W z f v l):M4 v v=true:=by obtain⟨B,c,h0,h1,rfl,h2⟩:=h;exact tT _ _ _ _
theorem OwnL.mono{lo:Nat}{W':AW}(h:OwnL lo W z f v l)(hl:Le W W'):OwnL lo W' z f v l:=by obtain⟨B,c,h0,h1,rfl,h2⟩:=h;exact⟨B,c,h0,Nat.lt_of_lt_of_le h1 hl.next,rfl,λhe=>(hl.get _ h1).trans (h2 he)⟩
theorem zR{ts:Array TypeId}{bytes:Nat}(hk:nK Tryz.prog ts z bytes=true)(hf:∀a,(f a).length=z)(h1:∀a,(f a).all Eng.one=true)(h:Row W z at_ v l)(hat:∀cs p a,at_ cs p a->(cs.drop p).take z=f a)
 (hn:l.length<1099511627776)(hb:(2*l.length+192)*bytes<=281474976710656){b:Nat}(hbl:b<W.next):∃u W',bF Tryz.prog W ts (.slice (some ⟨b,0,none⟩) 0 0) v=some (u,W')/\Le W W'/\OwnL b W' z f u l:=by
 obtain⟨a,c,rfl,h⟩:=h;by_cases he:l=[]
 ·subst he;exact⟨_,W,AY hk (Nat.le_refl 0) (by omega) (by simpa using hb),.refl _,b,0,Nat.le_refl _,hbl,rfl,λx=>absurd rfl x⟩
 ·rcases h with h|⟨B,o,cs,rfl,h2,h3,h4⟩
  ·exact absurd h he
  ·have e:l.flatMap f=(cs.drop o).take (l.length*z):=(FN hf l cs o λi hi=>hat _ _ _ (h4 i hi)).symm;have hall:(l.flatMap f).all Eng.one=true:=by rw[List.all_flatMap,List.all_eq_true];exactλa _=>h1 a
   refine⟨_,_,FO hk h3 e (aZ hf l) (List.length_pos_iff.2 he) hall hn hb,(Le.refl _).add _,W.next,_,by omega,by rw[AW.add_next];omega,rfl,λ_=>AW.get_add _ _⟩
end
theorem u25:Tryz.prog.underlying 25=some (.slice 38):=by kernel_rfl
theorem aEn(c d:Bool)(l k:Nat)(W:AW):aD Tryz.prog .eql 25 c d (.slice none l k) (.slice none 0 0) W=some (.bool true,W):=by unfold aD kK j6;simp only[u25];rfl
theorem aD9(c d:Bool)(a:Addr)(l k:Nat)(W:AW):aD Tryz.prog .eql 25 c d (.slice (some a) l k) (.slice none 0 0) W=some (.bool false,W):=by unfold aD kK j6;simp only[u25]
theorem a2S{W:AW}{v:Value}{l:List SeT}(h:SeL W v l)(hn:l.length<=10000):∃u W',aK (.func (.func 76) #[] #[]) [v] W=some (u,W')/\Le W W'/\SeL W' u l:=by
 have hh:=h;obtain⟨a,c,rfl,h⟩:=h;cases a with
 |none=>
  have main:Ok (bV aK (.slice none l.length c) W) λr=>Le W r.2/\SeL r.2 r.1 l:=by
   unfold bV;simp only[SX,aEn,aB];rcases h with h|⟨b,o,cs,h1,-⟩
   ·exact⟨Le.refl _,none,0,by rw[h];rfl,.inl h⟩
   ·cases h1
  exact XN main gN
 |some a=>
  have main:Ok (bV aK (.slice (some a) l.length c) W) λr=>Le W r.2/\SeL r.2 r.1 l:=by unfold bV;have l1:Le W (W.add (.cells [])):=(Le.refl _).add _;have n1:(W.add (.cells [])).next=W.next+1:=AW.add_next _ _;simp only[SX,aD9,a3K];generalize W.add (.cells [])=W1 at *;obtain⟨u,W',k1,k2,k3⟩:=zR a2G dW xY (hh.mono l1) (λ_ _ _=>a0C) (by omega) (by omega) (b:=W.next) (by omega);simp only[SX,k1,aB];exact⟨l1.trans k2,k3.row dW JS⟩
  exact XN main gN
theorem b25:(Tryz.prog.info? 38).map (·.bytes)=some 40:=by kernel_rfl
theorem t25:oG Tryz.prog 38=some 5:=by kernel_rfl
theorem z25:mE Tryz.prog 38=some (lY NL):=by kernel_rfl
theorem a03(n:Nat):EZ (dU NL) n=(List.replicate n NL).flatMap dU:=by
 induction n with
 |zero=>rfl
 |succ n ih=>show dU NL++EZ (dU NL) n=_;rw[ih,List.replicate_succ,List.flatMap_cons]
theorem aEa{n:Nat}(h:n<=10000)(W:AW):kY Tryz.prog 25 (.int .i64 (n:Int)) (.int .i64 (n:Int)) W=some (.slice (some ⟨W.next,0,none⟩) n n,W.add (.cells ((List.replicate n NL).flatMap dU))):=by
 show kY Tryz.prog 25 (.int .i64 (Int.ofNat n)) (.int .i64 (Int.ofNat n)) W=_;unfold kY;have e:=RV (z:=lY NL) (len:=n) (n:=5) rfl;have e2:(lK (lY NL) (n*5)).toList=(List.replicate n NL).flatMap dU:=by rw[e];exact a03 n
 have e3:((List.replicate n NL).flatMap dU).all bX=true:=by rw[<-a03];exact I4 _ _ rfl n
 simp only[u25,t25,z25,b25];rw[e2,if_pos ⟨Nat.le_refl _,by omega,by omega,e3⟩]
section
variable {K:Nat->Prop} {V:AW} {M k many:Nat} {v:Ven} {W0:AW} {N:Int} {l:List SeT}
theorem SlS.own{W:AW}{B:Nat}{v:Value}{xs:List SeT}(h:SlS W B v xs):SeL W v xs:=h.row
def shL(l:List SeT)(k:Nat)(i:Int):List SeT:=if dO i k 0=0 then fF l k i.toNat else []
theorem QC{i now:Int}{k:Nat}(h:dO i k now=0):∃s:Nat,i=(s:Int)/\s<k/\0<=now:=by
 unfold dO at h;split at h
 ·omega
 ·split at h
  ·omega
  ·rename_i c c2;exact⟨i.toNat,by omega,by omega,by omega⟩
theorem a4F(h:MapS K V M k many v W0 N l)(i:Int):∃u V',aK (.func (.func 18) #[] #[]) [mV M,.int .i64 i] V=some (.tuple #[u,.int .i64 (dO i k 0)],V')/\Le V V'/\SeL V' u (shL l k i):=by
 have hse:=CE h i 0;refine NW ?_ DD;unfold wI;by_cases c:dO i k 0=0
 ·have d1:=decide_eq_true c;obtain⟨s,rfl,hs,-⟩:=QC c;obtain⟨B,H,tv,T,b1,-,-,b3,b4⟩:=h.hold hs;have hl:(fF l k s).length<=10000:=by rw[iI];have h1:=h.len;have h2:=h.mn;have h3:=h.kp.1;unfold cnt;have:=Nat.div_le_self (l.length+k-1-s) k;have:=h.kp.2;omega
  obtain⟨u,V',k1,k2,k3⟩:=a2S b4.row hl;have d0:decide ((0:Int)=0)=true:=rfl;simp only[SX,hse,c,d0,aH,Nat.zero_add,Nat.add_zero,b1,QI hs,b3,k1,aB];refine⟨u,rfl,k2,?_⟩;unfold shL;rw[if_pos c];exact k3
 ·have d1:=decide_eq_false c;simp only[SX,hse,d1,aB];refine⟨_,rfl,Le.refl _,?_⟩;unfold shL;rw[if_neg c];exact Row.nil
def EP(l:List (Int×Int))(x:Int×Int):Prop:=x∈l/\∀y,y∈l->lS y x=false
theorem HS.first{W:AW}{In:Nat->Prop}{H q mh hm:Nat}{se nx:Int}{n:Nat}{f:Nat->En}(h:HS W In H q mh hm se nx n f)(hn:0<n):EP (xO n f) (GH n f):=by
 have hh:=h.qs.hp;refine⟨FQ.2 ⟨0,hn,by unfold GH;rw[if_neg (by omega)]⟩,λy hy=>?_⟩;obtain⟨i,hi,rfl⟩:=FQ.1 hy;unfold GH;rw[if_neg (by omega)];cases hc:lS (f i).v (f 0).v
 ·rfl
 ·exfalso;have hb:kD lS (f i) (f 0)=true:=by unfold kD;rw[hc];rfl
  have:=hh.first GZ i hi;rw[hb]at this;cases this
def Q4(l:List SeT)(k:Nat)(i:Int):Int:=if dO i k 0≠0 then dO i k 0 else if bQ l (jZ k i.toNat)=[]then 4 else 0
theorem a6q(h:MapS K V M k many v W0 N l)(i:Int):∃x:Int×Int,aK (.func (.func 22) #[] #[]) [mV M,.int .i64 i] V=some (.tuple #[jN x,.int .i64 (Q4 l k i)],V)/\(Q4 l k i≠0->x=(0,0))/\(Q4 l k i=0->EP (bQ l (jZ k i.toNat)) x):=by
 have key:∃x:Int×Int,Ok (rW aK (mV M) (.int .i64 i) V) λr=>(r.1=.tuple #[jN x,.int .i64 (Q4 l k i)]/\Le V r.2)/\(Q4 l k i≠0->x=(0,0))/\(Q4 l k i=0->EP (bQ l (jZ k i.toNat)) x):=by
  unfold rW;have l1:Le V (V.add (.cells [.int .i64 0,.int .i64 0])):=(Le.refl _).add _;have g1:(V.add (.cells [.int .i64 0,.int .i64 0])).get V.next=some (.cells [.int .i64 0,.int .i64 0]):=AW.get_add _ _;simp only[SX,a2j];generalize V.add (.cells [.int .i64 0,.int .i64 0])=V1 at *;have h1:=h.le l1;have hse:=CE h1 i 0;have st:=λy=>N9 y g1
  have ld:=λy:Int×Int=>F3 (v:=y) (W:=V1.put V.next (.cells [.int .i64 y.1,.int .i64 y.2])) (b:=V.next) (AW.get_put _ _ _)
  have fin:∀o,Le V (V1.put V.next o):=λo=>l1.put (Nat.le_refl _) o
  by_cases c:dO i k 0=0
  ·have d1:=decide_eq_true c;have en:Q4 l k i=if bQ l (jZ k i.toNat)=[]then 4 else 0:=by unfold Q4;rw[if_neg (λx=>x c)]
   obtain⟨s,rfl,hs,-⟩:=QC c;obtain⟨B,H,tv,T,b1,⟨In,q,b2,b5⟩,b3,b4,-⟩:=h1.hold hs;have hnx:=a7Q b2;have hq:(q.n=0)=(bQ l (jZ k s)=[]):=by have:=b5.length_eq;rw[R7]at this;apply propext;rw[<-List.length_eq_zero_iff];omega
   have d0:decide ((0:Int)=0)=true:=rfl;refine⟨GH q.n q.f,?_⟩;simp only[SX,hse,c,d0,aH,Nat.zero_add,Nat.add_zero,b1,QI hs,b3,hnx,st,bE,TN,ld,Option.bind_some,aB];refine⟨⟨?_,fin _⟩,?_,?_⟩
   ·rw[en];simp only[hq,Int.toNat_natCast]
   ·intro hne;rw[en]at hne;unfold GH;rw[if_pos];rw[hq];apply Classical.byContradiction;intro x;exact hne (if_neg x)
   ·intro he;rw[en]at he;have hne:¬bQ l (jZ k s)=[]:=λx=>by have x':bQ l (jZ k (s:Int).toNat)=[]:=x;rw[if_pos x']at he;omega
    have hn0:0<q.n:=by
     have:¬q.n=0:=by rw[hq];exact hne
     omega
    obtain⟨f1,f2⟩:=HS.first b2 hn0;exact⟨b5.mem_iff.1 f1,λy hy=>f2 y (b5.mem_iff.2 hy)⟩
  ·have d1:=decide_eq_false c;have en:Q4 l k i=dO i k 0:=by unfold Q4;rw[if_pos c]
   refine⟨(0,0),?_⟩;have ld0:bH 2 (.pointer (some ⟨V.next,0,none⟩)) (V1.put V.next (.cells [.int .i64 0,.int .i64 0]))=some (jN (0,0),V1.put V.next (.cells [.int .i64 0,.int .i64 0])):=ld (0,0);simp only[SX,hse,d1,a3P,st,bE,TN,ld0,Option.bind_some,aB];exact⟨⟨by rw[en],fin _⟩,λ_=>trivial,λx=>absurd (en.symm.trans x) c⟩
 obtain⟨x,r,k1,⟨k2,k3⟩,k4⟩:=key;exact⟨x,aN rfl ⟨r,k1,k2,k3⟩ FB,k4⟩
def KZ(l:List SeT)(i:Nat):List SeT:=l.take i++List.replicate (l.length-i) NL
theorem a8N(l:List SeT)(i:Nat):(KZ l i).length=l.length:=by unfold KZ;rw[List.length_append,List.length_take,List.length_replicate];omega
theorem a6U{l:List SeT}{i:Nat}(hi:i<l.length):(KZ l i)[i]? =some NL/\(KZ l i).set i (nD l i)=KZ l (i+1):=by
 have e:l.length-i=(l.length-(i+1))+1:=by omega
 have hlen:(l.take i).length=i:=by rw[List.length_take];omega
 unfold KZ;rw[e,List.replicate_succ];refine⟨by rw[List.getElem?_append_right (by omega),hlen,Nat.sub_self];rfl,?_⟩;rw[List.set_append_right _ _ (by omega),hlen,Nat.sub_self,List.set_cons_zero,List.take_add_one,iJ hi];simp
theorem a6V(l:List SeT):KZ l l.length=l:=by unfold KZ;rw[List.take_length,Nat.sub_self,List.replicate_zero,List.append_nil]
theorem aBC(a:Option Addr)(n c:Nat)(W:AW):aG Tryz.prog .len #[25] 3 #[false] [.slice a n c] W=some (.int .i64 (n:Int),W):=jB iX _ _ _
theorem a8M(h:MapS K V M k many v W0 N l):∃u V',aK (.func (.func 26) #[] #[]) [mV M] V=some (u,V')/\Le V V'/\SeL V' u l:=by
 refine XN ?_ EN;unfold yV;have hmn:=h.mn;have hlen:=h.len;have l1:Le V (V.add (.cells ((List.replicate many NL).flatMap dU))):=(Le.refl _).add _;have n1:(V.add (.cells ((List.replicate many NL).flatMap dU))).next=V.next+1:=AW.add_next _ _;have g1:(V.add (.cells ((List.replicate many NL).flatMap dU))).get V.next=some (.cells ((List.replicate many NL).flatMap dU)):=AW.get_add _ _;simp only[SX,YH h,aH,Nat.zero_add,Nat.add_zero,sM4 h,aEa (show many<=10000 by omega),aBC];generalize V.add (.cells ((List.replicate many NL).flatMap dU))=V1 at *;refine bB many (by omega) (λi R U=>U.next=V1.next/\Le V U/\U.get V.next=some (.cells ((KZ l i).flatMap dU))/\R 0=mV M/\R 3=.slice (some ⟨V.next,0,none⟩) many many/\R 14=.int .i64 (many:Int)/\R 15=.int .i64 (i:Int))
  (λr=>r.1=.exit 0/\r.2.2.next=V1.next/\Le V r.2.2/\r.2.2.get V.next=some (.cells (l.flatMap dU))/\r.2.1 3=.slice (some ⟨V.next,0,none⟩) many many) ⟨rfl,l1,by rw[g1];unfold KZ;rw[List.take_zero,hlen,Nat.sub_zero,List.nil_append],rfl,rfl,rfl,rfl⟩ ?_ ?_ ?_
 ·rintro i R U hi ⟨u1,u2,u3,r0,r3,r14,r15⟩;unfold mM;have t1:((i:Int)<(many:Int)):=by omega
  have t2:=λW'=>aS (P:=Tryz.prog) (W:=W') (t:=3) (c:=false) (d:=true) (a:=(i:Int)) (b:=1) (by omega) (by omega)
  have e3:((i+1:Nat):Int)=(i:Int)+1:=by omega
  obtain⟨b,o,a1,a2,-⟩:=sAt (h.le u2) (iJ (l:=l) (j:=i) (by omega));have ix:=λW' q=>nC (W:=W') (z:=5) (b:=V.next) (o:=0) (l:=many) (c:=many) (i:=i) (k:=q) hi
  obtain⟨x1,x2⟩:=a6U (l:=l) (i:=i) (by omega);have hst:=AU (n:=5) (b:=V.next) (o:=i*5) (v:=lY (nD l i)) u3 rfl (by show i*5+5<=_;rw[aZ dW,a8N];omega) rfl;have e4:jS ((KZ l i).flatMap dU) (i*5) (dU (nD l i))=(KZ l (i+1)).flatMap dU:=by rw[zY dW x1,x2]
  have hst':cB 5 (.pointer (some ⟨V.next,i*5,none⟩)) (lY (nD l i)) U=some (undef,U.put V.next (.cells ((KZ l (i+1)).flatMap dU))):=by rw[hst,<-e4];rfl
  simp only[SX,r0,r3,r14,r15,t1,decide_true,a1,aH,a2,ix,Nat.zero_add,hst',t2,aB];exact .inl ⟨trivial,u1,u2.put (Nat.le_refl _) _,AW.get_put _ _ _,r0,r3,r14,by rw[e3];rfl⟩
 ·rintro R U ⟨u1,u2,u3,r0,r3,r14,r15⟩;unfold mM;have t1:¬((many:Int)<(many:Int)):=by omega
  simp only[SX,r14,r15,t1,decide_false,aB];exact⟨by simp,trivial,u1,u2,by rw[<-hlen,a6V]at u3;exact u3,r3⟩
 ·rintro⟨q,R,U⟩ ⟨rfl,u1,u2,u3,r3⟩;simp only at u1 u2 u3 r3;simp only[SX,r3,aB];refine⟨u2,OwnL.row (lo:=0) dW ⟨V.next,many,Nat.zero_le _,by omega,by rw[hlen],λ_=>u3⟩ JS⟩
end
theorem a3h(x y:SeT):x=y<->x.st=y.st/\x.ow=y.ow/\x.dl=y.dl/\x.se=y.se/\x.ep=y.ep:=by obtain⟨a,b,c,d,e⟩:=x;obtain⟨a',b',c',d',e'⟩:=y;simp
instance:DecidableEq SeT:=λx y=>decidable_of_iff _ (a3h x y).symm
theorem g38:Tryz.prog.eqGuardType Tryz.prog.depth 38=false:=by kernel_rfl
theorem q38(x y:SeT):a0h Tryz.prog 8 38 (lY x) (lY y)=a1z [(x.st,y.st),(x.ow,y.ow),(x.dl,y.dl),(x.se,y.se),(x.ep,y.ep)]:=by kernel_rfl
theorem a8m(x y:SeT):([(x.st,y.st),(x.ow,y.ow),(x.dl,y.dl),(x.se,y.se),(x.ep,y.ep)].all λp=>p.1==p.2)=decide (x=y):=by rw[Bool.eq_iff_iff,decide_eq_true_eq,a3h];simp
theorem aEk(x y:SeT)(c d:Bool)(W:AW):aD Tryz.prog .eql 38 c d (lY x) (lY y) W=some (.bool (decide (x=y)),W):=by have:=G7 (W:=W) (c:=c) (d:=d) g38 ((q38 x y).trans (zM _));rw[this,a8m]
theorem aCQ(x y:SeT)(c d:Bool)(W:AW):aD Tryz.prog .neq 38 c d (lY x) (lY y) W=some (.bool (!decide (x=y)),W):=by have:=J9 (W:=W) (c:=c) (d:=d) g38 ((q38 x y).trans (zM _));rw[this,a8m]
theorem a0c(a:Int×Int):lS a a=false:=by unfold lS;simp
theorem a8U{a b c:Int×Int}(h1:lS a b=true)(h2:lS b c=true):lS a c=true:=by unfold lS at *;simp only[Bool.or_eq_true,Bool.and_eq_true,decide_eq_true_eq]at *;omega
theorem a6C{a b c:Int×Int}(h1:¬lS a b=true)(h2:¬lS b c=true):¬lS a c=true:=by unfold lS at *;simp only[Bool.or_eq_true,Bool.and_eq_true,decide_eq_true_eq]at *;omega
theorem a3l{a b:Int×Int}(h1:lS a b=false)(h2:lS b a=false):a=b:=by rw[Prod.ext_iff];unfold lS at *;simp only[Bool.or_eq_false_iff,Bool.and_eq_false_iff,decide_eq_false_iff_not]at *;omega
def Asc(l:List (Int×Int)):Prop:=l.Pairwise λa b=>lS b a=false
theorem a8d{l m:List (Int×Int)}(hp:l.Perm m)(hl:Asc l)(hm:Asc m):l=m:=
 hp.eq_of_pairwise (le:=λa b=>lS b a=false) (λa b _ _ h1 h2=>a3l h2 h1) hl hm
theorem a9G:yO Tryz.prog 144:=⟨_,_,Tryz.func144,by kernel_rfl,rfl⟩
theorem ZW{V:AW}{l:List (Int×Int)}{B c:Nat}{rest:List Value}(h0:l≠[])(hl:l.length<=10000)(hB:V.get B=some (.cells (l.flatMap oO++rest))):∃l':List (Int×Int),l'.Perm l/\Asc l'/\aK (.func (.func 78) #[] #[]) [.slice (some ⟨B,0,none⟩) l.length c,.func (.func 144) #[] #[]] V=some (.tuple #[],V.put B (.cells (l'.flatMap oO++rest))):=by
 have hpos:0<l.length:=List.length_pos_iff.2 h0;have ol:=λa b=>(UZ a b V).2.1
 have hO:OrdN l.length (λi j=>ZQ (l.getD i (0,0)) (l.getD j (0,0))):=⟨λi _ h=>absurd ((ol _ _).1 h) (by rw[a0c];decide),λi j k _ _ _ h1 h2=>(ol _ _).2 (a8U ((ol _ _).1 h1) ((ol _ _).1 h2)),λi j k _ _ _ h1 h2 h3=>a6C (λx=>h1 ((ol _ _).2 x)) (λx=>h2 ((ol _ _).2 x)) ((ol _ _).1 h3)⟩;obtain⟨l',e1,e2,e3⟩:=SG l oO (λa b=>lS a b) hO hpos λi j hi hj=>by rw[ol];simp[List.getD_eq_getElem?_getD,hi,hj]
 refine⟨l',e1,e2,CG ?_⟩;refine .inr ⟨B,c,l.map oO,rest,144,#[],λi j=>ZQ (l.getD i (0,0)) (l.getD j (0,0)),⟨?_,?_,?_,?_,?_,?_,?_,?_,?_,a9G,?_,?_,?_⟩⟩
 ·intro h;have:=congrArg List.length h;rw[List.length_map]at this;simp at this;exact h0 this
 ·rw[List.length_map];omega
 ·intro r hr;obtain⟨e,-,rfl⟩:=List.mem_map.1 hr;rfl
 ·intro r hr v hv;obtain⟨e,-,rfl⟩:=List.mem_map.1 hr;simp only[oO,List.mem_cons,List.not_mem_nil,or_false]at hv;rcases hv with rfl|rfl<;>rfl
 ·rw[List.length_map]
 ·rw[a3o];exact hB
 ·intro r hr v hv;obtain⟨e,-,rfl⟩:=List.mem_map.1 hr;simp only[oO,List.mem_cons,List.not_mem_nil,or_false]at hv;exact AA (by rcases hv with rfl|rfl<;>rfl)
 ·intro v hv;simp at hv
 ·intro g hg;cases hg
 ·intro i j hi hj;rw[List.length_map]at hi hj;rw[List.getElem_map,List.getElem_map];have e4:∀x:Int×Int,elV true (oO x)=jN x:=λx=>rfl
  rw[e4,e4];refine(a07 (UZ _ _ _).1).trans ?_;simp[List.getD_eq_getElem?_getD,hi,hj]
 ·rw[List.length_map];exact hO
 ·rw[e3,a3o]
theorem PL(x:Int×Int)(pre post:List Value):aAU (pre++(oO x++post)) pre.length x:=by
 have:∀i,(pre++(oO x++post))[pre.length+i]? =(oO x++post)[i]? :=λi=>by rw[List.getElem?_append_right (by omega),Nat.add_sub_cancel_left]
 exact⟨by have:=this 0;exact this,this 1⟩
theorem RX{W:AW}{B c:Nat}{l:List (Int×Int)}{rest:List Value}(hB:W.get B=some (.cells (l.flatMap oO++rest)))(hl:B<W.next):HoL W (.slice (some ⟨B,0,none⟩) l.length c) l:=by refine⟨_,c,rfl,.inr ⟨B,0,_,rfl,hl,bK hB,λi hi=>?_⟩⟩;obtain⟨e1,e2⟩:=fV jQ (List.getElem?_eq_getElem hi);rw[e1,Nat.zero_add,<-e2,List.append_assoc,List.append_assoc];exact PL _ _ _
def qH{α:Type}(p:α->Bool)(l:List α):Int:=match l.findIdx? p with|some i=>(i:Int)|none=> -1
theorem Q7{α:Type}{p:α->Bool}{l:List α}(h:∀x∈l,p x=false):qH p l= -1:=by unfold qH;rw[List.findIdx?_eq_none_iff.2 h]
theorem a0R{α:Type}{p:α->Bool}{l:List α}{i:Nat}(hi:i<l.length)(hp:p l[i]=true)(h:∀j (hj:j<i),p (l[j]'(by omega))=false):qH p l=(i:Int):=by unfold qH;rw[List.findIdx?_eq_some_iff_getElem.2 ⟨hi,hp,λj hj=>by rw[h j hj];decide⟩]
theorem UI{α:Type}(p:α->Bool)(l:List α):((∀x∈l,p x=false)/\qH p l= -1)\/∃i,∃hi:i<l.length,qH p l=(i:Int)/\p l[i]=true/\∀j (hj:j<i),p (l[j]'(by omega))=false:=by
 cases h:l.findIdx? p with
 |none=>exact .inl ⟨List.findIdx?_eq_none_iff.1 h,by unfold qH;rw[h]⟩
 |some i=>obtain⟨h1,h2,h3⟩:=List.findIdx?_eq_some_iff_getElem.1 h;exact .inr ⟨i,h1,by unfold qH;rw[h],h2,λj hj=>by have:=h3 j hj;simpa using this⟩
theorem a0i{W:AW}{v fv:Value}{l:List (Int×Int)}{p:Int×Int->Bool}(h:HoL W v l)(hp:∀x,x∈l->aK fv [jN x] W=some (.bool (p x),W))(hl:l.length<=10000):aK (.func (.func 196) #[] #[]) [v,fv] W=some (.int .i64 (qH p l),W):=by
 refine aN rfl ?_ jX;unfold fK;simp only[SX,h.len wW];refine bB l.length (by omega) (λi R V=>V=W/\R 0=v/\R 1=fv/\R 7=.int .i64 (l.length:Int)/\R 8=.int .i64 (i:Int)/\∀j (hj:j<i) (hj2:j<l.length),p l[j]=false)
  (λr=>r.2.2=W/\((r.1=.exit 0/\qH p l= -1)\/(r.1=.ret/\r.2.1 4=.int .i64 (qH p l)))) ⟨rfl,rfl,rfl,rfl,rfl,λj hj=>by omega⟩ ?_ ?_ ?_
 ·rintro i R V hi ⟨rfl,r0,r1,r7,r8,ha⟩;unfold dC;have t1:((i:Int)<(l.length:Int)):=by omega
  have t2:=λW'=>aS (P:=Tryz.prog) (W:=W') (t:=3) (c:=false) (d:=true) (a:=(i:Int)) (b:=1) (by omega) (by omega)
  have e3:((i+1:Nat):Int)=(i:Int)+1:=by omega
  obtain⟨b,o,i1,i2,i3⟩:=HoL.get h hi;cases hc:p l[i]with
  |true=>simp only[SX,r0,r1,r7,r8,t1,decide_true,i1,(i3 _ rfl).1,hp _ (List.getElem_mem hi),hc,aB];exact .inr ⟨by simp,trivial,.inr ⟨trivial,by rw[a0R hi hc λj hj=>ha j hj (by omega)];rfl⟩⟩
  |false=>
   simp only[SX,r0,r1,r7,r8,t1,decide_true,i1,(i3 _ rfl).1,hp _ (List.getElem_mem hi),hc,t2,aB];refine .inl ⟨trivial,trivial,r0,r1,r7,by rw[e3];rfl,λj hj hj2=>?_⟩;by_cases c:j=i
   ·subst c;exact hc
   ·exact ha j (by omega) hj2
 ·rintro R V ⟨rfl,r0,r1,r7,r8,ha⟩;unfold dC;have t1:¬((l.length:Int)<(l.length:Int)):=by omega
  simp only[SX,r7,r8,t1,decide_false,aB];refine⟨by simp,trivial,.inl ⟨trivial,Q7 λx hx=>?_⟩⟩;obtain⟨j,hj,rfl⟩:=List.mem_iff_getElem.1 hx;exact ha j hj hj
 ·rintro⟨q,R,V⟩ ⟨rfl,hq⟩;simp only at hq;rcases hq with⟨rfl,e⟩|⟨rfl,r4⟩
  ·simp only[SX,aB];exact⟨by rw[e],Le.refl _⟩
  ·simp only[SX,r4,aB];exact⟨trivial,Le.refl _⟩
theorem a3z{W:AW}{X:Nat}{now:Int}(hX:W.get X=some (.cells [.int .i64 now]))(hXl:X<W.next)(x:Int×Int):aK (.func (.func 141) #[] #[.pointer (some ⟨X,0,none⟩)]) [jN x] W=some (.bool (decide (now<x.2)),W):=by
 refine aN rfl ?_ zG;unfold uI;have oB:bZ (jN x) W=some (.pointer (some ⟨W.next,0,none⟩),W.add (.cells [.int .i64 x.1,.int .i64 x.2])):=fZ _;have g1:(W.add (.cells [.int .i64 x.1,.int .i64 x.2])).get W.next=some (.cells [.int .i64 x.1,.int .i64 x.2]):=AW.get_add _ _;have gX:(W.add (.cells [.int .i64 x.1,.int .i64 x.2])).get X=some (.cells [.int .i64 now]):=by rw[AW.get_add_ne _ _ (by omega)];exact hX
 simp only[SX,oB,Nat.zero_add,iK (o:=1) (bT g1) rfl,iK (o:=0) (bT gX) rfl,aB];exact⟨trivial,(Le.refl _).add _⟩
theorem a6h:pO Tryz.prog 32=some 2:=by kernel_rfl
theorem PK{b l h:Nat}{k:IntKind}(h1:h<=l)(W:AW):bU Tryz.prog 32 (.slice (some ⟨b,0,none⟩) l (dI+2)) (some (.int k (h:Int))) none none W=some (.slice (some ⟨b,h*2,none⟩) (l-h) (dI+2),W):=by
 obtain⟨e,he,hz⟩:=iD a6h;have h2:((⟨b,0,none⟩:Addr).add (h*2))=⟨b,h*2,none⟩:=by rw[dM];simp
 unfold bU iW;simp only[he,hz,dQ,jF,h1,if_true,true_and,if_pos (show 0<2 by omega),Nat.le_refl,h2]
theorem a3s(n:Nat):(Builtin.zeroCells (jN (0,0)).cells n).toList.length=n*2:=by unfold Builtin.zeroCells;simp[WE]
theorem a3A(n:Nat):(Builtin.zeroCells (jN (0,0)).cells n).toList.all bX=true:=by
 unfold Builtin.zeroCells;simp only[Array.toList_map,List.all_map,List.all_eq_true];intro i hi;show bX ((jN (0,0)).cells[i % (jN (0,0)).cells.size]!)=true;have:i % (jN (0,0)).cells.size=0\/i % (jN (0,0)).cells.size=1:=by have:(jN (0,0)).cells.size=2:=rfl;rw[this];omega
 rcases this with e|e<;>rw[e]<;>rfl
theorem e32:lH Tryz.prog 32=some 42:=by kernel_rfl
theorem t42:oG Tryz.prog 42=some 2:=by kernel_rfl
theorem z42:mE Tryz.prog 42=some (jN (0,0)):=by kernel_rfl
theorem a8v{W:AW}{B o n c:Nat}{cs:List Value}(hB:W.get B=some (.cells cs))(hl:cs.length=o+n*2):∃rest,aG Tryz.prog .clear #[32] 0 #[false] [.slice (some ⟨B,o,none⟩) n c] W=some (.tuple #[],W.put B (.cells (cs.take o++rest)))\/(n=0/\aG Tryz.prog .clear #[32] 0 #[false] [.slice (some ⟨B,o,none⟩) n c] W=some (.tuple #[],W)):=by
 by_cases h0:n=0
 ·subst h0;exact⟨[],.inr ⟨rfl,by unfold aG EA;simp only[e32,t42,z42,if_true];rfl⟩⟩
 ·refine⟨(Builtin.zeroCells (jN (0,0)).cells n).toList,.inl ?_⟩;have e:EA Tryz.prog W #[32] (.slice (some ⟨B,o,none⟩) n c)=some (W.put B (.cells (cs.take o++(Builtin.zeroCells (jN (0,0)).cells n).toList))):=by
   unfold EA;simp only[e32,t42,z42,if_neg h0,if_pos (And.intro (a3A n) (show 0<2 by omega))];rw[OA,hB];simp only;have hall:(Builtin.zeroCells (jN (0,0)).cells n).toList.all Eng.one=true:=by
    have:=a3A n;rw[List.all_eq_true]at this|-;intro x hx;have:=this x hx;unfold Builtin.zeroCells at hx;simp only[Array.toList_map,List.mem_map]at hx;obtain⟨i,-,rfl⟩:=hx;have h2:i % (jN (0,0)).cells.size=0\/i % (jN (0,0)).cells.size=1:=by have:(jN (0,0)).cells.size=2:=rfl;rw[this];omega
    rcases h2 with e|e<;>rw[e]<;>rfl
   rw[if_pos ⟨by rw[a3s];omega,hall⟩];unfold jS;rw[List.drop_of_length_le (by rw[a3s];omega),List.append_nil]
  unfold aG;simp only[e,Option.map_some]
def dN(now:Int)(x:Int×Int):Bool:=decide (x.2<=now)
theorem a5u{α:Type}{z:Nat}{f:α->List Value}(hf:∀a,(f a).length=z)(ys:List α){m:Nat}(hm:m<=ys.length):(ys.flatMap f).take (m*z)=(ys.take m).flatMap f:=by
 have e:ys.flatMap f=(ys.take m).flatMap f++(ys.drop m).flatMap f:=by rw[<-List.flatMap_append,List.take_append_drop]
 have e2:((ys.take m).flatMap f).length=m*z:=by rw[aZ hf,List.length_take,Nat.min_eq_left hm]
 rw[e,<-e2,List.take_left]
theorem a9H(W:AW)(x:Int×Int):∃W1 W2,aW Tryz.prog 42 W=some (.pointer (some ⟨W.next,0,none⟩),W1)/\cB 2 (.pointer (some ⟨W.next,0,none⟩)) (jN x) W1=some (undef,W2)/\Le W W2/\W2.next=W.next+1/\W2.get W.next=some (.cells [.int .i64 x.1,.int .i64 x.2]):=
 ⟨_,_,a2j W,N9 x (AW.get_add _ _),((Le.refl _).add _).put (Nat.le_refl _) _,rfl,AW.get_put _ _ _⟩
theorem aA7{V:AW}{B X:Nat}{now:Int}{l:List (Int×Int)}(hB:V.get B=some (.cells (l.flatMap oO)))(hBl:B<V.next)(hX:V.get X=some (.cells [.int .i64 now]))(hXl:X<V.next)(hXB:X≠B)(hl:l.length<=5000):
 ∃V' rest,aK (.func (.func 139) #[] #[]) [.slice (some ⟨B,0,none⟩) l.length (dI+2),.func (.func 141) #[] #[.pointer (some ⟨X,0,none⟩)]] V=some (.slice (some ⟨B,0,none⟩) (l.filter (dN now)).length (dI+2),V')/\
  V.next<=V'.next/\(∀b,b<V.next->b≠B->V'.get b=V.get b)/\V'.get B=some (.cells ((l.filter (dN now)).flatMap oO++rest)):=by
 have hH:HoL V (.slice (some ⟨B,0,none⟩) l.length (dI+2)) l:=RX (rest:=[]) (by rw[List.append_nil];exact hB) hBl;have hidx:=a0i hH (λx _=>a3z hX hXl x) (by omega);have main:Ok (bL aK (.slice (some ⟨B,0,none⟩) l.length (dI+2)) (.func (.func 141) #[] #[.pointer (some ⟨X,0,none⟩)]) V) λr=>r.1=.slice (some ⟨B,0,none⟩) (l.filter (dN now)).length (dI+2)/\∃rest,V.next<=r.2.next/\(∀b,b<V.next->b≠B->r.2.get b=V.get b)/\r.2.get B=some (.cells ((l.filter (dN now)).flatMap oO++rest)):=by
  unfold bL;rcases UI (λx:Int×Int=>decide (now<x.2)) l with⟨h1,h2⟩|⟨i,hi,h2,h3,h4⟩
  ·have d:decide ((-1:Int)= -1)=true:=rfl;have hf:l.filter (dN now)=l:=List.filter_eq_self.2 λx hx=>by have:=of_decide_eq_false (h1 x hx);unfold dN;exact decide_eq_true (by omega)
   simp only[SX,hidx,h2,d,aB];exact⟨by rw[hf],[],Nat.le_refl _,λ_ _ _=>trivial,by rw[hf,List.append_nil];exact hB⟩
  ·have d:decide ((i:Int)= -1)=false:=decide_eq_false (by omega);have t0:=λW'=>aS (P:=Tryz.prog) (W:=W') (t:=3) (c:=false) (d:=true) (a:=(i:Int)) (b:=1) (by omega) (by omega)
   have k0:∀x∈l.take i,dN now x=true:=λx hx=>by obtain⟨j,hj,rfl⟩:=List.mem_iff_getElem.1 hx;rw[List.length_take]at hj;rw[List.getElem_take];have:=of_decide_eq_false (h4 j (by omega));unfold dN;exact decide_eq_true (by omega)
   have e0:(l.take (i+1)).filter (dN now)=l.take i:=by rw[List.take_add_one,List.getElem?_eq_getElem hi,List.filter_append,List.filter_eq_self.2 k0];have:=of_decide_eq_true h3;have h5:dN now l[i]=false:=decide_eq_false (by omega);simp[h5]
   simp only[SX,hidx,h2,d,t0]
   refine bB (l.length-(i+1)) (by omega) (λq R U=>V.next<=U.next/\(∀b,b<V.next->b≠B->U.get b=V.get b)/\R 0=.slice (some ⟨B,0,none⟩) l.length (dI+2)/\R 1=.func (.func 141) #[] #[.pointer (some ⟨X,0,none⟩)]/\R 6=.int .i64 ((i+1+q:Nat):Int)/\
    ∃(ys:List (Int×Int)) (m:Nat),U.get B=some (.cells (ys.flatMap oO))/\ys.length=l.length/\R 5=.int .i64 (m:Int)/\m<=i+1+q/\m=((l.take (i+1+q)).filter (dN now)).length/\ys.take m=(l.take (i+1+q)).filter (dN now)/\ys.drop (i+1+q)=l.drop (i+1+q))
    (λr=>r.1=.exit 0/\V.next<=r.2.2.next/\(∀b,b<V.next->b≠B->r.2.2.get b=V.get b)/\r.2.1 0=.slice (some ⟨B,0,none⟩) l.length (dI+2)/\∃(ys:List (Int×Int)) (m:Nat),r.2.2.get B=some (.cells (ys.flatMap oO))/\ys.length=l.length/\r.2.1 5=.int .i64 (m:Int)/\m<=l.length/\m=(l.filter (dN now)).length/\ys.take m=l.filter (dN now))
    ⟨Nat.le_refl _,λ_ _ _=>rfl,rfl,rfl,by rw[Nat.add_zero];show _=Value.int .i64 ((i:Int)+1);rfl,l,i,hB,rfl,rfl,by omega,by rw[Nat.add_zero,e0,List.length_take];omega,by rw[Nat.add_zero,e0],rfl⟩ ?_ ?_ ?_
   ·rintro q R U hq ⟨u1,u2,r0,r1,r6,ys,m,u3,u4,r5,u5,u6,u7,u8⟩;unfold d9;generalize hj:i+1+q=j at *;have hjl:j<l.length:=by omega
    have t1:((j:Int)<(l.length:Int)):=by omega
    have t2:=λW'=>aS (P:=Tryz.prog) (W:=W') (t:=3) (c:=false) (d:=true) (a:=(j:Int)) (b:=1) (by omega) (by omega)
    have e3:((i+1+(q+1):Nat):Int)=(j:Int)+1:=by omega
    have e3':i+1+(q+1)=j+1:=by omega
    have yj:ys[j]? =some l[j]:=by have h5:=congrArg (λt=>t[0]?) u8;simp only[List.getElem?_drop,Nat.add_zero]at h5;rw[h5,List.getElem?_eq_getElem hjl]
    have hBU:B<U.next:=by omega
    have HU:HoL U (.slice (some ⟨B,0,none⟩) l.length (dI+2)) ys:=by rw[<-u4];exact RX (rest:=[]) (by rw[List.append_nil];exact u3) hBU
    obtain⟨yi,ye⟩:=List.getElem?_eq_some_iff.1 yj;obtain⟨b,o,i1,i2,i3⟩:=HoL.get HU yi;have i4:=(i3 U rfl).1;rw[ye]at i4;obtain⟨U1,U2,k1,k2,k3,k4,k5⟩:=a9H U l[j];have ld:=F3 (v:=l[j]) k5;have hX2:U2.get X=some (.cells [.int .i64 now]):=by rw[k3.get _ (by omega),u2 _ hXl hXB];exact hX
    have hd:=a3z hX2 (by omega) l[j];have hB2:U2.get B=some (.cells (ys.flatMap oO)):=by rw[k3.get _ hBU];exact u3
    have g2:∀b,b<V.next->b≠B->U2.get b=V.get b:=λb hb hne=>by rw[k3.get _ (by omega)];exact u2 b hb hne
    by_cases c:now<l[j].2
    ·have d1:=decide_eq_true c;rw[d1]at hd;have hk:dN now l[j]=false:=decide_eq_false (by omega);have e4:(l.take (j+1)).filter (dN now)=(l.take j).filter (dN now):=by rw[List.take_add_one,List.getElem?_eq_getElem hjl,List.filter_append];simp[hk]
     simp only[SX,r0,r1,r6,jB wW,t1,decide_true,i1,i4,k1,k2,ld,hd,t2,aB];refine .inl ⟨trivial,by omega,g2,r0,r1,by rw[e3];rfl,ys,m,hB2,u4,r5,by omega,by rw[e3',e4];exact u6,by rw[e3',e4];exact u7,?_⟩;rw[e3',<-List.drop_drop,<-List.drop_drop,u8]
    ·have d1:=decide_eq_false c;rw[d1]at hd;have hk:dN now l[j]=true:=decide_eq_true (by omega);have e4:(l.take (j+1)).filter (dN now)=(l.take j).filter (dN now)++[l[j]]:=by rw[List.take_add_one,List.getElem?_eq_getElem hjl,List.filter_append];simp[hk]
     have hml:m<ys.length:=by omega
     have ix:=λW' q=>nC (W:=W') (z:=2) (b:=B) (o:=0) (l:=l.length) (c:=dI+2) (i:=m) (k:=q) (by omega)
     have hst:=AU (n:=2) (b:=B) (o:=m*2) (v:=jN l[j]) hB2 rfl (by show m*2+2<=_;rw[aZ jQ];omega) rfl;have e5:jS (ys.flatMap oO) (m*2) (jN l[j]).cells.toList=(ys.set m l[j]).flatMap oO:=zY jQ (List.getElem?_eq_getElem hml) l[j];rw[e5]at hst;have t3:=λW'=>aS (P:=Tryz.prog) (W:=W') (t:=3) (c:=false) (d:=true) (a:=(m:Int)) (b:=1) (by omega) (by omega)
     simp only[SX,r0,r1,r5,r6,jB wW,t1,decide_true,i1,i4,k1,k2,ld,hd,ix,Nat.zero_add,hst,t2,t3,aB];refine .inl ⟨trivial,by rw[AW.put_next];omega,λb hb hne=>by rw[AW.get_put_ne _ _ (λx=>hne x.symm)];exact g2 b hb hne,r0,r1,by rw[e3];rfl,ys.set m l[j],m+1,AW.get_put _ _ _,by rw[List.length_set];exact u4,by rw[show((m+1:Nat):Int)=(m:Int)+1 by omega];rfl,by omega,?_,?_,?_⟩
     ·rw[e3',e4,List.length_append,<-u6];rfl
     ·rw[e3',e4,List.take_add_one,List.take_set_of_le (Nat.le_refl _),u7,List.getElem?_set_self hml];rfl
     ·rw[e3',List.drop_set_of_lt (by omega),<-List.drop_drop,<-List.drop_drop,u8]
   ·rintro R U ⟨u1,u2,r0,r1,r6,ys,m,u3,u4,r5,u5,u6,u7,u8⟩;unfold d9;have ej:i+1+(l.length-(i+1))=l.length:=by omega
    rw[ej]at r6 u5 u6 u7 u8;rw[List.take_length]at u6 u7;have t1:¬((l.length:Int)<(l.length:Int)):=by omega
    simp only[SX,r0,r6,jB wW,t1,decide_false,aB];exact⟨by simp,trivial,u1,u2,r0,ys,m,u3,u4,r5,u5,u6,u7⟩
   ·rintro⟨q,R,U⟩ ⟨rfl,u1,u2,r0,ys,m,u3,u4,r5,u5,u6,u7⟩;simp only at u1 u2 r0 u3 r5;have hs1:=λW'=>PK (b:=B) (l:=l.length) (k:=.i64) u5 W'
    have hs2:=λW'=>uO (P:=Tryz.prog) (W:=W') a6h (by omega) (b:=B) (o:=0) (l:=l.length) (h:=m) (k:=.i64) u5
    obtain⟨rest,hc⟩:=a8v (o:=m*2) (n:=l.length-m) (c:=dI+2) u3 (by rw[aZ jQ,u4];omega);have e5:(ys.flatMap oO).take (m*2)=(l.filter (dN now)).flatMap oO:=by rw[a5u jQ ys (by omega),u7]
    rw[<-u6];rcases hc with hc|⟨h0,hc⟩
    ·simp only[SX,r0,r5,hs1,hs2,hc,aB];exact⟨trivial,rest,by rw[AW.put_next];exact u1,λb hb hne=>by rw[AW.get_put_ne _ _ (λx=>hne x.symm)];exact u2 b hb hne,by rw[AW.get_put,e5]⟩
    ·simp only[SX,r0,r5,hs1,hs2,hc,aB];refine⟨trivial,[],u1,u2,?_⟩;have em:m=ys.length:=by omega
     rw[em,List.take_length]at u7;rw[List.append_nil,<-u7];exact u3
 obtain⟨⟨r,V'⟩,h1,h2,rest,h3,h4,h5⟩:=main;simp only at h2 h3 h4 h5;subst h2;exact⟨V',rest,by rw[eH h1,eG rfl],h3,h4,h5⟩
theorem BJ(W:AW):aK (.func (.func 79) #[] #[]) [] W=some (.func (.func 144) #[] #[],W):=by
 have:yJ aK W=some (.func (.func 144) #[] #[],W):=by unfold yJ;simp only[SX]
 rw[MS this,NZ]
theorem aAa(fv:Value)(W:AW):aK (.func (.func 139) #[] #[]) [.slice none 0 0,fv] W=some (.slice none 0 0,W):=by
 have h0:HoL W (.slice none 0 0) []:=Row.nil;have hidx:=a0i (p:=λ_=>false) (fv:=fv) h0 (λx hx=>by simp at hx) (by simp);rw[Q7 (by simp)]at hidx;have d:decide ((-1:Int)= -1)=true:=rfl;have:bL aK (.slice none 0 0) fv W=some (.slice none 0 0,W):=by unfold bL;simp only[SX,hidx,d]
 rw[eH this,NZ]
theorem QF(p:Option Addr)(c:Nat)(fv:Value)(W:AW):aK (.func (.func 78) #[] #[]) [.slice p 0 c,fv] W=some (.tuple #[],W):=CG (.inl ⟨p,c,fv,rfl,rfl⟩)
def NewL(lo:Nat)(W:AW)(u:Value)(l:List (Int×Int)):Prop:=∃a c,u=.slice a l.length c/\(l=[]\/∃B rest,a=some ⟨B,0,none⟩/\lo<=B/\B<W.next/\W.get B=some (.cells (l.flatMap oO++rest)))
section
variable {lo:Nat} {W W':AW} {u:Value} {l:List (Int×Int)}
theorem NewL.row(h:NewL lo W u l):HoL W u l:=by
 obtain⟨a,c,rfl,h⟩:=h;rcases h with rfl|⟨B,rest,rfl,h1,h2,h3⟩
 ·exact⟨a,c,rfl,.inl rfl⟩
 ·exact RX h3 h2
theorem NewL.nil(p:Option Addr)(c:Nat):NewL lo W (.slice p 0 c) []:=⟨p,c,rfl,.inl rfl⟩
theorem NewL.gr{K:Nat->Prop}(h:NewL lo W u l)(g:Gr W W' K)(hk:∀b,lo<=b->b<W.next->¬K b):NewL lo W' u l:=by
 obtain⟨a,c,rfl,h⟩:=h;rcases h with h|⟨B,rest,h0,h1,h2,h3⟩
 ·exact⟨a,c,rfl,.inl h⟩
 ·exact⟨a,c,rfl,.inr ⟨B,rest,h0,h1,Nat.lt_of_lt_of_le h2 g.next,(g.get _ h2 (hk _ h1 h2)).trans h3⟩⟩
theorem NewL.gc1(hl:Le W W')(h:NewL lo W' u l):∃W2,gc W (u,W')=(u,W2)/\Le W W2/\NewL lo W2 u l:=by
 cases hp:(bC u&& !isU u)
 ·exact⟨W',eG hp,hl,h⟩
 ·refine⟨W,uK hp hl,.refl _,?_⟩;obtain⟨a,c,rfl,h⟩:=h;rcases h with h|⟨B,rest,rfl,-⟩
  ·exact⟨a,c,rfl,.inl h⟩
  ·exact absurd hp (by simp[bC,fU,bX])
theorem NewL.gc2{k:IntKind}{e:Int}(hl:Le W W')(h:NewL lo W' u l):∃W2,gc W (.tuple #[u,.int k e],W')=(.tuple #[u,.int k e],W2)/\Le W W2/\NewL lo W2 u l:=by
 cases hp:(bC (.tuple #[u,.int k e])&& !isU (.tuple #[u,.int k e]))
 ·exact⟨W',eG hp,hl,h⟩
 ·refine⟨W,uK hp hl,.refl _,?_⟩;obtain⟨a,c,rfl,h⟩:=h;rcases h with h|⟨B,rest,rfl,-⟩
  ·exact⟨a,c,rfl,.inl h⟩
  ·exact absurd hp (by simp[bC,fU,bX])
theorem a7z{o t:Option (Value×AW)}(h:Ok t λr=>Le W r.2/\NewL lo r.2 r.1 l)(hom:∀{r},t=some r->o=some (gc W r)):∃v W2,o=some (v,W2)/\Le W W2/\NewL lo W2 v l:=by obtain⟨⟨v,W'⟩,h1,h2,h3⟩:=h;obtain⟨W2,k1,k2,k3⟩:=NewL.gc1 h2 h3;exact⟨v,W2,by rw[hom h1,k1],k2,k3⟩
theorem CB{o t:Option (Value×AW)}{k:IntKind}{e:Int}(h:Ok t λr=>∃v,r.1=.tuple #[v,.int k e]/\Le W r.2/\NewL lo r.2 v l)(hom:∀{r},t=some r->o=some (gc W r)):∃v W2,o=some (.tuple #[v,.int k e],W2)/\Le W W2/\NewL lo W2 v l:=by obtain⟨⟨u,W'⟩,h1,v,h2,h3,h4⟩:=h;simp only at h2 h3 h4;subst h2;obtain⟨W2,k1,k2,k3⟩:=NewL.gc2 h3 h4;exact⟨v,W2,by rw[hom h1,k1],k2,k3⟩
end
def mG(h:List (Int×Int))(now:Int)(l:List (Int×Int)):Prop:=Asc l/\l.Perm (h.filter (dN now))
section
variable {K:Nat->Prop} {V:AW} {M k many:Nat} {v:Ven} {W0:AW} {N:Int} {l:List SeT}
theorem aBK{H B o:Nat}{In:Nat->Prop}{q:St}{es:List (Int×Int)}(hH:HT V In H many q)(hq:q.es.Perm es)(hn:es.length<=4096)(hB:B<V.next)(hl:aL (.pointer (some ⟨B,o,none⟩)) V=some (hP H,V))(hl2:∀W,Le V W->aL (.pointer (some ⟨B,o,none⟩)) W=some (hP H,W))(now:Int):
 ∃u V',∃l',aK (.func (.func 77) #[] #[]) [.pointer (some ⟨B,o,none⟩),.int .i64 now] V=some (u,V')/\Le V V'/\NewL V.next V' u l'/\mG es now l':=by
 have hqn:q.n=es.length:=by have:=hq.length_eq;rwa [R7]at this
 have main:∃l',Ok (pW aK (.pointer (some ⟨B,o,none⟩)) (.int .i64 now) V) (λr=>Le V r.2/\NewL V.next r.2 r.1 l')/\mG es now l':=by
  unfold pW;have l1:Le V (V.add (.cells [.int .i64 now])):=(Le.refl _).add _;have n1:(V.add (.cells [.int .i64 now])).next=V.next+1:=AW.add_next _ _;have g1:(V.add (.cells [.int .i64 now])).get V.next=some (.cells [.int .i64 now]):=AW.get_add _ _;simp only[SX,Nat.zero_add,Nat.add_zero,aH];generalize V.add (.cells [.int .i64 now])=V1 at *;have ld:=hl2 V1 l1;have h1:HT V1 In H many q:=hH.keep l1.next (λb hb _=>l1.get b hb) (λb _ hx=>hx);obtain⟨V2,u,l0,k1,k2,k3,k4,-⟩:=a6K h1 (by omega);have l2:=l1.trans k2;have p0:l0.Perm es:=k4.trans hq;rcases k3 with⟨rfl,rfl⟩|⟨hne,C,c1,c2,rfl,c3⟩
  ·refine⟨[],?_,List.Pairwise.nil,?_⟩
   ·simp only[SX,ld,k1,aAa,BJ,QF,aB];exact⟨l2,NewL.nil _ _⟩
   ·rw[<-List.Perm.nil_eq p0];exact .refl _
  ·have hX:V2.get V.next=some (.cells [.int .i64 now]):=by rw[k2.get _ (by omega)];exact g1
   obtain⟨V3,rest,d1,d2,d3,d4⟩:=aA7 (now:=now) c3 c2 hX (by have:=k2.next;omega) (by omega) (by have:=p0.length_eq;omega);have l3:Le V V3:=⟨by have:=l2.next;omega,λb hb=>by rw[d3 b (by have:=l2.next;omega) (by omega)];exact l2.get b hb⟩;by_cases hf:l0.filter (dN now)=[]
   ·refine⟨[],?_,List.Pairwise.nil,?_⟩
    ·rw[hf]at d1;simp only[SX,ld,k1,d1,BJ,List.length_nil,QF,aB];exact⟨l3,NewL.nil _ _⟩
    ·rw[<-hf];exact p0.filter _
   ·obtain⟨l',e1,e2,e3⟩:=ZW (c:=dI+2) hf (by have:=List.length_filter_le (dN now) l0;have:=p0.length_eq;omega) d4;refine⟨l',?_,e2,e1.trans (p0.filter _)⟩;simp only[SX,ld,k1,d1,BJ,e3,aB];refine⟨l3.put (by omega) _,?_⟩;rw[<-e1.length_eq];exact⟨_,_,rfl,.inr ⟨C,rest,rfl,by omega,by rw[AW.put_next];omega,AW.get_put _ _ _⟩⟩
 obtain⟨l',m1,m2⟩:=main;obtain⟨u,V',r1,r2,r3⟩:=a7z m1 DL;exact⟨u,V',l',r1,r2,r3,m2⟩
theorem MapS.due(h:MapS K V M k many v W0 N l){i:Nat}(hi:i<k)(now:Int):∃B,(∀U,Le V U->aL (.pointer (some ⟨M,5,none⟩)) U=some (.slice (some ⟨B,0,none⟩) k k,U))/\∃u V',∃l',aK (.func (.func 77) #[] #[]) [.pointer (some ⟨B,i*2,none⟩),.int .i64 now] V=some (u,V')/\Le V V'/\NewL V.next V' u l'/\mG (bQ l (jZ k i)) now l':=by obtain⟨d,rfl,rfl,rfl,-,-,-,hlen,-,p⟩:=h;have:=p.mn;exact⟨d.SB,λU hU=>(p.le hU).l5,aBK (p.ho i hi) (p.es i hi) (Nat.le_trans (lC _ _) (by omega)) p.sl (p.h0 hi) (λW hW=>(p.le hW).h0 hi) now⟩
theorem a3g(h:MapS K V M k many v W0 N l)(i now:Int):∃u V',∃l',aK (.func (.func 19) #[] #[]) [mV M,.int .i64 i,.int .i64 now] V=some (.tuple #[u,.int .i64 (dO i k now)],V')/\Le V V'/\NewL V.next V' u l'/\(dO i k now≠0->l'=[])/\(dO i k now=0->mG (bQ l (jZ k i.toNat)) now l'):=by
 have hse:=CE h i now;have main:∃l',Ok (uG aK (mV M) (.int .i64 i) (.int .i64 now) V) (λr=>∃u,r.1=.tuple #[u,.int .i64 (dO i k now)]/\Le V r.2/\NewL V.next r.2 u l')/\(dO i k now≠0->l'=[])/\(dO i k now=0->mG (bQ l (jZ k i.toNat)) now l'):=by
  unfold uG;by_cases c:dO i k now=0
  ·obtain⟨s,rfl,hs,-⟩:=QC c;obtain⟨B,b1,u,V',l',r1,r2,r3,r4⟩:=h.due hs now;refine⟨l',?_,λx=>absurd c x,λ_=>r4⟩;have d0:decide ((0:Int)=0)=true:=rfl;simp only[SX,hse,c,d0,aH,Nat.zero_add,Nat.add_zero,b1 V (Le.refl _),QI hs,r1,aB];exact⟨u,rfl,r2,r3⟩
  ·have d1:=decide_eq_false c;refine⟨[],?_,λ_=>rfl,λx=>absurd x c⟩;simp only[SX,hse,d1,aB];exact⟨_,rfl,Le.refl _,NewL.nil _ _⟩
 obtain⟨l',m1,m2,m3⟩:=main;obtain⟨u,V',r1,r2,r3⟩:=CB m1 GM;exact⟨u,V',l',r1,r2,r3,m2,m3⟩
end
section
variable {α:Type} {z:Nat} {f:α->List Value} {at_:List Value->Nat->α->Prop} {W:AW} {v u:Value} {l m:List α}
theorem Lst.cat{ts:Array TypeId}{bytes lo:Nat}(hk:nK Tryz.prog ts z bytes=true)(hf:∀a,(f a).length=z)(h1:∀a,(f a).all Eng.one=true)(h:Lst lo W z f v l)(hr:Row W z at_ u m)(hat:∀cs p a,at_ cs p a->(cs.drop p).take z=f a)
 (hb:l.length+m.length<1099511627776)(hb2:(2*(l.length+m.length)+192)*bytes<=281474976710656)(hlo:lo<=W.next):
 ∃v' W',bF Tryz.prog W ts v u=some (v',W')/\Lst lo W' z f v' (l++m)/\W.next<=W'.next/\∀A,Le A W->A.next<=lo->Le A W':=by
 obtain⟨a,c,rfl,hr⟩:=hr;by_cases hm:m=[]
 ·subst hm;rw[List.append_nil];have hb3:(2*l.length+192)*bytes<=281474976710656:=by simpa using hb2
  rcases h with⟨rfl,rfl⟩|⟨h0,B,i1,i2,rfl,i4⟩
  ·exact⟨_,W,AY hk (Nat.le_refl 0) (by omega) (by simpa using hb3),Lst.nil _ _ _ _,Nat.le_refl _,λA hA _=>hA⟩
  ·exact⟨_,W,AY hk (by have:l.length<dI:=by unfold dI;simp at hb;omega
                       omega) (by simp at hb;omega) hb3,.inr ⟨h0,B,i1,i2,rfl,i4⟩,Nat.le_refl _,λA hA _=>hA⟩
 ·rcases hr with hr|⟨C,o,cs,rfl,h2,h3,h4⟩
  ·exact absurd hr hm
  ·have e:m.flatMap f=(cs.drop o).take (m.length*z):=(FN hf m cs o λi hi=>hat _ _ _ (h4 i hi)).symm;have hall:(m.flatMap f).all Eng.one=true:=by rw[List.all_flatMap,List.all_eq_true];exactλa _=>h1 a
   have hmp:=List.length_pos_iff.2 hm;rcases h with⟨rfl,rfl⟩|⟨h0,B,i1,i2,rfl,i4⟩
   ·refine⟨_,_,J7 (b:=C) (o:=o) (n:=m.length) (c:=c) hk h3 e (aZ hf m) hmp hall (by simpa using hb) (by simpa using hb2),.inr ⟨by simpa using hm,W.next,hlo,by rw[AW.add_next];omega,by simp,by rw[AW.get_add];simp⟩,by rw[AW.add_next];omega,λA hA _=>hA.add _⟩
   ·have hpos:0<l.length:=List.length_pos_iff.2 h0;refine⟨_,_,X3 (b:=C) (o:=o) (n:=m.length) (c:=c) hk h3 e (aZ hf m) hmp hall i4 (aZ hf l) (by omega) (by omega) hpos,.inr ⟨by simp[hm],W.next,hlo,by rw[AW.add_next,AW.kill_next];omega,by simp[AW.kill_next],?_⟩,by rw[AW.add_next,AW.kill_next];omega,λA hA hl=>(hA.kill (by omega)).add _⟩;have:=(W.kill B).get_add (.cells (l.flatMap f++m.flatMap f));rw[AW.kill_next]at this;rw[this,List.flatMap_append]
end
theorem hoT{cs:List Value}{p:Nat}{x:Int×Int}(h:aAU cs p x):(cs.drop p).take 2=oO x:=by obtain⟨h0,h1⟩:=h;obtain⟨i0,e0⟩:=List.getElem?_eq_some_iff.1 h0;obtain⟨i1,e1⟩:=List.getElem?_eq_some_iff.1 h1;rw[List.drop_eq_getElem_cons i0,List.drop_eq_getElem_cons i1,e0,e1];rfl
theorem ZG(l:List SeT){k:Nat}(hk:0<k):((List.range k).flatMap λi=>bQ l (jZ k i)).Perm (bQ l λ_=>true):=by
 refine(List.perm_ext_iff_of_nodup ?_ (SA _ _)).2 λx=>?_
 ·unfold List.Nodup;rw[List.pairwise_flatMap];refine⟨λi _=>SA _ _,List.nodup_range.imp λ{a b} hab x hx y hy e=>?_⟩;subst e;obtain⟨j,j1,j2,j3,rfl⟩:=kT.1 hx;obtain⟨j',j1',j2',j3',e⟩:=kT.1 hy;have:(j:Int)=(j':Int):=congrArg (·.1) e;have:j=j':=by omega
  subst this;simp at j2 j2';omega
 ·rw[List.mem_flatMap];constructor
  ·rintro⟨i,-,hx⟩;obtain⟨j,j1,j2,j3,rfl⟩:=kT.1 hx;exact kT.2 ⟨j,j1,rfl,j3,rfl⟩
  ·intro hx;obtain⟨j,j1,j2,j3,rfl⟩:=kT.1 hx;exact⟨j % k,List.mem_range.2 (Nat.mod_lt _ hk),kT.2 ⟨j,j1,by simp,j3,rfl⟩⟩
section
variable {K:Nat->Prop} {V:AW} {M k many:Nat} {v:Ven} {W0:AW} {N:Int} {l:List SeT}
theorem a5m(h:MapS K V M k many v W0 N l)(now:Int):∃u V',∃l',aK (.func (.func 20) #[] #[]) [mV M,.int .i64 now] V=some (.tuple #[u,.int .i64 (if now<0 then 7 else 0)],V')/\Le V V'/\NewL V.next V' u l'/\(now<0->l'=[])/\(0<=now->mG (bQ l λ_=>true) now l'):=by
 have hse:=CE h 0 now;have hkp:=h.kp;have hmn:=h.mn;have hlen:=h.len;have es0:dO 0 k now=if now<0 then 7 else 0:=by unfold dO;rw[if_neg (by omega)]
 rw[es0]at hse;by_cases c:now<0
 ·rw[if_pos c]at hse|-;have d1:decide ((7:Int)=0)=false:=rfl;have main:Ok (gW aK (mV M) (.int .i64 now) V) (λr=>∃u,r.1=.tuple #[u,.int .i64 7]/\Le V r.2/\NewL V.next r.2 u []):=by unfold gW;simp only[SX,hse,d1,aB];exact⟨_,rfl,Le.refl _,NewL.nil _ _⟩
  obtain⟨u,V',r1,r2,r3⟩:=CB main sN;exact⟨u,V',[],r1,r2,r3,λ_=>rfl,λx=>by omega⟩
 ·rw[if_neg c]at hse|-;have d0:decide ((0:Int)=0)=true:=rfl;obtain⟨B,hB⟩:=sM5 h;have hlen':∀m i,i<=k->(m:List (Int×Int)).Perm (((List.range i).flatMap λi=>bQ l (jZ k i)).filter (dN now))->m.length<=4096:=λm i hi hp=>by
   have h1:=hp.length_eq;have h2:=List.length_filter_le (dN now) ((List.range i).flatMap λi=>bQ l (jZ k i));have h3:((List.range i).flatMap λi=>bQ l (jZ k i)).length<=((List.range k).flatMap λi=>bQ l (jZ k i)).length:=by
    have e:List.range k=List.range i++(List.range (k-i)).map (i+ ·):=by rw[<-List.range_add];congr 1;omega
    rw[e,List.flatMap_append,List.length_append];omega
   have h4:=(ZG l hkp.1).length_eq;have h5:=lC l λ_=>true
   omega
  have main:∃l',Ok (gW aK (mV M) (.int .i64 now) V) (λr=>∃u,r.1=.tuple #[u,.int .i64 0]/\Le V r.2/\NewL V.next r.2 u l')/\mG (bQ l λ_=>true) now l':=by
   have key:Ok (gW aK (mV M) (.int .i64 now) V) (λr=>∃l',(∃u,r.1=.tuple #[u,.int .i64 0]/\Le V r.2/\NewL V.next r.2 u l')/\mG (bQ l λ_=>true) now l'):=by
    unfold gW;simp only[SX,hse,d0,aH,Nat.zero_add,hB,zU];refine bB k (by omega) (λi R U=>Le V U/\R 0=mV M/\R 1=.int .i64 now/\R 19=.int .i64 (k:Int)/\R 20=.int .i64 (i:Int)/\∃m,Lst V.next U 2 oO (R 7) m/\m.Perm (((List.range i).flatMap λi=>bQ l (jZ k i)).filter (dN now)))
     (λr=>r.1=.exit 0/\Le V r.2.2/\∃m,Lst V.next r.2.2 2 oO (r.2.1 7) m/\m.Perm (((List.range k).flatMap λi=>bQ l (jZ k i)).filter (dN now))) ⟨Le.refl _,rfl,rfl,rfl,rfl,[],Lst.nil _ _ _ _,.refl _⟩ ?_ ?_ ?_
    ·rintro i R U hi ⟨u1,r0,r1,r19,r20,m,u2,u3⟩;unfold lU;have t1:((i:Int)<(k:Int)):=by omega
     have t2:=λW'=>aS (P:=Tryz.prog) (W:=W') (t:=3) (c:=false) (d:=true) (a:=(i:Int)) (b:=1) (by omega) (by omega)
     have e3:((i+1:Nat):Int)=(i:Int)+1:=by omega
     obtain⟨B',b1,x,U1,l',x1,x2,x3,x4⟩:=(h.le u1).due hi now;have hm4:=hlen' m i (by omega) u3;have hd4:l'.length<=4096:=by have h1:=x4.2.length_eq;have h2:=List.length_filter_le (dN now) (bQ l (jZ k i));have h3:=lC l (jZ k i);omega
     obtain⟨v',U2,y1,y2,y3,y4⟩:=Lst.cat a4A jQ CL (u2.mono x2) x3.row (λ_ _ _=>hoT) (by omega) (by omega) (by have:=u1.next;have:=x2.next;omega);simp only[SX,r0,r1,r19,r20,t1,decide_true,aH,Nat.zero_add,Nat.add_zero,b1 U (Le.refl _),QI hi,x1,y1,t2,aB];refine .inl ⟨trivial,y4 V (u1.trans x2) (Nat.le_refl _),r0,r1,r19,by rw[e3];rfl,m++l',y2,?_⟩;rw[List.range_succ,List.flatMap_append,List.filter_append];simp only[List.flatMap_cons,List.flatMap_nil,List.append_nil];exact u3.append x4.2
    ·rintro R U ⟨u1,r0,r1,r19,r20,m,u2,u3⟩;unfold lU;have t1:¬((k:Int)<(k:Int)):=by omega
     simp only[SX,r19,r20,t1,decide_false,aB];exact⟨by simp,trivial,u1,m,u2,u3⟩
    ·rintro⟨q,R,U⟩ ⟨rfl,u1,m,u2,u3⟩;simp only at u1 u2;have hm4:=hlen' m k (Nat.le_refl _) u3;have u4:m.Perm ((bQ l λ_=>true).filter (dN now)):=u3.trans ((ZG l hkp.1).filter _);rcases u2 with⟨rfl,r7⟩|⟨h0,C,c1,c2,r7,c4⟩
     ·simp only[SX,r7,BJ,QF,aB];exact⟨[],⟨_,rfl,u1,NewL.nil _ _⟩,List.Pairwise.nil,u4⟩
     ·obtain⟨l',e1,e2,e3⟩:=ZW (c:=dI+2) (rest:=[]) h0 (by omega) (by rw[List.append_nil];exact c4);simp only[SX,r7,BJ,e3,aB];refine⟨l',⟨_,rfl,u1.put c1 _,?_⟩,e2,e1.trans u4⟩;rw[<-e1.length_eq];exact⟨_,_,rfl,.inr ⟨C,[],rfl,c1,c2,AW.get_put _ _ _⟩⟩
   obtain⟨r,k1,l',k2,k3⟩:=key;exact⟨l',⟨r,k1,k2⟩,k3⟩
  obtain⟨l',m1,m2⟩:=main;obtain⟨u,V',r1,r2,r3⟩:=CB m1 sN;exact⟨u,V',l',r1,r2,r3,λx=>by omega,λ_=>m2⟩
end
theorem a9M{x:SeT}(now:Int)(h:uW x=0):uW (rE x now)=0:=by
 unfold rE;split
 ·rfl
 ·exact h
def a1w(now:Int)(l:List SeT)(h:Int×Int):List SeT:=l.set h.1.toNat (rE (nD l h.1.toNat) now)
def sH(l:List SeT)(now:Int)(d:List (Int×Int)):List SeT:=d.foldl (a1w now) l
theorem xC(now:Int):∀(d:List (Int×Int)) (l:List SeT),(sH l now d).length=l.length
 |[],l=>rfl
 |h::d,l=>by show(sH (a1w now l h) now d).length=l.length;rw[xC now d];unfold a1w;rw[List.length_set]
theorem WI(l:List SeT)(now:Int)(d:List (Int×Int))(h:Int×Int):sH l now (d++[h])=a1w now (sH l now d) h:=by unfold sH;rw[List.foldl_append];rfl
theorem a7m{l:List SeT}{p:Nat->Bool}{now:Int}{d:List (Int×Int)}(hd:mG (bQ l p) now d){h:Int×Int}(hh:h∈d):∃s:Nat,h.1=(s:Int)/\s<l.length:=by have:=(List.mem_filter.1 (hd.2.mem_iff.1 hh)).1;obtain⟨j,h1,-,-,rfl⟩:=kT.1 this;exact⟨j,rfl,h1⟩
theorem a6D(W:AW)(x:SeT):∃W1 W2,aW Tryz.prog 38 W=some (.pointer (some ⟨W.next,0,none⟩),W1)/\cB 5 (.pointer (some ⟨W.next,0,none⟩)) (lY x) W1=some (undef,W2)/\Le W W2/\W2.next=W.next+1/\W2.get W.next=some (.cells (dU x)):=
 ⟨_,_,aBk W,a1L (AW.get_add _ _),((Le.refl _).add _).put (Nat.le_refl _) _,rfl,AW.get_put _ _ _⟩
section
variable {K:Nat->Prop} {V:AW} {M k many:Nat} {v:Ven} {W0:AW} {N:Int} {l:List SeT}
theorem a2N(h:MapS K V M k many v W0 N l)(i now:Int)(hN:N<100000000000000):∃u V',∃l',aK (.func (.func 21) #[] #[]) [mV M,.int .i64 i,.int .i64 now] V=some (.tuple #[u,.int .i64 (dO i k now)],V')/\Gr V V' K/\HoL V' u l'/\(dO i k now≠0->l'=[])/\(dO i k now=0->mG (bQ l (jZ k i.toNat)) now l')/\MapS K V' M k many v W0 (N+5000) (sH l now l'):=by
 obtain⟨u,V1,l',e1,e2,e3,e4,e5⟩:=a3g h i now;have hmn:=h.mn;have hlen:=h.len;have hl':l'.length<=4096:=by
  by_cases c:dO i k now=0
  ·have h1:=(e5 c).2.length_eq;have h2:=List.length_filter_le (dN now) (bQ l (jZ k i.toNat));have h3:=lC l (jZ k i.toNat);omega
  ·rw[e4 c];simp
 by_cases c:dO i k now=0;case neg=>
  have d1:=decide_eq_false c;have main:Ok (iR aK (mV M) (.int .i64 i) (.int .i64 now) V) (λr=>∃u,r.1=.tuple #[u,.int .i64 (dO i k now)]/\Le V r.2/\NewL V.next r.2 u []):=by unfold iR;simp only[SX,e1,d1,aB];exact⟨_,rfl,e2,NewL.nil _ _⟩
  obtain⟨u',V',r1,r2,r3⟩:=CB main kU;exact⟨u',V',[],r1,Le.gr r2 K,r3.row,λ_=>rfl,λx=>absurd x c,(h.le r2).grow (by omega)⟩
 have main:Ok (iR aK (mV M) (.int .i64 i) (.int .i64 now) V) (λr=>r.1=.tuple #[u,.int .i64 (dO i k now)]/\Gr V r.2 K/\HoL r.2 u l'/\MapS K r.2 M k many v W0 (N+5000) (sH l now l')):=by
  unfold iR;have d0:decide ((0:Int)=0)=true:=rfl;have hd:=e5 c;rw[c]at e1|-;have hsh:=h.shift e2;obtain⟨K1,hK1⟩:∃K1:Nat->Prop,K1=λb=>K b/\b<V.next\/V1.next<=b:=⟨_,rfl⟩
  rw[<-hK1]at hsh;have hK:∀b,K1 b->K b:=λb hb=>by
   rw[hK1]at hb;rcases hb with hb|hb
   ·exact hb.1
   ·exact h.up (by have:=e2.next;omega)
  have hKn:∀b,V.next<=b->b<V1.next->¬K1 b:=λb h1 h2 hb=>by rw[hK1]at hb;rcases hb with hb|hb<;>omega
  have hlu:=λW'=>e3.row.len wW W' 3 #[false]
  simp only[SX,e1,d0,hlu];refine bB l'.length (by omega) (λj R U=>R 0=mV M/\R 2=.int .i64 now/\R 8=u/\R 24=u/\R 25=.int .i64 (l'.length:Int)/\R 26=.int .i64 (j:Int)/\Gr V1 U K1/\MapS K1 U M k many v W0 (N+(j:Int)) (sH l now (l'.take j)))
   (λr=>r.1=.exit 0/\r.2.1 8=u/\Gr V1 r.2.2 K1/\MapS K1 r.2.2 M k many v W0 (N+(l'.length:Int)) (sH l now l')) ⟨rfl,rfl,rfl,rfl,rfl,rfl,Gr.refl _ _,by rw[List.take_zero];exact hsh.grow (by omega)⟩ ?_ ?_ ?_
  ·rintro j R U hj ⟨r0,r2,r8,r24,r25,r26,u1,u2⟩;unfold kQ;have t1:((j:Int)<(l'.length:Int)):=by omega
   have t2:=λW'=>aS (P:=Tryz.prog) (W:=W') (t:=3) (c:=false) (d:=true) (a:=(j:Int)) (b:=1) (by omega) (by omega)
   have e6:((j+1:Nat):Int)=(j:Int)+1:=by omega
   obtain⟨b,o,i1,i2,i3⟩:=HoL.get (NewL.row (NewL.gr e3 u1 hKn)) hj;obtain⟨s,s1,s2⟩:=a7m hd (List.getElem_mem hj);obtain⟨U1,U2,a1,a2,a3,a4,a5⟩:=a9H U l'[j];have ld0:=iK (o:=0) (bT a5) rfl;have hs:(sH l now (l'.take j))[s]? =some (nD (sH l now (l'.take j)) s):=iJ (by rw[xC];exact s2);generalize hx:nD (sH l now (l'.take j)) s=x at *;have m2:=u2.le a3;obtain⟨b2,o2,b3,b4,-⟩:=sAt m2 hs;have hxe:uW x=0:=u2.ok (List.mem_of_getElem? hs);obtain⟨U3,U4,c1,c2,c3,c4,c5⟩:=a6D U2 (rE x now);have ld1:aL (.pointer (some ⟨U.next,0,none⟩)) U4=some (.int .i64 l'[j].1,U4):=iK (o:=0) (bT ((c3.get _ (by omega)).trans a5)) rfl;have ld2:=bM c5;obtain⟨U5,f1,f2,f3⟩:=a9B (m2.le c3) hs (a9M now hxe) (by omega);rw[s1]at ld0 ld1;simp only[SX,r0,r2,r24,r25,r26,t1,decide_true,i1,(i3 U rfl).1,a1,a2,Nat.zero_add,ld0,b3,aH,b4,a0q,c1,c2,ld1,ld2,f1,t2,aB];refine .inl ⟨trivial,r0,r2,r8,r24,r25,by rw[e6];rfl,u1.trans ((Le.gr (a3.trans c3) K1).trans f3),?_⟩;rw[List.take_succ_eq_append_getElem hj,WI];unfold a1w;rw[s1,Int.toNat_natCast,hx];rw[e6,<-Int.add_assoc];exact f2
  ·rintro R U ⟨r0,r2,r8,r24,r25,r26,u1,u2⟩;unfold kQ;have t1:¬((l'.length:Int)<(l'.length:Int)):=by omega
   rw[List.take_length]at u2;simp only[SX,r25,r26,t1,decide_false,aB];exact⟨by simp,trivial,r8,u1,u2⟩
  ·rintro⟨q,R,U⟩ ⟨rfl,r8,u1,u2⟩;simp only at r8 u1 u2;simp only[SX,r8,aB];exact⟨trivial,(Le.gr e2 K).trans (u1.mono hK),(NewL.gr e3 u1 hKn).row,(u2.weak hK λb hb=>h.wk hb).grow (by omega)⟩
 obtain⟨⟨r,V'⟩,h1,h2,h3,h4,h5⟩:=main;simp only at h2 h3 h4 h5;subst h2;rcases WQ (W:=V) (W':=V') (.tuple #[u,.int .i64 (dO i k now)])with hg|⟨hg,hle,hp⟩
 ·exact⟨u,V',l',by rw[kU h1,hg],h3,h4,e4,e5,h5⟩
 ·have hl0:l'=[]:=by
   obtain⟨a,c',rfl,hr⟩:=e3;rcases hr with hr|⟨B,rest,rfl,-⟩
   ·exact hr
   ·exact absurd hp (by simp[bC,fU,bX])
  subst hl0;have hu:HoL V u []:=by obtain⟨a,c',rfl,hr⟩:=e3;exact⟨a,c',rfl,.inl rfl⟩
  exact⟨u,V,[],by rw[kU h1,hg],Gr.refl _ _,hu,e4,e5,h.grow (by omega)⟩
end
theorem xS(v u x y:Value)(W:AW):aJ Tryz.prog [(v,none),(u,none),(x,none),(y,none)] W=some (.tuple #[v,u,x,y],W):=Eq.trans rfl rfl
theorem a4e{α:Type}(p:α->Bool):∀l:List α,l.findIdx p+(l.filter p).length<=l.length
 |[]=>by simp
 |a::l=>by
  rw[List.findIdx_cons,List.filter_cons];have:=a4e p l;cases p a
  ·simp;omega
  ·have h2:=List.length_filter_le p l;simp;omega
theorem BF{v:Ven}{sec:Int}(he:(C8 v sec).2.2=0):∃F C:Nat,(C8 v sec).1=(F:Int)/\(C8 v sec).2.1=(C:Int)/\((F+C:Nat):Int)<=dB v.secs:=by
 rw[<-a7f]at he|-;unfold vZ at he|-;by_cases h:(lZ v).2=0
 ·rw[if_pos h]at he|-;by_cases h2:((lW v.secs).filter (eO sec)).length=0
  ·rw[if_pos h2]at he;simp at he
  ·rw[if_neg h2];refine⟨_,_,rfl,rfl,?_⟩;have h3:=a4e (eO sec) (lW v.secs);have h4:=yD (gY h).1;unfold XQ;rw[if_neg h2];omega
 ·rw[if_neg h]at he;exact absurd he h
theorem aAT:nK Tryz.prog #[69,69] 1 8=true:=by kernel_rfl
theorem aCP(x:Int)(W:AW):aR Tryz.prog 69 1 [(0,.int .i64 x)] W=some (.slice (some ⟨W.next,0,none⟩) 1 1,W.add (.cells (vU x))):=Eq.trans (by kernel_rfl) rfl
def MO(l:List SeT)(F C:Nat):List Int:=((List.range C).filter λj=>decide ((nD l (F+j)).st=0)).map λj=>((F+j:Nat):Int)
theorem CY(l:List SeT)(F C:Nat):MO l F (C+1)=MO l F C++(if(nD l (F+C)).st=0 then [((F+C:Nat):Int)]else []):=by
 unfold MO;rw[List.range_succ,List.filter_append,List.map_append];congr 1;by_cases c:(nD l (F+C)).st=0
 ·rw[if_pos c];simp[c]
 ·rw[if_neg c];simp[c]
theorem JB(l:List SeT)(F C:Nat):(MO l F C).length<=C:=by unfold MO;rw[List.length_map];have:=List.length_filter_le (λj=>decide ((nD l (F+j)).st=0)) (List.range C);rwa [List.length_range]at this
def eY(l:List SeT)(F C:Nat)(t:Int):Nat:=((List.range C).filter λj=>decide ((nD l (F+j)).st=t)).length
theorem W9(l:List SeT)(F C:Nat)(t:Int):eY l F (C+1) t=eY l F C t+if(nD l (F+C)).st=t then 1 else 0:=by
 unfold eY;rw[List.range_succ,List.filter_append,List.length_append];congr 1;by_cases c:(nD l (F+C)).st=t
 ·rw[if_pos c];simp[c]
 ·rw[if_neg c];simp[c]
theorem a3d(l:List SeT)(F C:Nat)(t:Int):eY l F C t<=C:=by unfold eY;have:=List.length_filter_le (λj=>decide ((nD l (F+j)).st=t)) (List.range C);rwa [List.length_range]at this
theorem a1c{x:SeT}(h:uW x=0):x.st=0\/x.st=1\/x.st=2:=by
 unfold uW at h;split at h
 ·omega
 ·split at h
  ·omega
  ·split at h<;>omega
section
variable {K:Nat->Prop} {V:AW} {M k many:Nat} {v:Ven} {W0:AW} {N:Int} {l:List SeT}
theorem a3I(h:MapS K V M k many v W0 N l)(hv:v.secs.length<1000)(sec:Int):aK (.func (.func 96) #[] #[]) [mV M,.int .i64 sec] V=some (.tuple #[.int .i64 (C8 v sec).1,.int .i64 (C8 v sec).2.1,.int .i64 (C8 v sec).2.2],V):=by refine aN rfl ?_ zF;unfold uP;have hok:=YH h;obtain⟨d,rfl,rfl,rfl,rfl,rfl,-,-,-,p⟩:=h;have ho:=aCT (sec:=sec) (p.secs.mono p.w0) hv;simp only[SX,hok,aH,Nat.zero_add,p.lv,ho,aB];exact⟨trivial,Le.refl _⟩
def S9(v:Ven)(l:List SeT)(sec:Int):List Int:=if(C8 v sec).2.2=0 then MO l (C8 v sec).1.toNat (C8 v sec).2.1.toNat else []
theorem a7I(h:MapS K V M k many v W0 N l)(hv:v.secs.length<1000)(ht:(many:Int)=dB v.secs)(sec:Int):∃u V',aK (.func (.func 31) #[] #[]) [mV M,.int .i64 sec] V=some (.tuple #[u,.int .i64 (C8 v sec).2.2],V')/\Le V V'/\Ints V' u (S9 v l sec):=by
 have hse:=a3I h hv sec;have hmn:=h.mn;have hlen:=h.len;refine NW ?_ ET;unfold yY;by_cases c:(C8 v sec).2.2=0;case neg=>have d1:=decide_eq_false c;simp only[SX,hse,d1,aB];refine⟨_,rfl,Le.refl _,?_⟩;unfold S9;rw[if_neg c];exact Row.nil
 obtain⟨F,C,e1,e2,e3⟩:=BF c;have d0:decide ((0:Int)=0)=true:=rfl;have hfr:S9 v l sec=MO l F C:=by unfold S9;rw[if_pos c,e1,e2,Int.toNat_natCast,Int.toNat_natCast]
 rw[e1,e2,c]at hse;rw[c,hfr];simp only[SX,hse,d0];refine bB C (by omega) (λi R U=>Le V U/\R 0=mV M/\R 6=.int .i64 (F:Int)/\R 7=.int .i64 (C:Int)/\R 10=.int .i64 ((F+i:Nat):Int)/\Lst V.next U 1 vU (R 9) (MO l F i))
  (λr=>r.1=.exit 0/\Le V r.2.2/\Lst V.next r.2.2 1 vU (r.2.1 9) (MO l F C)) ⟨Le.refl _,rfl,rfl,rfl,rfl,Lst.nil _ _ _ _⟩ ?_ ?_ ?_
 ·rintro i R U hi ⟨u1,r0,r6,r7,r10,u2⟩;unfold mO;have t0:=λW'=>aS (P:=Tryz.prog) (W:=W') (t:=3) (c:=false) (d:=false) (a:=(F:Int)) (b:=(C:Int)) (by omega) (by omega)
  have t1:(((F+i:Nat):Int)<(F:Int)+(C:Int)):=by omega
  have t2:=λW'=>aS (P:=Tryz.prog) (W:=W') (t:=3) (c:=false) (d:=true) (a:=((F+i:Nat):Int)) (b:=1) (by omega) (by omega)
  have e6:((F+(i+1):Nat):Int)=((F+i:Nat):Int)+1:=by omega
  obtain⟨b,o,a1,-,a3⟩:=sAt (h.le u1) (iJ (l:=l) (j:=F+i) (by omega));have hfl:=JB l F i;by_cases c2:(nD l (F+i)).st=0
  ·have d2:=decide_eq_true c2;have hb:cellsAt (U.add (.cells (vU ((F+i:Nat):Int)))) U.next=some (vU ((F+i:Nat):Int)):=bR;obtain⟨v',U',p1,p2,p3,p4⟩:=(u2.mono ((Le.refl U).add (.cells (vU ((F+i:Nat):Int))))).push (c:=1) aAT AL RH hb (by omega) (by omega) (by rw[AW.add_next];have:=u1.next;omega);simp only[SX,r0,r6,r7,r10,t0,t1,decide_true,a1,aH,Nat.zero_add,Nat.add_zero,a3,d2,aCP,p1,t2,aB];refine .inl ⟨trivial,p4 V (u1.add _) (Nat.le_refl _),r0,r6,r7,by rw[e6];rfl,?_⟩;rw[CY,if_pos c2];exact p2
  ·have d2:=decide_eq_false c2;simp only[SX,r0,r6,r7,r10,t0,t1,decide_true,a1,aH,Nat.zero_add,Nat.add_zero,a3,d2,t2,aB];refine .inl ⟨trivial,u1,r0,r6,r7,by rw[e6];rfl,?_⟩;rw[CY,if_neg c2,List.append_nil];exact u2
 ·rintro R U ⟨u1,r0,r6,r7,r10,u2⟩;unfold mO;have t0:=λW'=>aS (P:=Tryz.prog) (W:=W') (t:=3) (c:=false) (d:=false) (a:=(F:Int)) (b:=(C:Int)) (by omega) (by omega)
  have t1:¬(((F+C:Nat):Int)<(F:Int)+(C:Int)):=by omega
  simp only[SX,r6,r7,r10,t0,t1,decide_false,aB];exact⟨by simp,trivial,u1,u2⟩
 ·rintro⟨q,R,U⟩ ⟨rfl,u1,u2⟩;simp only at u1 u2;simp only[SX,aB];exact⟨_,rfl,u1,u2.ints⟩
def DN(v:Ven)(l:List SeT)(sec t:Int):Int:=if(C8 v sec).2.2=0 then(eY l (C8 v sec).1.toNat (C8 v sec).2.1.toNat t:Int)else 0
theorem a4R(h:MapS K V M k many v W0 N l)(hv:v.secs.length<1000)(ht:(many:Int)=dB v.secs)(sec:Int):aK (.func (.func 32) #[] #[]) [mV M,.int .i64 sec] V=some (.tuple #[.int .i64 (DN v l sec 0),.int .i64 (DN v l sec 1),.int .i64 (DN v l sec 2),.int .i64 (C8 v sec).2.2],V):=by
 have hse:=a3I h hv sec;have hmn:=h.mn;have hlen:=h.len;refine aN rfl ?_ DF;unfold xE;by_cases c:(C8 v sec).2.2=0;case neg=>
  have d1:=decide_eq_false c;have e:∀t,DN v l sec t=0:=λt=>by unfold DN;rw[if_neg c]
  simp only[SX,hse,d1,xS,aB];exact⟨by rw[e,e,e],Le.refl _⟩
 obtain⟨F,C,e1,e2,e3⟩:=BF c;have d0:decide ((0:Int)=0)=true:=rfl;have hco:∀t,DN v l sec t=(eY l F C t:Int):=λt=>by unfold DN;rw[if_pos c,e1,e2,Int.toNat_natCast,Int.toNat_natCast]
 rw[e1,e2,c]at hse;rw[c,hco,hco,hco];simp only[SX,hse,d0];refine bB C (by omega) (λi R U=>U=V/\R 0=mV M/\R 8=.int .i64 (F:Int)/\R 9=.int .i64 (C:Int)/\R 10=.int .i64 ((F+i:Nat):Int)/\R 4=.int .i64 (eY l F i 0:Int)/\R 5=.int .i64 (eY l F i 1:Int)/\R 6=.int .i64 (eY l F i 2:Int))
  (λr=>r.1=.exit 0/\r.2.2=V/\r.2.1 4=.int .i64 (eY l F C 0:Int)/\r.2.1 5=.int .i64 (eY l F C 1:Int)/\r.2.1 6=.int .i64 (eY l F C 2:Int)) ⟨rfl,rfl,rfl,rfl,rfl,rfl,rfl,rfl⟩ ?_ ?_ ?_
 ·rintro i R U hi ⟨rfl,r0,r8,r9,r10,r4,r5,r6⟩;unfold lT;have t0:=λW'=>aS (P:=Tryz.prog) (W:=W') (t:=3) (c:=false) (d:=false) (a:=(F:Int)) (b:=(C:Int)) (by omega) (by omega)
  have t1:(((F+i:Nat):Int)<(F:Int)+(C:Int)):=by omega
  have t2:=λW'=>aS (P:=Tryz.prog) (W:=W') (t:=3) (c:=false) (d:=true) (a:=((F+i:Nat):Int)) (b:=1) (by omega) (by omega)
  have e6:((F+(i+1):Nat):Int)=((F+i:Nat):Int)+1:=by omega
  have t3:=λt W'=>aS (P:=Tryz.prog) (W:=W') (t:=3) (c:=false) (d:=true) (a:=(eY l F i t:Int)) (b:=1) (by omega) (by have:=a3d l F i t;omega)
  have hx:=iJ (l:=l) (j:=F+i) (by omega);obtain⟨b,o,a1,-,a3⟩:=sAt h hx;have hst:=a1c (h.ok (List.mem_of_getElem? hx));have q:∀t,eY l F (i+1) t=eY l F i t+if(nD l (F+i)).st=t then 1 else 0:=W9 l F i
  have qy:∀t,(nD l (F+i)).st=t->(eY l F (i+1) t:Int)=(eY l F i t:Int)+1:=λt ht=>by rw[q,if_pos ht];rfl
  have qn:∀t,(nD l (F+i)).st≠t->(eY l F (i+1) t:Int)=(eY l F i t:Int):=λt ht=>by rw[q,if_neg ht];rfl
  rcases hst with c2|c2|c2
  ·have d2:decide ((nD l (F+i)).st=0)=true:=decide_eq_true c2;simp only[SX,r0,r8,r9,r10,r4,t0,t1,decide_true,a1,aH,Nat.zero_add,Nat.add_zero,a3,d2,t2,t3,aB];exact .inl ⟨trivial,trivial,r0,r8,r9,by rw[e6];rfl,by rw[qy 0 c2];rfl,by rw[qn 1 (by omega)];exact r5,by rw[qn 2 (by omega)];exact r6⟩
  ·have d2:decide ((nD l (F+i)).st=0)=false:=decide_eq_false (by omega);have d3:decide ((nD l (F+i)).st=1)=true:=decide_eq_true c2;simp only[SX,r0,r8,r9,r10,r5,t0,t1,decide_true,a1,aH,Nat.zero_add,Nat.add_zero,a3,d2,d3,t2,t3,aB];exact .inl ⟨trivial,trivial,r0,r8,r9,by rw[e6];rfl,by rw[qn 0 (by omega)];exact r4,by rw[qy 1 c2];rfl,by rw[qn 2 (by omega)];exact r6⟩
  ·have d2:decide ((nD l (F+i)).st=0)=false:=decide_eq_false (by omega);have d3:decide ((nD l (F+i)).st=1)=false:=decide_eq_false (by omega);simp only[SX,r0,r8,r9,r10,r6,t0,t1,decide_true,a1,aH,Nat.zero_add,Nat.add_zero,a3,d2,d3,t2,t3,aB];exact .inl ⟨trivial,trivial,r0,r8,r9,by rw[e6];rfl,by rw[qn 0 (by omega)];exact r4,by rw[qn 1 (by omega)];exact r5,by rw[qy 2 c2];rfl⟩
 ·rintro R U ⟨rfl,r0,r8,r9,r10,r4,r5,r6⟩;unfold lT;have t0:=λW'=>aS (P:=Tryz.prog) (W:=W') (t:=3) (c:=false) (d:=false) (a:=(F:Int)) (b:=(C:Int)) (by omega) (by omega)
  have t1:¬(((F+C:Nat):Int)<(F:Int)+(C:Int)):=by omega
  simp only[SX,r8,r9,r10,t0,t1,decide_false,aB];exact⟨by simp,trivial,trivial,r4,r5,r6⟩
 ·rintro⟨q,R,U⟩ ⟨rfl,rfl,r4,r5,r6⟩;simp only at r4 r5 r6;simp only[SX,r4,r5,r6,xS,aB];exact⟨trivial,Le.refl _⟩
end
theorem a3k{W:AW}{va vb:Value}{l m:List SeT}(ha:SeL W va l)(hb:SeL W vb m)(hl:l.length<=10000):aK (.func (.func 25) #[] #[]) [va,vb] W=some (.bool (decide (l=m)),W):=by
 refine aN rfl ?_ ED;unfold yT;simp only[SX,ha.len iX,hb.len iX];by_cases hlm:l.length=m.length;case neg=>
  have e1:¬((l.length:Int)=(m.length:Int)):=by omega
  have e2:¬l=m:=λh=>hlm (by rw[h])
  simp only[SX,e1,e2,decide_false,aB];exact⟨trivial,.refl _⟩
 have e1:((l.length:Int)=(m.length:Int)):=by omega
 simp only[SX,e1];refine bB l.length (by omega) (λk R W'=>W'=W/\R 0=va/\R 1=vb/\R 5=.int .i64 (k:Int)/\l.take k=m.take k)
  (λr=>(r.1=.exit 0/\r.2.2=W/\l=m)\/(r.1=.ret/\r.2.2=W/\r.2.1 4=.bool false/\¬l=m)) ⟨rfl,rfl,rfl,rfl,by simp⟩ ?_ ?_ ?_
 ·rintro k R W' hk ⟨rfl,r0,r1,r5,hE⟩;unfold mU;obtain⟨b,o,-,i1,i3,-⟩:=SeL.get ha (List.getElem?_eq_getElem hk);obtain⟨b',o',-,j1,j3,-⟩:=SeL.get hb (List.getElem?_eq_getElem (show k<m.length by omega));have t1:((k:Int)<(l.length:Int)):=by omega
  have t2:=λW'=>aS (P:=Tryz.prog) (W:=W') (t:=3) (c:=false) (d:=true) (a:=(k:Int)) (b:=1) (by omega) (by omega)
  simp only[SX,r0,r1,r5,ha.len iX,t1,i1,i3 _ (Le.refl _),j1,j3 _ (Le.refl _),aCQ];by_cases h:l[k]=m[k]
  ·have dh:=decide_eq_true h;simp only[SX,dh,t2,aB];refine .inl ⟨trivial,trivial,r0,r1,by rw[show((k+1:Nat):Int)=(k:Int)+1 by omega];rfl,?_⟩;rw[List.take_succ_eq_append_getElem hk,List.take_succ_eq_append_getElem (show k<m.length by omega),hE,h]
  ·have dh:=decide_eq_false h;simp only[SX,dh,aB];exact .inr ⟨by simp,.inr ⟨trivial,trivial,rfl,λe=>h (by subst e;rfl)⟩⟩
 ·rintro R W' ⟨rfl,r0,r1,r5,hE⟩;unfold mU;have t1:¬((l.length:Int)<(l.length:Int)):=by omega
  simp only[SX,r0,r1,r5,ha.len iX,t1,aB];refine⟨by simp,.inl ⟨trivial,trivial,?_⟩⟩;rwa [List.take_length,hlm,List.take_length]at hE
 ·rintro⟨x,R,W'⟩ hq;simp only at hq;rcases hq with⟨rfl,rfl,hq⟩|⟨rfl,rfl,r4,hq⟩
  ·have dh:=decide_eq_true hq;simp only[SX,dh,aB];exact⟨trivial,.refl _⟩
  ·have dh:=decide_eq_false hq;simp only[SX,r4,dh,aB];exact⟨trivial,.refl _⟩
abbrev dY(v:Ven)(sv rv:Value):Value:=.agg #[.int .i64 v.sh,.int .i64 v.ttl,.int .i64 v.ses,sv,rv]
abbrev dF(v:Ven)(sv rv:Value):List Value:=[.int .i64 v.sh,.int .i64 v.ttl,.int .i64 v.ses,sv,rv]
def Sl(v:Value):Prop:=Eng.one v=true/\M4 v v=true
structure RefA (W:AW) (v:Ven) (sv rv:Value) (l:List SeT):Prop where
 s1:Sl sv
 r1:Sl rv
 row:SeL W rv l
 secs:Secs W sv v.secs
 sh:1<=v.sh/\v.sh<=16
 lb:l.length<=4096
theorem RefA.mono{W W':AW}{v:Ven}{sv rv:Value}{l:List SeT}(h:RefA W v sv rv l)(hl:Le W W'):RefA W' v sv rv l:={h with row:=h.row.mono hl,secs:=h.secs.mono hl}
theorem RefA.with{W W':AW}{v:Ven}{sv rv rv':Value}{l l':List SeT}(h:RefA W v sv rv l)(hl:Le W W')(h1:Sl rv')(h2:SeL W' rv' l')(h3:l'.length<=4096):RefA W' v sv rv' l':=⟨h.s1,h1,h2,h.secs.mono hl,h.sh,h3⟩
theorem uF(v:Ven)(sv rv:Value)(W:AW):∃W1,bZ (dY v sv rv) W=some (.pointer (some ⟨W.next,0,none⟩),W1)/\Le W W1/\W1.next=W.next+1/\W1.get W.next=some (.cells (dF v sv rv)):=⟨_,fZ _,(Le.refl _).add _,AW.add_next _ _,AW.get_add _ _⟩
theorem VW(W:AW):∃W1,aW Tryz.prog 56 W=some (.pointer (some ⟨W.next,0,none⟩),W1)/\Le W W1/\W1.next=W.next+1/\W1.get W.next=some (.cells (dF ⟨0,0,0,[]⟩ (.slice none 0 0) (.slice none 0 0))):=⟨_,Eq.trans (by kernel_rfl) rfl,(Le.refl _).add _,AW.add_next _ _,AW.get_add _ _⟩
theorem zH(x:Value)(W:AW):rD Tryz.prog 56 x W=bH 5 x W:=by kernel_rfl
theorem rC{v v':Ven}{sv rv sv' rv':Value}{W:AW}{b:Nat}(h:W.get b=some (.cells (dF v' sv' rv')))(h1:Eng.one sv=true)(h2:Eng.one rv=true):cB 5 (.pointer (some ⟨b,0,none⟩)) (dY v sv rv) W=some (undef,W.put b (.cells (dF v sv rv))):=
 AU (n:=5) (o:=0) (v:=dY v sv rv) h rfl (Nat.le_refl _) (by show(true&&(true&&(true&&(Eng.one sv&&(Eng.one rv&&true)))))=true;rw[h1,h2];rfl)
theorem dL{v:Ven}{sv rv:Value}{W:AW}{b:Nat}(h:W.get b=some (.cells (dF v sv rv))):bH 5 (.pointer (some ⟨b,0,none⟩)) W=some (dY v sv rv,W):=tF (bK h) rfl
theorem XO{v:Ven}{sv rv:Value}{W:AW}{b:Nat}(h:W.get b=some (.cells (dF v sv rv))):bH 4 (.pointer (some ⟨b,0,none⟩)) W=some (kN v sv,W):=qL (bK h) rfl
theorem a1d{v:Ven}{sv rv:Value}(h1:M4 sv sv=true)(h2:M4 rv rv=true):vsame (dY v sv rv) (dY v sv rv)=true:=KP (by simp only[vsL,NS,h1,h2,Bool.and_self])
section
variable {W:AW} {v:Ven} {sv rv:Value} {l:List SeT}
theorem a5A(h:RefA W v sv rv l)(n:Int):aK (.func (.func 87) #[] #[]) [dY v sv rv,.int .i64 n] W=some (.tuple #[lY (a0Q l n),.int .i64 (KD n l.length)],W):=by
 refine aN rfl ?_ YA;unfold UG;obtain⟨W1,k1,k2,k3,k4⟩:=uF v sv rv W;obtain⟨W2,a1,a2,a3,a4⟩:=aDl W1;have hle:=k2.trans a2;have c4:aL (.pointer (some ⟨W.next,4,none⟩)) W2=some (rv,W2):=iK (bT ((a2.get _ (by omega)).trans k4)) rfl;have st:=λy=>a1L (x:=y) a4
 have ld:=λy=>bM (x:=y) (W:=W2.put W1.next (.cells (dU y))) (b:=W1.next) (AW.get_put _ _ _)
 have fin:∀o,Le W (W2.put W1.next o):=λo=>hle.put (by omega) o
 unfold a0Q;by_cases c1:n<0
 ·have d1:=decide_eq_true c1;have e:KD n l.length=4:=by unfold KD;rw[if_pos (.inl c1)]
  have e':¬KD n l.length=0:=by omega
  simp only[SX,nQ,nY,k1,a1,d1,a7j,st,bE,D8,ld,Option.bind_some,aB];exact⟨by rw[if_neg e',e],fin _⟩
 ·have d1:=decide_eq_false c1;by_cases c2:(l.length:Int)<=n
  ·have d2:=decide_eq_true c2;have e:KD n l.length=4:=by unfold KD;rw[if_pos (.inr c2)]
   have e':¬KD n l.length=0:=by omega
   simp only[SX,nQ,nY,k1,a1,d1,Nat.zero_add,c4,h.row.len iX,d2,a7j,st,bE,D8,ld,Option.bind_some,aB];exact⟨by rw[if_neg e',e],fin _⟩
  ·have d2:=decide_eq_false c2;have e:KD n l.length=0:=by unfold KD;rw[if_neg (by omega)]
   obtain⟨s,rfl,hs⟩:=X8 e;obtain⟨b,o,-,i1,i2,-⟩:=SeL.get h.row (iJ hs);simp only[SX,nQ,nY,k1,a1,d1,Nat.zero_add,c4,h.row.len iX,d2,i1,i2 _ hle,st,bE,D8,ld,Option.bind_some,aB];exact⟨by rw[if_pos e,e];rfl,fin _⟩
theorem a4H(h:RefA W v sv rv l)(n:Int)(y:SeT):∃rv' W',aK (.func (.func 86) #[] #[]) [dY v sv rv,.int .i64 n,lY y] W=some (.tuple #[dY v sv rv',.int .i64 (zX l n y)],W')/\Le W W'/\RefA W' v sv rv' (jM l n y)/\((rv'=rv/\jM l n y=l)\/∃B c,W.next<=B/\B<W'.next/\rv'=.slice (some ⟨B,0,none⟩) (jM l n y).length c/\W'.get B=some (.cells ((jM l n y).flatMap dU))):=by
 obtain⟨W1,k1,k2,k3,k4⟩:=uF v sv rv W;have main:Ok (KQ aK (dY v sv rv) (.int .i64 n) (lY y) W) λr=>∃rv',r.1=.tuple #[dY v sv rv',.int .i64 (zX l n y)]/\Le W r.2/\RefA r.2 v sv rv' (jM l n y)/\((rv'=rv/\jM l n y=l)\/∃B c,W.next<=B/\B<r.2.next/\rv'=.slice (some ⟨B,0,none⟩) (jM l n y).length c/\r.2.get B=some (.cells ((jM l n y).flatMap dU))):=by
  unfold KQ;simp only[SX,k1,zJ];have l1:Le W1 (W1.add (.cells (dU y))):=(Le.refl _).add _;have n1:(W1.add (.cells (dU y))).next=W1.next+1:=AW.add_next _ _;have g1:(W1.add (.cells (dU y))).get W1.next=some (.cells (dU y)):=AW.get_add _ _;generalize W1.add (.cells (dU y))=W2 at *;obtain⟨W3,a1,a2,a3,a4⟩:=VW W2;have l2:=k2.trans l1;have hle:=l2.trans a2;have x1:W3.get W.next=some (.cells (dF v sv rv)):=by rw[a2.get _ (by omega),l1.get _ (by omega)];exact k4
  have x2:W3.get W1.next=some (.cells (dU y)):=by rw[a2.get _ (by omega)];exact g1
  have c4:aL (.pointer (some ⟨W.next,4,none⟩)) W3=some (rv,W3):=iK (bT x1) rfl;have hs1:=h.s1.1;have hr1:=h.r1.1;have fin:∀o,Le W (W3.put W2.next o):=λo=>hle.put (by omega) o
  have ldp:=λx y=>dL (v:=v) (sv:=x) (rv:=y) (W:=W3.put W2.next (.cells (dF v x y))) (b:=W2.next) (AW.get_put _ _ _)
  by_cases e:KD n l.length=0;case neg=>
   have e4:KD n l.length=4:=by
    unfold KD at e|-;by_cases c:n<0\/(l.length:Int)<=n
    ·rw[if_pos c]
    ·rw[if_neg c]at e;exact absurd rfl e
   have ep:zX l n y=4:=by unfold zX;rw[if_pos e,e4]
   have eL:jM l n y=l:=by unfold jM;rw[if_neg (by omega)]
   rw[ep,eL];by_cases c1:n<0
   ·have d1:=decide_eq_true c1;simp only[SX,nQ,nY,a1,d1,dL x1,rC (v:=v) a4 hs1 hr1,bE,zH,ldp,Option.bind_some,aB];exact⟨rv,rfl,fin _,h.mono (fin _),.inl ⟨rfl,trivial⟩⟩
   ·have d1:=decide_eq_false c1;have d2:decide ((l.length:Int)<=n)=true:=decide_eq_true (by unfold KD at e;split at e<;>omega);simp only[SX,nQ,nY,a1,d1,Nat.zero_add,c4,h.row.len iX,d2,dL x1,rC (v:=v) a4 hs1 hr1,bE,zH,ldp,Option.bind_some,aB];exact⟨rv,rfl,fin _,h.mono (fin _),.inl ⟨rfl,trivial⟩⟩
  obtain⟨s,rfl,hs⟩:=X8 e;have d1:decide ((s:Int)<0)=false:=decide_eq_false (by omega);have d2:decide ((l.length:Int)<=(s:Int))=false:=decide_eq_false (by omega);by_cases c3:uW y=0;case neg=>
   have d3:=decide_eq_false c3;have ep:zX l (s:Int) y=6:=by unfold zX;rw[if_neg (λx=>x e),if_pos c3]
   have eL:jM l (s:Int) y=l:=by unfold jM;rw[if_neg (by omega)]
   rw[ep,eL];simp only[SX,nQ,nY,a1,d1,Nat.zero_add,c4,h.row.len iX,d2,bM x2,jW,d3,dL x1,rC (v:=v) a4 hs1 hr1,bE,zH,ldp,Option.bind_some,aB];exact⟨rv,rfl,fin _,h.mono (fin _),.inl ⟨rfl,trivial⟩⟩
  have d3:=decide_eq_true c3;have ep:zX l (s:Int) y=0:=by unfold zX;rw[if_neg (λx=>x e),if_neg (λx=>x c3)]
  have eL:jM l (s:Int) y=l.set s y:=by unfold jM;rw[if_pos ep];rfl
  rw[ep,eL];have l4:Le W3 (W3.add (.cells [])):=(Le.refl _).add _;have n4:(W3.add (.cells [])).next=W3.next+1:=AW.add_next _ _;have c5:aL (.pointer (some ⟨W.next,4,none⟩)) (W3.add (.cells []))=some (rv,W3.add (.cells [])):=iK (bT ((l4.get _ (by omega)).trans x1)) rfl;simp only[SX,nQ,nY,a1,d1,Nat.zero_add,c4,h.row.len iX,d2,bM x2,jW,d3,a3K,c5];generalize W3.add (.cells [])=W4 at *;obtain⟨u,W5,b1,b2,b3⟩:=zR a2G dW xY (h.row.mono (hle.trans l4)) (λ_ _ _=>a0C) (by have:=h.lb;omega) (by have:=h.lb;omega) (b:=W3.next) (by omega);have hu:=b3.one;have x5:W5.get W.next=some (.cells (dF v sv rv)):=by rw[b2.get _ (by omega),l4.get _ (by omega)];exact x1
  have x6:W5.get W1.next=some (.cells (dU y)):=by rw[b2.get _ (by omega),l4.get _ (by omega)];exact x2
  have x7:W5.get W2.next=some (.cells (dF ⟨0,0,0,[]⟩ (.slice none 0 0) (.slice none 0 0))):=by rw[b2.get _ (by omega),l4.get _ (by omega)];exact a4
  obtain⟨B,c,q0,q1,rfl,q2⟩:=b3;have n5:=b2.next;have st4:=Y2 (b:=W.next) (o:=4) (v:=.slice (some ⟨B,0,none⟩) l.length c) x5 (by simp) rfl rfl;have st4':cB 1 (.pointer (some ⟨W.next,4,none⟩)) (.slice (some ⟨B,0,none⟩) l.length c) W5=some (undef,W5.put W.next (.cells (dF v sv (.slice (some ⟨B,0,none⟩) l.length c)))):=st4;obtain⟨W6,hW6⟩:∃W6,W6=W5.put W.next (.cells (dF v sv (.slice (some ⟨B,0,none⟩) l.length c))):=⟨_,rfl⟩;rw[<-hW6]at st4';have y1:W6.get W.next=some (.cells (dF v sv (.slice (some ⟨B,0,none⟩) l.length c))):=by rw[hW6];exact AW.get_put _ _ _
  have y0:∀b,b≠W.next->W6.get b=W5.get b:=λb hb=>by rw[hW6];exact AW.get_put_ne _ _ λx=>hb x.symm
  have n6:W6.next=W5.next:=by rw[hW6];rfl
  have c6:aL (.pointer (some ⟨W.next,4,none⟩)) W6=some (.slice (some ⟨B,0,none⟩) l.length c,W6):=iK (bT y1) rfl;have hne:l≠[]:=λx=>by rw[x]at hs;simp at hs
  have hBn:B≠W.next:=by omega
  have gB:W6.get B=some (.cells (l.flatMap dU)):=by rw[y0 B hBn];exact q2 hne
  have ix:=λW' q=>nC (W:=W') (z:=5) (b:=B) (o:=0) (l:=l.length) (c:=c) (i:=s) (k:=q) hs
  have hst:=AU (n:=5) (b:=B) (o:=s*5) (v:=lY y) gB rfl (by show s*5+5<=_;rw[aZ dW];omega) rfl;have e5:jS (l.flatMap dU) (s*5) (lY y).cells.toList=(l.set s y).flatMap dU:=zY dW (iJ hs) y;rw[e5]at hst;obtain⟨W7,hW7⟩:∃W7,W7=W6.put B (.cells ((l.set s y).flatMap dU)):=⟨_,rfl⟩;rw[<-hW7]at hst;have z0:∀b,b≠B->W7.get b=W6.get b:=λb hb=>by rw[hW7];exact AW.get_put_ne _ _ λx=>hb x.symm
  have z1:W7.get B=some (.cells ((l.set s y).flatMap dU)):=by rw[hW7];exact AW.get_put _ _ _
  have n7:W7.next=W6.next:=by rw[hW7];rfl
  have c7:=dL ((z0 W.next (λx=>hBn x.symm)).trans y1);have x8:W7.get W2.next=some (.cells (dF ⟨0,0,0,[]⟩ (.slice none 0 0) (.slice none 0 0))):=by rw[z0 _ (by omega),y0 _ (by omega)];exact x7
  have c8:=bM ((y0 W1.next (by omega)).trans x6);have st8:=rC (v:=v) (rv:=.slice (some ⟨B,0,none⟩) l.length c) x8 hs1 rfl;have ld8:=dL (v:=v) (sv:=sv) (rv:=.slice (some ⟨B,0,none⟩) l.length c) (W:=W7.put W2.next (.cells (dF v sv (.slice (some ⟨B,0,none⟩) l.length c)))) (b:=W2.next) (AW.get_put _ _ _);simp only[SX,Nat.zero_add,b1,st4',c6,ix,c8,hst,c7,st8,bE,zH,ld8,Option.bind_some,aB];have lf:Le W (W7.put W2.next (.cells (dF v sv (.slice (some ⟨B,0,none⟩) l.length c)))):=by refine Le.put ⟨by have:=hle.next;omega,λb hb=>?_⟩ (by omega) _;rw[z0 b (by omega),y0 b (by omega),b2.get b (by omega),l4.get b (by omega)];exact hle.get b hb
  refine⟨_,rfl,lf,h.with lf ⟨rfl,tT _ _ _ _⟩ ?_ (by rw[List.length_set];exact h.lb),.inr ⟨B,c,by have:=hle.next;omega,by rw[AW.put_next];omega,by rw[List.length_set],by rw[AW.get_put_ne _ _ (by omega)];exact z1⟩⟩;refine OwnL.row (lo:=0) dW ⟨B,c,Nat.zero_le _,by rw[AW.put_next];omega,by rw[List.length_set],λ_=>?_⟩ JS;rw[AW.get_put_ne _ _ (by omega)];exact z1
 obtain⟨⟨r,W'⟩,h1,rv',h2,h3,h4,h5⟩:=main;simp only at h2 h3 h4 h5;subst h2;rcases WQ (W:=W) (W':=W') (.tuple #[dY v sv rv',.int .i64 (zX l n y)])with hg|⟨hg,hle,hp⟩
 ·exact⟨rv',W',by rw[H8 h1,hg],h3,h4,h5⟩
 ·rcases h5 with h5|⟨B,c,-,-,rfl,-⟩
  ·refine⟨rv',W,by rw[H8 h1,hg],Le.refl _,?_,.inl h5⟩;rw[h5.1,h5.2];exact h
  ·simp[bC,fU,bX]at hp
end
section
variable {α:Type} {z:Nat} {f:α->List Value} {at_:List Value->Nat->α->Prop} {W:AW} {v u:Value} {l m:List α}
def LB(lo:Nat)(W:AW)(z:Nat)(f:α->List Value)(v:Value)(l:List α):Prop:=Lst lo W z f v l\/(l=[]/\∃B,B<W.next/\v=.slice (some ⟨B,0,none⟩) 0 0)
theorem LB.mono{lo:Nat}{W':AW}(h:LB lo W z f v l)(hl:Le W W'):LB lo W' z f v l:=by
 rcases h with h|⟨h0,B,h1,h2⟩
 ·exact .inl (h.mono hl)
 ·exact .inr ⟨h0,B,Nat.lt_of_lt_of_le h1 hl.next,h2⟩
theorem LB.cat{ts:Array TypeId}{bytes lo:Nat}(hk:nK Tryz.prog ts z bytes=true)(hf:∀a,(f a).length=z)(h1:∀a,(f a).all Eng.one=true)(h:LB lo W z f v l)(hr:Row W z at_ u m)(hat:∀cs p a,at_ cs p a->(cs.drop p).take z=f a)
 (hb:l.length+m.length<1099511627776)(hb2:(2*(l.length+m.length)+192)*bytes<=281474976710656)(hlo:lo<=W.next):
 ∃v' W',bF Tryz.prog W ts v u=some (v',W')/\LB lo W' z f v' (l++m)/\(l++m≠[]->Lst lo W' z f v' (l++m))/\W.next<=W'.next/\∀A,Le A W->A.next<=lo->Le A W':=by
 rcases h with h|⟨rfl,B,h2,rfl⟩
 ·obtain⟨v',W',k1,k2,k3,k4⟩:=Lst.cat hk hf h1 h hr hat hb hb2 hlo;exact⟨v',W',k1,.inl k2,λ_=>k2,k3,k4⟩
 ·obtain⟨a,c,rfl,hr⟩:=hr;by_cases hm:m=[]
  ·subst hm;exact⟨_,W,AY hk (Nat.le_refl 0) (by omega) (by simpa using hb2),.inr ⟨rfl,B,h2,rfl⟩,λx=>absurd rfl x,Nat.le_refl _,λA hA _=>hA⟩
  ·rcases hr with hr|⟨C,o,cs,rfl,h3,h4,h5⟩
   ·exact absurd hr hm
   ·have e:m.flatMap f=(cs.drop o).take (m.length*z):=(FN hf m cs o λi hi=>hat _ _ _ (h5 i hi)).symm;have hall:(m.flatMap f).all Eng.one=true:=by rw[List.all_flatMap,List.all_eq_true];exactλa _=>h1 a
    have hL:Lst lo (W.add (.cells (m.flatMap f))) z f (.slice (some ⟨W.next,0,none⟩) m.length (dI+z)) m:=.inr ⟨hm,W.next,hlo,by rw[AW.add_next];omega,rfl,AW.get_add _ _⟩;exact⟨_,_,FO hk h4 e (aZ hf m) (List.length_pos_iff.2 hm) hall (by simpa using hb) (by simpa using hb2),.inl hL,λ_=>hL,by rw[AW.add_next];omega,λA hA _=>hA.add _⟩
end
theorem Lst.to{lo:Nat}{W:AW}{v:Value}{l:List (Int×Int)}(h:Lst lo W 2 oO v l){n:Nat}(hn:n<=l.length)(k:IntKind):∃u,(∀W',bU Tryz.prog 32 v none (some (.int k (n:Int))) none W'=some (u,W'))/\HoL W u (l.take n):=by
 rcases h with⟨rfl,rfl⟩|⟨h0,B,h1,h2,rfl,h3⟩
 ·obtain rfl:n=0:=by simpa using hn
  obtain⟨e,he,hz⟩:=iD a6h;exact⟨.slice none 0 0,λW'=>by unfold bU iW;simp[he,hz,dQ,jF],Row.nil⟩
 ·refine⟨_,λW'=>uO a6h (by omega) hn,?_⟩;have e:l.flatMap oO=(l.take n).flatMap oO++(l.drop n).flatMap oO:=by rw[<-List.flatMap_append,List.take_append_drop]
  have:n=(l.take n).length:=by rw[List.length_take];omega
  rw[e]at h3;have h4:=RX (c:=dI+2) h3 h2;rwa [<-this]at h4
theorem Lst.from{lo:Nat}{W:AW}{v:Value}{l:List (Int×Int)}(h:Lst lo W 2 oO v l){n:Nat}(hn:n<=l.length)(k:IntKind):∃u,(∀W',bU Tryz.prog 32 v (some (.int k (n:Int))) none none W'=some (u,W'))/\HoL W u (l.drop n):=by
 rcases h with⟨rfl,rfl⟩|⟨h0,B,h1,h2,rfl,h3⟩
 ·obtain rfl:n=0:=by simpa using hn
  obtain⟨e,he,hz⟩:=iD a6h;exact⟨.slice none 0 0,λW'=>by unfold bU iW;simp[he,hz,dQ,jF],Row.nil⟩
 ·refine⟨_,λW'=>PK hn W',?_⟩;refine⟨_,_,by rw[List.length_drop],?_⟩;by_cases he:l.drop n=[]
  ·exact .inl he
  ·refine .inr ⟨B,n*2,_,rfl,h2,bK h3,λi hi=>?_⟩;rw[List.length_drop]at hi;obtain⟨e1,e2⟩:=fV jQ (List.getElem?_eq_getElem (show n+i<l.length by omega));rw[e1,show n*2+i*2=(n+i)*2 by omega,<-e2,List.getElem_drop];exact PL _ _ _
theorem aAK(W:AW):aR Tryz.prog 32 0 [] W=some (.slice (some ⟨W.next,0,none⟩) 0 0,W.add (.cells [])):=Eq.trans (by kernel_rfl) rfl
theorem aEb(x:Int×Int)(W:AW):aR Tryz.prog 32 1 [(0,jN x)] W=some (.slice (some ⟨W.next,0,none⟩) 1 1,W.add (.cells (oO x))):=Eq.trans (by kernel_rfl) rfl
theorem aDf(a b:Int)(W:AW):dA Tryz.prog 42 [(0,.int .i64 a),(1,.int .i64 b)] W=some (jN (a,b),W):=Eq.trans (by kernel_rfl) rfl
theorem a8W{l:List (Int×Int)}{x:Int×Int}{n:Nat}(hl:Asc l)(hs:∀y∈l,y.1<x.1)(hn:n<=l.length)(h1:∀j (hj:j<l.length),n<=j->x.2<l[j].2)(h2:∀m,m+1=n->∀hj:m<l.length,l[m].2<=x.2):Asc (l.take n++[x]++l.drop n):=by
 unfold Asc at *;have hp:=hl;rw[<-List.take_append_drop n l,List.pairwise_append]at hp;obtain⟨p1,p2,p3⟩:=hp;have ht:∀y∈l.take n,y.2<=x.2:=λy hy=>by
  obtain⟨i,hi,rfl⟩:=List.mem_iff_getElem.1 hy;rw[List.length_take]at hi;rw[List.getElem_take];obtain⟨m,rfl⟩:∃m,n=m+1:=⟨n-1,by omega⟩;have h3:=h2 m rfl (by omega);by_cases c:i=m
  ·subst c;exact h3
  ·have h4:=List.pairwise_iff_getElem.1 hl i m (by omega) (by omega) (by omega);unfold lS at h4;simp only[Bool.or_eq_false_iff,decide_eq_false_iff_not]at h4;omega
 have hd:∀y∈l.drop n,x.2<y.2:=λy hy=>by obtain⟨i,hi,rfl⟩:=List.mem_iff_getElem.1 hy;rw[List.length_drop]at hi;rw[List.getElem_drop];exact h1 _ (by omega) (by omega)
 rw[List.pairwise_append,List.pairwise_append];refine⟨⟨p1,List.pairwise_singleton _ _,λa ha b hb=>?_⟩,p2,λa ha b hb=>?_⟩
 ·obtain rfl:b=x:=by simpa using hb
  have h3:=ht a ha;have h4:=hs a (List.mem_of_mem_take ha);unfold lS;rw[decide_eq_false (by omega),decide_eq_false (show¬b.1<a.1 by omega),Bool.and_false];rfl
 ·rcases List.mem_append.1 ha with ha|ha
  ·exact p3 a ha b hb
  ·obtain rfl:a=x:=by simpa using ha
   have h3:=hd b hb;unfold lS;rw[decide_eq_false (by omega),decide_eq_false (by omega),Bool.false_and];rfl
theorem a5n{l:List SeT}{n:Nat}(hn:n<l.length)(p:Nat->Bool):bQ (l.take (n+1)) p=bQ (l.take n) p++(if p n=true/\(nD l n).st=1 then [((n:Int),(nD l n).dl)]else []):=by
 have e:l.take (n+1)=l.take n++[nD l n]:=by rw[List.take_add_one,iJ hn];rfl
 have e2:(l.take n).length=n:=by rw[List.length_take];omega
 rw[e,VA,e2]
section
variable {W:AW} {v:Ven} {sv rv:Value} {l:List SeT} {k:Nat}
theorem a1i(h:RefA W v sv rv l)(hk:v.sh=(k:Int))(i:Int):∃u W',aK (.func (.func 88) #[] #[]) [dY v sv rv,.int .i64 i] W=some (.tuple #[u,.int .i64 (dO i k 0)],W')/\Le W W'/\SeL W' u (shL l k i):=by
 refine NW ?_ OM;unfold MF;obtain⟨W1,k1,k2,k3,k4⟩:=uF v sv rv W;have hkp:=h.sh;have hlb:=h.lb;have c0:aL (.pointer (some ⟨W.next,0,none⟩)) W1=some (.int .i64 (k:Int),W1):=by rw[<-hk];exact iK (bT k4) rfl
 by_cases c:dO i k 0=0;case neg=>
  have e4:dO i k 0=4:=by
   unfold dO at c|-;by_cases x:i<0\/(k:Int)<=i
   ·rw[if_pos x]
   ·rw[if_neg x,if_neg (by omega)]at c;exact absurd rfl c
  have eL:shL l k i=[]:=by unfold shL;rw[if_neg c]
  rw[e4,eL];by_cases c1:i<0
  ·have d1:=decide_eq_true c1;simp only[SX,nQ,nY,k1,d1,aB];exact⟨_,rfl,k2,Row.nil⟩
  ·have d1:=decide_eq_false c1;have d2:decide ((k:Int)<=i)=true:=decide_eq_true (by unfold dO at c;split at c<;>first|omega|(split at c<;>omega));simp only[SX,nQ,nY,k1,d1,Nat.zero_add,c0,d2,aB];exact⟨_,rfl,k2,Row.nil⟩
 obtain⟨s,rfl,hs,-⟩:=QC c;have d1:decide ((s:Int)<0)=false:=decide_eq_false (by omega);have d2:decide ((k:Int)<=(s:Int))=false:=decide_eq_false (by omega);have eL:shL l k (s:Int)=fF l k s:=by unfold shL;rw[if_pos c];rfl
 rw[c,eL];simp only[SX,nQ,nY,k1,d1,Nat.zero_add,c0,d2];have hcl:=iI l k s;have hc1:cnt l.length k s<=10000:=by unfold cnt;have:=Nat.div_le_self (l.length+k-1-s) k;omega
 refine bB (cnt l.length k s) (by omega) (λj R U=>Le W1 U/\R 2=.pointer (some ⟨W.next,0,none⟩)/\R 7=.int .i64 ((s+j*k:Nat):Int)/\Lst W1.next U 5 dU (R 6) ((fF l k s).take j))
  (λr=>r.1=.exit 0/\Le W1 r.2.2/\Lst W1.next r.2.2 5 dU (r.2.1 6) (fF l k s)) ⟨Le.refl _,rfl,by rw[Nat.zero_mul,Nat.add_zero];rfl,by rw[List.take_zero];exact Lst.nil _ _ _ _⟩ ?_ ?_ ?_
 ·rintro j R U hj ⟨u1,r2,r7,u2⟩;unfold uJ;have hi:=(nU hs).1 hj;have t1:(((s+j*k:Nat):Int)<(l.length:Int)):=by omega
  have t2:=λW'=>aS (P:=Tryz.prog) (W:=W') (t:=3) (c:=false) (d:=false) (a:=((s+j*k:Nat):Int)) (b:=(k:Int)) (by omega) (by omega)
  have e6:((s+(j+1)*k:Nat):Int)=((s+j*k:Nat):Int)+(k:Int):=by rw[Nat.add_mul,Nat.one_mul];omega
  have x4:∀U',Le U U'->aL (.pointer (some ⟨W.next,4,none⟩)) U'=some (rv,U'):=λU' hU=>iK (bT (((u1.trans hU).get _ (by omega)).trans k4)) rfl
  have x0:∀U',Le W1 U'->aL (.pointer (some ⟨W.next,0,none⟩)) U'=some (.int .i64 (k:Int),U'):=λU' hU=>by rw[<-hk];exact iK (bT ((hU.get _ (by omega)).trans k4)) rfl
  obtain⟨b,o,-,i1,i2,-⟩:=SeL.get h.row (iJ hi);have hb:cellsAt (U.add (.cells (dU (nD l (s+j*k))))) U.next=some (dU (nD l (s+j*k))):=bR;have hlt:((fF l k s).take j).length<=10000:=by rw[List.length_take];omega
  obtain⟨v',U',p1,p2,p3,p4⟩:=(u2.mono ((Le.refl U).add (.cells (dU (nD l (s+j*k)))))).push (c:=1) a2G dW xY hb (by omega) (by omega) (by rw[AW.add_next];have:=u1.next;omega);have u5:=p4 W1 (u1.add _) (Nat.le_refl _);simp only[SX,r2,r7,x4 U (Le.refl _),Nat.zero_add,h.row.len iX,t1,decide_true,i1,i2 U (k2.trans u1),aDO,p1,x0 U' u5,t2,aB];refine .inl ⟨trivial,u5,r2,by rw[e6];rfl,?_⟩;rw[List.take_add_one,oJ hs hi];exact p2
 ·rintro R U ⟨u1,r2,r7,u2⟩;unfold uJ;have hi:¬s+cnt l.length k s*k<l.length:=λx=>by have:=(nU hs).2 x;omega
  have t1:¬(((s+cnt l.length k s*k:Nat):Int)<(l.length:Int)):=by omega
  have x4:aL (.pointer (some ⟨W.next,4,none⟩)) U=some (rv,U):=iK (bT ((u1.get _ (by omega)).trans k4)) rfl;rw[<-hcl,List.take_length]at u2;simp only[SX,r2,r7,x4,Nat.zero_add,h.row.len iX,t1,decide_false,aB];exact⟨by simp,trivial,u1,u2⟩
 ·rintro⟨q,R,U⟩ ⟨rfl,u1,u2⟩;simp only at u1 u2;simp only[SX,aB];exact⟨_,rfl,k2.trans u1,Lst.seats u2⟩
end
end Go.Proofs.YtnigceddndemkaaGreatDoor.Ho
