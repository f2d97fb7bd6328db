/- Contracts of functions, and their laws. -/
import Derived.Test.YtnigceddndemkaaGreatDoorPlainA
import Derived.Test.YtnigceddndemkaaGreatDoorOpnA
import Derived.KernelRfl
set_option linter.unusedVariables false
set_option linter.unusedSimpArgs false
set_option linter.unusedSectionVars false
namespace Go.Proofs.YtnigceddndemkaaGreatDoor
open Go Go.Eng
set_option maxRecDepth 100000
structure Sec where
 name:List UInt8
 rows:List Int
 q:Int
structure Ven where
 sh:Int
 ttl:Int
 ses:Int
 secs:List Sec
def a3k(W:AW)(cs:List Value)(p:Nat)(s:Sec):Prop:=cs[p]? =some (.string (aO s.name))/\cs[p+2]? =some (.int .i64 s.q)/\∃rv,cs[p+1]? =some rv/\Ints W rv s.rows
abbrev Secs(W:AW)(v:Value)(l:List Sec):Prop:=Row W 3 (a3k W) v l
theorem Row.imp{α:Type}{W W':AW}{z:Nat}{f g:List Value->Nat->α->Prop}{v:Value}{l:List α}(h:Row W z f v l)(hle:Le W W')(hfg:∀cs p a,f cs p a->g cs p a):Row W' z g v l:=by
 obtain⟨a,c,rfl,k⟩:=h.mono hle;refine⟨a,c,rfl,?_⟩;rcases k with h|⟨b,o,cs,h1,h2,h3,h4⟩
 ·exact .inl h
 ·exact .inr ⟨b,o,cs,h1,h2,h3,λi hi=>hfg _ _ _ (h4 i hi)⟩
theorem Secs.mono{W W':AW}{v:Value}{l:List Sec}(h:Secs W v l)(hle:Le W W'):Secs W' v l:=
 Row.imp h hle λcs p s ⟨h1,h2,rv,h3,h4⟩=>⟨h1,h2,rv,h3,h4.mono hle⟩
theorem a6E{cs:List Value}{p:Nat}{a b c:Value}(h0:cs[p]? =some a)(h1:cs[p+1]? =some b)(h2:cs[p+2]? =some c):(cs.drop p).take 3=[a,b,c]:=by obtain⟨i0,e0⟩:=List.getElem?_eq_some_iff.1 h0;obtain⟨i1,e1⟩:=List.getElem?_eq_some_iff.1 h1;obtain⟨i2,e2⟩:=List.getElem?_eq_some_iff.1 h2;rw[List.drop_eq_getElem_cons i0,List.drop_eq_getElem_cons i1,List.drop_eq_getElem_cons i2,e0,e1,e2];rfl
abbrev a0a(s:Sec)(rv:Value):Value:=.agg #[.string (aO s.name),rv,.int .i64 s.q]
theorem Secs.get{W:AW}{v:Value}{l:List Sec}(h:Secs W v l){i:Nat}(hi:i<l.length):∃b o rv,(∀W' k,gL 3 v (.int k (i:Int)) W'=some (.pointer (some ⟨b,o,none⟩),W'))/\Ints W rv l[i].rows/\
 (∀W',Le W W'->bH 3 (.pointer (some ⟨b,o,none⟩)) W'=some (a0a l[i] rv,W'))/\(∀W',Le W W'->aL (.pointer (some ⟨b,o,none⟩)) W'=some (.string (aO l[i].name),W'))/\
 (∀W',Le W W'->aL (.pointer (some ⟨b,o+1,none⟩)) W'=some (rv,W'))/\(∀W',Le W W'->aL (.pointer (some ⟨b,o+2,none⟩)) W'=some (.int .i64 l[i].q,W')):=by
 obtain⟨b,o,cs,h1,h2,h3,h4,h5,rv,h6,h7⟩:=h.elem hi;refine⟨b,o,rv,h1,h7,λW' hle=>?_,λW' hle=>bY (by rw[hle.cellsAt h2];exact h3) h4,λW' hle=>bY (by rw[hle.cellsAt h2];exact h3) h6,λW' hle=>bY (by rw[hle.cellsAt h2];exact h3) h5⟩;rw[EQ,hle.cellsAt h2,h3];simp only[Option.bind_some,a6E h4 h6 h5,List.length_cons,List.length_nil,if_true]
def zJ(s:Sec)(before:List Sec):Int:=
 if vH s.name=false then 6 else if(before.any λx=>x.name==s.name)=true then 8 else if s.rows.length=0 then 6 else if 16<s.rows.length then 3 else
 if(s.rows.any λn=>lN n 1 64)=true then 7 else if lN s.q 0 64=true then 7 else 0
def pV(l:List Sec):Nat->Option (Nat×Int)
 |0=>none
 |k+1=>match pV l k with
  |some r=>some r
  |none=>match l[k]? with
   |some s=>if zJ s (l.take k)=0 then none else some (k,zJ s (l.take k))
   |none=>none
theorem CR{l:List Sec}{k n:Nat}{r:Nat×Int}(h:pV l k=some r)(hn:k<=n):pV l n=some r:=by
 induction n with
 |zero=>obtain rfl:k=0:=by omega
        exact h
 |succ n ih=>
  by_cases hk:k=n+1
  ·rw[<-hk];exact h
  ·show(match pV l n with|some r=>some r|none=>_)=_;rw[ih (by omega)]
def lF(l:List Int):Int:=l.foldr (· + ·) 0
theorem a6r(l:List Int)(n:Int):lF (l++[n])=lF l+n:=by
 induction l with
 |nil=>simp[lF]
 |cons a l ih=>simp only[lF,List.cons_append,List.foldr_cons]at ih|-;omega
def dA(l:List Sec):Int:=lF (l.map λs=>lF s.rows)
def H7(v:Ven):Bool:=lN v.sh 1 16||lN v.ttl 1 1000000000||lN v.ses 1 1000000000
def lW(v:Ven):Int×Int:=
 if H7 v=true then(-1,7)else if v.secs.length=0 then(-1,6)else if 8<v.secs.length then(-1,3)else
 match pV v.secs v.secs.length with
 |some (i,e)=>((i:Int),e)
 |none=>if 4096<dA v.secs then(-1,3)else(0,0)
abbrev kR(v:Ven)(sv:Value):Value:=.agg #[.int .i64 v.sh,.int .i64 v.ttl,.int .i64 v.ses,sv]
def SecsC(W:AW)(sv:Value)(l:List Sec):Prop:=Secs W sv l/\(∃a c,sv=.slice a l.length c/\((l.length<=c/\c<dH)\/c=dH+3)/\(l≠[]->∃b o,a=some ⟨b,o,none⟩))
theorem SecsC.mono{W W':AW}{v:Value}{l:List Sec}(h:SecsC W v l)(hle:Le W W'):SecsC W' v l:=⟨h.1.mono hle,h.2⟩
theorem Row.take{α:Type}{W:AW}{z:Nat}{f:List Value->Nat->α->Prop}{b o c:Nat}{l:List α}(h:Row W z f (.slice (some ⟨b,o,none⟩) l.length c) l){k:Nat}(hk:k<=l.length)(h0:l≠[]):Row W z f (.slice (some ⟨b,o,none⟩) k c) (l.take k):=by
 obtain⟨a,c',he,h⟩:=h;injection he with e1 e2 e3;subst e1 e3;refine⟨_,c,by rw[List.length_take,Nat.min_eq_left hk],?_⟩;rcases h with h|⟨b',o',cs,h1,h2,h3,h4⟩
 ·exact absurd h h0
 ·refine .inr ⟨b',o',cs,h1,h2,h3,λi hi=>?_⟩;rw[List.getElem_take];exact h4 i (by rw[List.length_take]at hi;omega)
theorem aDb:qG Tryz.prog 22=some 3:=by kernel_rfl
theorem SecsC.pre{W:AW}{sv:Value}{l:List Sec}(h:SecsC W sv l){k:Nat}(hk:k<l.length):∃u,(∀W',bU Tryz.prog 22 sv none (some (.int .i64 (k:Int))) none W'=some (u,W'))/\Secs W u (l.take k):=by
 obtain⟨h1,a,c,rfl,h2,h4⟩:=h;have h0:l≠[]:=by intro e;rw[e]at hk;simp at hk
 obtain⟨b,o,rfl⟩:=h4 h0;rcases h2 with⟨h2,h3⟩|rfl
 ·exact⟨_,λW'=>x9 aDb (by omega) h3,Row.take h1 (by omega) h0⟩
 ·exact⟨_,λW'=>uI aDb (by omega) (Nat.le_of_lt hk),Row.take h1 (by omega) h0⟩
theorem a9f(W:AW):aW Tryz.prog 130 W=some (.pointer (some ⟨W.next,0,none⟩),W.add (.cells [.string (aO []),.slice none 0 0,.int .i64 0])):=Eq.trans (by kernel_rfl) rfl
def pW{α:Type}(p:α->Bool)(l:List α):Int:=match l.findIdx? p with
 |some i=>(i:Int)
 |none=> -1
theorem VY{α:Type}{p:α->Bool}{l:List α}{k:Nat}(hk:k<l.length)(h1:p l[k]=true)(h2:(l.take k).any p=false):pW p l=(k:Int):=by
 have:l.findIdx? p=some k:=by rw[List.findIdx?_eq_some_iff_getElem];refine⟨hk,h1,λj hj=>?_⟩;rw[List.any_eq_false]at h2;exact h2 _ (by rw[List.mem_take_iff_getElem];exact⟨j,by omega,rfl⟩)
 unfold pW;rw[this]
theorem VU{α:Type}{p:α->Bool}{l:List α}(h:l.any p=false):pW p l= -1:=by
 have:l.findIdx? p=none:=by rw[List.findIdx?_eq_none_iff];intro x hx;rw[List.any_eq_false]at h;simpa using h x hx
 unfold pW;rw[this]
theorem GR{α:Type}{p:α->Bool}{l:List α}{k:Nat}(hk:k<l.length)(h1:p l[k]=false)(h2:(l.take k).any p=false):(l.take (k+1)).any p=false:=by rw[<-List.take_append_getElem hk,List.any_append,h2];simpa using h1
theorem QB{α:Type}{p:α->Bool}{l:List α}{k:Nat}(hk:k<l.length)(h1:p l[k]=true):l.any p=true:=by rw[List.any_eq_true];exact⟨_,List.getElem_mem hk,h1⟩
theorem a1H{α:Type}{p:α->Bool}{l:List α}:decide (0<=pW p l)=l.any p:=by
 unfold pW;cases h:l.findIdx? p with
 |none=>
  rw[List.findIdx?_eq_none_iff]at h;have:l.any p=false:=by rw[List.any_eq_false];intro x hx;simpa using h x hx
  rw[this];rfl
 |some i=>rw[List.findIdx?_eq_some_iff_getElem]at h;obtain⟨h1,h2,h3⟩:=h;rw[QB h1 h2];simp
theorem a5g{f v:Value}{p:Sec->Bool}{l:List Sec}{W:AW}(h:Secs W v l)(hl:l.length<1000)(hp:∀s rv,aK f [a0a s rv] W=some (.bool (p s),W)):aK (.func (.func 272) #[] #[]) [v,f] W=some (.int .i64 (pW p l),W):=by
 refine aN rfl ?_ iX;unfold eQ;simp only[SX,h.len yM];refine bD l.length (by omega) (λk R W'=>W'=W/\R 0=v/\R 1=f/\R 7=.int .i64 (l.length:Int)/\R 8=.int .i64 (k:Int)/\(l.take k).any p=false)
  (λr=>r.2.2=W/\((r.1=.exit 0/\pW p l= -1)\/(r.1=.ret/\r.2.1 4=.int .i64 (pW p l)))) ⟨rfl,rfl,rfl,rfl,rfl,rfl⟩ ?_ ?_ ?_
 ·rintro k R W' hk ⟨rfl,h0,h1,h7,h8,ha⟩;unfold cK;obtain⟨b,o,rv,g1,g2,g3,_⟩:=h.get hk;have e1:((k:Int)<(l.length:Int)):=by omega
  have e2:(k:Int)+1=((k+1:Nat):Int):=by omega
  have ea:=aU (P:=Tryz.prog) (W:=W') (t:=3) (c:=false) (d:=true) (a:=(k:Int)) (b:=1) (by omega) (by omega);simp only[SX,h0,h1,h7,h8,e1,g1,g3 _ (.refl _),hp];cases hx:p l[k]
  ·simp only[SX,ea,aB];exact .inl ⟨trivial,trivial,h0,h1,h7,by rw[<-e2];rfl,GR hk hx ha⟩
  ·simp only[SX,aB];exact .inr ⟨by simp,trivial,.inr ⟨trivial,by rw[VY hk hx ha];rfl⟩⟩
 ·rintro R W' ⟨rfl,h0,h1,h7,h8,ha⟩;unfold cK;have e1:¬((l.length:Int)<(l.length:Int)):=by omega
  rw[List.take_length]at ha;simp only[SX,h7,h8,e1,aB];exact⟨by simp,trivial,.inl ⟨trivial,VU ha⟩⟩
 ·rintro⟨x,R,W'⟩ ⟨hW,hq⟩;simp only at hW hq;subst hW;rcases hq with⟨rfl,hq⟩|⟨rfl,h4⟩
  ·simp only[SX,aB,hq];exact⟨trivial,.refl _⟩
  ·simp only[SX,aB,h4];exact⟨trivial,.refl _⟩
theorem a5n{f v:Value}{p:Int->Bool}{l:List Int}{W:AW}(h:Ints W v l)(hl:l.length<1000)(hp:∀n,aK f [.int .i64 n] W=some (.bool (p n),W)):aK (.func (.func 222) #[] #[]) [v,f] W=some (.int .i64 (pW p l),W):=by
 refine aN rfl ?_ uV;unfold oC;simp only[SX,h.len DU];refine bD l.length (by omega) (λk R W'=>W'=W/\R 0=v/\R 1=f/\R 7=.int .i64 (l.length:Int)/\R 8=.int .i64 (k:Int)/\(l.take k).any p=false)
  (λr=>r.2.2=W/\((r.1=.exit 0/\pW p l= -1)\/(r.1=.ret/\r.2.1 4=.int .i64 (pW p l)))) ⟨rfl,rfl,rfl,rfl,rfl,rfl⟩ ?_ ?_ ?_
 ·rintro k R W' hk ⟨rfl,h0,h1,h7,h8,ha⟩;unfold iO;obtain⟨q,g1,g2⟩:=h.get hk;have e1:((k:Int)<(l.length:Int)):=by omega
  have e2:(k:Int)+1=((k+1:Nat):Int):=by omega
  have ea:=aU (P:=Tryz.prog) (W:=W') (t:=3) (c:=false) (d:=true) (a:=(k:Int)) (b:=1) (by omega) (by omega);simp only[SX,h0,h1,h7,h8,e1,g1,g2 _ (.refl _),hp];cases hx:p l[k]
  ·simp only[SX,ea,aB];exact .inl ⟨trivial,trivial,h0,h1,h7,by rw[<-e2];rfl,GR hk hx ha⟩
  ·simp only[SX,aB];exact .inr ⟨by simp,trivial,.inr ⟨trivial,by rw[VY hk hx ha];rfl⟩⟩
 ·rintro R W' ⟨rfl,h0,h1,h7,h8,ha⟩;unfold iO;have e1:¬((l.length:Int)<(l.length:Int)):=by omega
  rw[List.take_length]at ha;simp only[SX,h7,h8,e1,aB];exact⟨by simp,trivial,.inl ⟨trivial,VU ha⟩⟩
 ·rintro⟨x,R,W'⟩ ⟨hW,hq⟩;simp only at hW hq;subst hW;rcases hq with⟨rfl,hq⟩|⟨rfl,h4⟩
  ·simp only[SX,aB,hq];exact⟨trivial,.refl _⟩
  ·simp only[SX,aB,h4];exact⟨trivial,.refl _⟩
theorem a5w{f v:Value}{p:Sec->Bool}{l:List Sec}{W:AW}(h:Secs W v l)(hl:l.length<1000)(hp:∀s rv,aK f [a0a s rv] W=some (.bool (p s),W)):aK (.func (.func 234) #[] #[]) [v,f] W=some (.bool (l.any p),W):=by refine aN rfl ?_ iQ;unfold dY;simp only[SX,a5g h hl hp,a1H,aB];exact⟨trivial,.refl _⟩
theorem a4K{f v:Value}{p:Int->Bool}{l:List Int}{W:AW}(h:Ints W v l)(hl:l.length<1000)(hp:∀n,aK f [.int .i64 n] W=some (.bool (p n),W)):aK (.func (.func 169) #[] #[]) [v,f] W=some (.bool (l.any p),W):=by refine aN rfl ?_ sI;unfold lH;simp only[SX,a5n h hl hp,a1H,aB];exact⟨trivial,.refl _⟩
theorem a5E(n:Int)(W:AW):aK (.func (.func 236) #[] #[]) [.int .i64 n] W=some (.bool (lN n 1 64),W):=by refine aN rfl ?_ K9;unfold E9;simp only[SX,qP,aB];exact⟨trivial,.refl _⟩
theorem aAJ(a b c:Value)(W:AW):bW (.agg #[a,b,c]) W=some (.pointer (some ⟨W.next,0,none⟩),W.add (.cells [a,b,c])):=gF _
theorem a0K{c:Nat}{m:List UInt8}{W:AW}(hc:∀W',Le W W'->aL (.pointer (some ⟨c,0,none⟩)) W'=some (.string (aO m),W'))(s:Sec)(rv:Value):
 aK (.func (.func 235) #[] #[.pointer (some ⟨c,0,none⟩)]) [a0a s rv] W=some (.bool (s.name==m),W):=by
 refine aN rfl ?_ JV;unfold DY;have h0:=hc _ ((Le.refl W).add (.cells [.string (aO s.name),rv,.int .i64 s.q]));have h1:aL (.pointer (some ⟨W.next,0,none⟩)) (W.add (.cells [.string (aO s.name),rv,.int .i64 s.q]))=some (.string (aO s.name),W.add (.cells [.string (aO s.name),rv,.int .i64 s.q])):=bY bR rfl;simp only[SX,aAJ,h0,h1,Nat.zero_add,uZ,aB];exact⟨trivial,(Le.refl _).add _⟩
theorem a4N{s:Sec}{rv bv:Value}{before:List Sec}{W:AW}(hs:Ints W rv s.rows)(hb:Secs W bv before)(hl:before.length<1000):aK (.func (.func 189) #[] #[]) [a0a s rv,bv] W=some (.int .i64 (zJ s before),W):=by
 refine aN rfl ?_ QN;unfold LQ;have hle:Le W (W.add (.cells [.string (aO s.name),rv,.int .i64 s.q])):=(Le.refl W).add _;simp only[SX,aAJ,Nat.zero_add];generalize hW1:W.add (.cells [.string (aO s.name),rv,.int .i64 s.q])=W1 at *;have hcs:cellsAt W1 W.next=some [.string (aO s.name),rv,.int .i64 s.q]:=by rw[<-hW1];exact bR
 have hn:W.next<W1.next:=by rw[<-hW1,AW.add_next];omega
 have h0:∀W',Le W1 W'->aL (.pointer (some ⟨W.next,0,none⟩)) W'=some (.string (aO s.name),W'):=λW' k=>bY (by rw[k.cellsAt hn];exact hcs) rfl
 have h1:aL (.pointer (some ⟨W.next,1,none⟩)) W1=some (rv,W1):=bY hcs rfl;have h2:aL (.pointer (some ⟨W.next,2,none⟩)) W1=some (.int .i64 s.q,W1):=bY hcs rfl;have hf:=a5w (W:=W1) (hb.mono hle) hl (p:=λx=>x.name==s.name) (λx rv=>a0K h0 x rv);unfold zJ;cases n1:vH s.name
 ·simp only[SX,h0 _ (.refl _),y8,n1,if_true,aB];exact⟨trivial,hle⟩
 ·cases n2:before.any λx=>x.name==s.name
  ·by_cases n3:s.rows.length=0
   ·have e:((s.rows.length:Int)=0):=by omega
    simp only[SX,h0 _ (.refl _),y8,n1,hf,n2,h1,(hs.mono hle).len DU,e,if_pos n3,if_true,if_false,Bool.true_eq_false,Bool.false_eq_true,aB];exact⟨trivial,hle⟩
   ·have e:¬((s.rows.length:Int)=0):=by omega
    by_cases n4:16<s.rows.length
    ·have e2:((16:Int)<(s.rows.length:Int)):=by omega
     simp only[SX,h0 _ (.refl _),y8,n1,hf,n2,h1,(hs.mono hle).len DU,e,n3,e2,n4,if_true,if_false,Bool.true_eq_false,Bool.false_eq_true,aB];exact⟨trivial,hle⟩
    ·have e2:¬((16:Int)<(s.rows.length:Int)):=by omega
     have hg:=a4K (W:=W1) (hs.mono hle) (by omega) (p:=λn=>lN n 1 64) (λn=>a5E n W1);cases n5:s.rows.any λn=>lN n 1 64
     ·cases n6:lN s.q 0 64
      ·simp only[SX,h0 _ (.refl _),y8,n1,hf,n2,h1,(hs.mono hle).len DU,e,n3,e2,n4,hg,n5,h2,qP,n6,if_true,if_false,Bool.true_eq_false,Bool.false_eq_true,aB];exact⟨trivial,hle⟩
      ·simp only[SX,h0 _ (.refl _),y8,n1,hf,n2,h1,(hs.mono hle).len DU,e,n3,e2,n4,hg,n5,h2,qP,n6,if_true,if_false,Bool.true_eq_false,Bool.false_eq_true,aB];exact⟨trivial,hle⟩
     ·simp only[SX,h0 _ (.refl _),y8,n1,hf,n2,h1,(hs.mono hle).len DU,e,n3,e2,n4,hg,n5,if_true,if_false,Bool.true_eq_false,Bool.false_eq_true,aB];exact⟨trivial,hle⟩
  ·simp only[SX,h0 _ (.refl _),y8,n1,hf,n2,if_true,if_false,Bool.true_eq_false,Bool.false_eq_true,aB];exact⟨trivial,hle⟩
theorem M0(a b c d:Value)(W:AW):bW (.agg #[a,b,c,d]) W=some (.pointer (some ⟨W.next,0,none⟩),W.add (.cells [a,b,c,d])):=gF _
theorem mG(W:AW)(cs ds:List Value):(W.add (.cells cs)).put W.next (.cells ds)=W.add (.cells ds):=XC W _ _
theorem aB1{b:Nat}{a c d x y z:Value}{W:AW}(h:rwCells W b=some [x,y,z])(h1:Eng.one a=true)(h2:Eng.one c=true)(h3:Eng.one d=true):cO 3 (.pointer (some ⟨b,0,none⟩)) (.agg #[a,c,d]) W=some (undef,W.put b (.cells [a,c,d])):=by
 rw[H9,h];have e:(#[a,c,d]:Array Value).toList.all Eng.one=true:=by simp[h1,h2,h3]
 simp only[Option.bind_some,e,and_true];rfl
theorem Row.one{α:Type}{W:AW}{z:Nat}{f:List Value->Nat->α->Prop}{v:Value}{l:List α}(h:Row W z f v l):Eng.one v=true:=by obtain⟨a,c,rfl,_⟩:=h;rfl
theorem a2f{v:Ven}{sv:Value}{W:AW}(hs:Secs W sv v.secs)(hv:v.secs.length<1000){i:Nat}(hi:i<v.secs.length)(hr:v.secs[i].rows.length<1000):aK (.func (.func 164) #[] #[]) [kR v sv,.int .i64 (i:Int)] W=some (.int .i64 (zJ v.secs[i] (v.secs.take i)),W):=by
 refine aN rfl ?_ JY;unfold EB;have hle:Le W (W.add (.cells [.int .i64 v.sh,.int .i64 v.ttl,.int .i64 v.ses,sv])):=(Le.refl W).add _;obtain⟨b,o,rv,g1,g2,g3,_⟩:=hs.get hi;have c3:aL (.pointer (some ⟨W.next,3,none⟩)) (W.add (.cells [.int .i64 v.sh,.int .i64 v.ttl,.int .i64 v.ses,sv]))=some (sv,W.add (.cells [.int .i64 v.sh,.int .i64 v.ttl,.int .i64 v.ses,sv])):=bY bR rfl;simp only[SX,M0,Nat.zero_add,c3,g1,g3 _ hle,a9f,aB1 eD (xK _) (Row.one g2) (vF _ _),mG];generalize hW1:W.add (.cells [.int .i64 v.sh,.int .i64 v.ttl,.int .i64 v.ses,sv])=W1 at *;have hle2:Le W (W1.add (.cells [.string (aO v.secs[i].name),rv,.int .i64 v.secs[i].q])):=hle.add _;have hb1:cellsAt (W1.add (.cells [.string (aO v.secs[i].name),rv,.int .i64 v.secs[i].q])) W.next=some [.int .i64 v.sh,.int .i64 v.ttl,.int .i64 v.ses,sv]:=by rw[MH _ (by rw[<-hW1,AW.add_next];omega),<-hW1];exact bR
 have hb2:cellsAt (W1.add (.cells [.string (aO v.secs[i].name),rv,.int .i64 v.secs[i].q])) W1.next=some [.string (aO v.secs[i].name),rv,.int .i64 v.secs[i].q]:=bR;generalize hW2:W1.add (.cells [.string (aO v.secs[i].name),rv,.int .i64 v.secs[i].q])=W2 at *;have d0:aL (.pointer (some ⟨W1.next,0,none⟩)) W2=some (.string (aO v.secs[i].name),W2):=bY hb2 rfl;have d1:aL (.pointer (some ⟨W1.next,1,none⟩)) W2=some (rv,W2):=bY hb2 rfl;have d2:aL (.pointer (some ⟨W1.next,2,none⟩)) W2=some (.int .i64 v.secs[i].q,W2):=bY hb2 rfl;have c3:aL (.pointer (some ⟨W.next,3,none⟩)) W2=some (sv,W2):=bY hb1 rfl;have hlr:=(g2.mono hle2).len (P:=Tryz.prog) DU;simp only[SX,d0,a2K];generalize hs':v.secs[i]=s at *;unfold zJ;cases n1:vH s.name
 ·simp only[SX,if_true,aB];exact⟨trivial,hle2⟩
 ·simp only[SX];refine bD i (by omega) (λk R W'=>W'=W2/\R 1=.int .i64 (i:Int)/\R 2=.pointer (some ⟨W.next,0,none⟩)/\R 5=.pointer (some ⟨W1.next,0,none⟩)/\R 6=.int .i64 (k:Int)/\((v.secs.take i).take k).any (λx=>x.name==s.name)=false)
   (λr=>r.2.2=W2/\((r.1=.exit 0/\r.2.1 5=.pointer (some ⟨W1.next,0,none⟩)/\(v.secs.take i).any (λx=>x.name==s.name)=false)\/(r.1=.ret/\r.2.1 4=.int .i64 8/\(v.secs.take i).any (λx=>x.name==s.name)=true))) ⟨rfl,rfl,rfl,rfl,rfl,rfl⟩ ?_ ?_ ?_
  ·rintro k R W' hk ⟨rfl,h1,h2,h5,h6,ha⟩;unfold pR;have hk2:k<v.secs.length:=by omega
   have hk3:k<(v.secs.take i).length:=by rw[List.length_take];omega
   have hke:(v.secs.take i)[k]=v.secs[k]:=List.getElem_take;obtain⟨b',o',rv',f1,f2,f3,f4,_⟩:=hs.get hk2;have e1:((k:Int)<(i:Int)):=by omega
   have e2:(k:Int)+1=((k+1:Nat):Int):=by omega
   have ea:=aU (P:=Tryz.prog) (W:=W') (t:=3) (c:=false) (d:=true) (a:=(k:Int)) (b:=1) (by omega) (by omega);simp only[SX,h1,h2,h5,h6,e1,Nat.zero_add,c3,f1,Nat.add_zero,f4 _ hle2,d0,uZ];cases hx:v.secs[k].name==s.name
   ·simp only[SX,ea,aB];exact .inl ⟨trivial,trivial,h1,h2,h5,by rw[<-e2];rfl,GR hk3 (by rw[hke];exact hx) ha⟩
   ·simp only[SX,aB];exact .inr ⟨by simp,trivial,.inr ⟨trivial,rfl,QB hk3 (by rw[hke];exact hx)⟩⟩
  ·rintro R W' ⟨rfl,h1,h2,h5,h6,ha⟩;unfold pR;have e1:¬((i:Int)<(i:Int)):=by omega
   rw[List.take_of_length_le (by rw[List.length_take];omega)]at ha;simp only[SX,h1,h6,e1,aB];exact⟨by simp,trivial,.inl ⟨trivial,h5,ha⟩⟩
  ·rintro⟨x,R,W'⟩ ⟨hW,hq⟩;simp only at hW hq;subst hW;rcases hq with⟨rfl,h5,hq⟩|⟨rfl,h4,hq⟩
   ·by_cases n3:s.rows.length=0
    ·have e:((s.rows.length:Int)=0):=by omega
     simp only[SX,h5,Nat.zero_add,d1,hlr,e,hq,if_pos n3,if_false,Bool.true_eq_false,Bool.false_eq_true,aB];exact⟨trivial,hle2⟩
    ·have e:¬((s.rows.length:Int)=0):=by omega
     by_cases n4:16<s.rows.length
     ·have e2:((16:Int)<(s.rows.length:Int)):=by omega
      simp only[SX,h5,Nat.zero_add,d1,hlr,e,e2,hq,if_neg n3,if_pos n4,if_false,Bool.true_eq_false,Bool.false_eq_true,aB];exact⟨trivial,hle2⟩
     ·have e2:¬((16:Int)<(s.rows.length:Int)):=by omega
      simp only[SX,h5,Nat.zero_add,d1,hlr,e,e2,hq,if_neg n3,if_neg n4,if_false,Bool.true_eq_false,Bool.false_eq_true];refine bD s.rows.length (by omega) (λk R W3=>W3=W'/\R 5=.pointer (some ⟨W1.next,0,none⟩)/\R 7=.int .i64 (k:Int)/\(s.rows.take k).any (λn=>lN n 1 64)=false)
       (λr=>r.2.2=W'/\((r.1=.exit 2/\r.2.1 5=.pointer (some ⟨W1.next,0,none⟩)/\s.rows.any (λn=>lN n 1 64)=false)\/(r.1=.ret/\r.2.1 4=.int .i64 7/\s.rows.any (λn=>lN n 1 64)=true))) ⟨rfl,h5,rfl,rfl⟩ ?_ ?_ ?_
      ·rintro k R W3 hk ⟨rfl,h5,h7,ha⟩;unfold qL;obtain⟨p,p1,p2⟩:=g2.get hk;have e1:((k:Int)<(s.rows.length:Int)):=by omega
       have e2:(k:Int)+1=((k+1:Nat):Int):=by omega
       have ea:=aU (P:=Tryz.prog) (W:=W3) (t:=3) (c:=false) (d:=true) (a:=(k:Int)) (b:=1) (by omega) (by omega);simp only[SX,h5,h7,Nat.zero_add,d1,hlr,e1,p1,p2 _ hle2,xC,HV];cases hx:lN s.rows[k] 1 64
       ·simp only[SX,ea,aB];exact .inl ⟨trivial,trivial,h5,by rw[<-e2];rfl,GR hk hx ha⟩
       ·simp only[SX,aB];exact .inr ⟨by simp,trivial,.inr ⟨trivial,rfl,QB hk hx⟩⟩
      ·rintro R W3 ⟨rfl,h5,h7,ha⟩;unfold qL;have e1:¬((s.rows.length:Int)<(s.rows.length:Int)):=by omega
       rw[List.take_length]at ha;simp only[SX,h5,h7,Nat.zero_add,d1,hlr,e1,aB];exact⟨by simp,trivial,.inl ⟨trivial,h5,ha⟩⟩
      ·rintro⟨x,R,W3⟩ ⟨hW,hq⟩;simp only at hW hq;subst hW;rcases hq with⟨rfl,h5,hq⟩|⟨rfl,h4,hq⟩
       ·simp only[SX,h5,hq,Nat.zero_add,d2,xC,HV,Bool.false_eq_true,if_false];cases n6:lN s.q 0 64
        ·simp only[SX,Bool.false_eq_true,if_false,aB];exact⟨trivial,hle2⟩
        ·simp only[SX,if_true,aB];exact⟨trivial,hle2⟩
       ·simp only[SX,hq,h4,if_true,aB];exact⟨trivial,hle2⟩
   ·simp only[SX,h4,hq,if_true,if_false,Bool.true_eq_false,aB];exact⟨trivial,hle2⟩
theorem KH{s:Sec}{b:List Sec}(h:zJ s b=0):vH s.name=true/\(b.any λx=>x.name==s.name)=false/\s.rows.length≠0/\s.rows.length<=16/\(∀n∈s.rows,1<=n/\n<=64)/\0<=s.q/\s.q<=64:=by
 unfold zJ at h;split at h
 ·exact absurd h (by decide)
 rename_i h1;split at h
 ·exact absurd h (by decide)
 rename_i h2;split at h
 ·exact absurd h (by decide)
 rename_i h3;split at h
 ·exact absurd h (by decide)
 rename_i h4;split at h
 ·exact absurd h (by decide)
 rename_i h5;split at h
 ·exact absurd h (by decide)
 rename_i h6;refine⟨by simpa using h1,by simpa using h2,h3,by omega,?_,?_⟩
 ·intro n hn;have:lN n 1 64=false:=by
   cases ho:lN n 1 64
   ·rfl
   ·exact absurd (List.any_eq_true.2 ⟨n,hn,ho⟩) h5
  unfold lN at this;simp only[Bool.or_eq_false_iff,decide_eq_false_iff_not]at this;omega
 ·unfold lN at h6;simp only[Bool.or_eq_true,decide_eq_true_iff]at h6;omega
theorem tL{l:List Int}{k:Nat}(hk:k<l.length):lF (l.take (k+1))=lF (l.take k)+l[k]:=by rw[<-List.take_append_getElem hk,a6r]
theorem uO{l:List Sec}{k:Nat}(hk:k<l.length):dA (l.take (k+1))=dA (l.take k)+lF l[k].rows:=by unfold dA;rw[List.map_take,List.map_take,tL (by rw[List.length_map];exact hk),List.getElem_map]
theorem uE{l:List Int}(h:∀n∈l,1<=n/\n<=64)(k:Nat):(0<=lF (l.take k)/\lF (l.take k)<=64*k)/\(min k l.length:Int)<=lF (l.take k):=by
 induction k with
 |zero=>simp[lF];omega
 |succ k ih=>
  by_cases hk:k<l.length
  ·rw[tL hk];have:=h _ (List.getElem_mem hk);omega
  ·rw[List.take_of_length_le (by omega)]at ih|-;omega
theorem KA{l:List Sec}{k:Nat}(h:pV l k=none)(hk:k<l.length):pV l (k+1)=if zJ l[k] (l.take k)=0 then none else some (k,zJ l[k] (l.take k)):=by show(match pV l k with|some r=>some r|none=>match l[k]? with|some s=>if zJ s (l.take k)=0 then none else some (k,zJ s (l.take k))|none=>none)=_;rw[h,List.getElem?_eq_getElem hk]
theorem UK{l:List Sec}{k:Nat}(h:pV l k=none):∀i (hi:i<k) (hl:i<l.length),zJ l[i] (l.take i)=0:=by
 induction k with
 |zero=>intro i hi;omega
 |succ k ih=>
  have h1:pV l k=none:=by
   cases hb:pV l k with
   |none=>rfl
   |some r=>rw[CR hb (Nat.le_succ k)]at h;cases h
  intro i hi hl;by_cases e:i=k
  ·subst e;rw[KA h1 hl]at h;split at h
   ·assumption
   ·cases h
  ·exact ih h1 i (by omega) hl
theorem a0l{l:List Sec}{k:Nat}(h:pV l k=none)(hk:k<=l.length):0<=dA (l.take k)/\dA (l.take k)<=1024*k:=by
 induction k with
 |zero=>simp[dA,lF]
 |succ k ih=>
  have h1:pV l k=none:=by
   cases hb:pV l k with
   |none=>rfl
   |some r=>rw[CR hb (Nat.le_succ k)]at h;cases h
  have h2:=ih h1 (by omega);have hk':k<l.length:=by omega
  obtain⟨_,_,_,h3,h4,_⟩:=KH (UK h k (by omega) hk');rw[uO hk'];have h5:=(uE h4 l[k].rows.length).1;rw[List.take_length]at h5;omega
theorem M5{v:Ven}{sv:Value}{W:AW}(hs:SecsC W sv v.secs)(hv:v.secs.length<1000):aK (.func (.func 129) #[] #[]) [kR v sv] W=some (.tuple #[.int .i64 (lW v).1,.int .i64 (lW v).2],W):=by
 refine aN rfl ?_ OC;unfold M9;have hle:Le W (W.add (.cells [.int .i64 v.sh,.int .i64 v.ttl,.int .i64 v.ses,sv])):=(Le.refl W).add _;have hc:cellsAt (W.add (.cells [.int .i64 v.sh,.int .i64 v.ttl,.int .i64 v.ses,sv])) W.next=some [.int .i64 v.sh,.int .i64 v.ttl,.int .i64 v.ses,sv]:=bR;have hn:W.next<(W.add (.cells [.int .i64 v.sh,.int .i64 v.ttl,.int .i64 v.ses,sv])).next:=by rw[AW.add_next];omega
 simp only[SX,M0,Nat.zero_add];generalize hW1:W.add (.cells [.int .i64 v.sh,.int .i64 v.ttl,.int .i64 v.ses,sv])=W1 at *;have c0:aL (.pointer (some ⟨W.next,0,none⟩)) W1=some (.int .i64 v.sh,W1):=bY hc rfl;have c1:aL (.pointer (some ⟨W.next,1,none⟩)) W1=some (.int .i64 v.ttl,W1):=bY hc rfl;have c2:aL (.pointer (some ⟨W.next,2,none⟩)) W1=some (.int .i64 v.ses,W1):=bY hc rfl;have c3:∀W',Le W1 W'->aL (.pointer (some ⟨W.next,3,none⟩)) W'=some (sv,W'):=λW' k=>bY (by rw[k.cellsAt hn];exact hc) rfl
 simp only[SX,c0,qP];unfold lW H7;cases n1:lN v.sh 1 16;case true=>simp only[SX,Bool.true_or,if_true,aB];exact⟨trivial,hle⟩
 simp only[SX,Nat.zero_add,c1,zB];cases n2:lN v.ttl 1 1000000000;case true=>simp only[SX,Bool.true_or,Bool.or_true,if_true,aB];exact⟨trivial,hle⟩
 simp only[SX,Nat.zero_add,c2,zB];cases n3:lN v.ses 1 1000000000;case true=>simp only[SX,Bool.true_or,Bool.or_true,if_true,aB];exact⟨trivial,hle⟩
 simp only[SX,Nat.zero_add,c3 _ (.refl _),hs.1.len yM,Bool.or_self,Bool.false_eq_true,if_false];by_cases n4:v.secs.length=0;case pos=>
  have e:((v.secs.length:Int)=0):=by omega
  simp only[SX,e,if_pos n4,aB];exact⟨trivial,hle⟩
 have e4:¬((v.secs.length:Int)=0):=by omega
 simp only[SX,e4,if_neg n4,Nat.zero_add,c3 _ (.refl _),hs.1.len yM];by_cases n5:8<v.secs.length;case pos=>
  have e:((8:Int)<(v.secs.length:Int)):=by omega
  simp only[SX,e,if_pos n5,aB];exact⟨trivial,hle⟩
 have e5:¬((8:Int)<(v.secs.length:Int)):=by omega
 simp only[SX,e5,if_neg n5,Nat.zero_add,c3 _ (.refl _),hs.1.len yM];refine bD v.secs.length (by omega) (λk R W'=>Le W1 W'/\R 1=.pointer (some ⟨W.next,0,none⟩)/\R 4=.int .i64 (dA (v.secs.take k))/\R 35=sv/\R 36=.int .i64 (v.secs.length:Int)/\R 37=.int .i64 (k:Int)/\pV v.secs k=none)
  (λr=>Le W1 r.2.2/\((r.1=.exit 1/\r.2.1 4=.int .i64 (dA v.secs)/\pV v.secs v.secs.length=none)\/(r.1=.ret/\∃i e,r.2.1 2=.int .i64 ((i:Nat):Int)/\r.2.1 3=.int .i64 e/\pV v.secs v.secs.length=some (i,e)))) ⟨.refl _,rfl,rfl,rfl,rfl,rfl,rfl⟩ ?_ ?_ ?_
 ·rintro k R W' hk ⟨hl,h1,h4,h35,h36,h37,hb⟩;unfold tZ;obtain⟨b,o,rv,g1,g2,g3,_⟩:=hs.1.get hk;obtain⟨u,u1,u2⟩:=hs.pre hk;have e1:((k:Int)<(v.secs.length:Int)):=by omega
  simp only[SX,h35,h36,h37,e1,g1,g3 _ (hle.trans hl),a9f,aB1 eD (xK _) (Row.one g2) (vF _ _),mG];have hl2:Le W1 (W'.add (.cells [.string (aO v.secs[k].name),rv,.int .i64 v.secs[k].q])):=hl.add _;have hc2:cellsAt (W'.add (.cells [.string (aO v.secs[k].name),rv,.int .i64 v.secs[k].q])) W'.next=some [.string (aO v.secs[k].name),rv,.int .i64 v.secs[k].q]:=bR;generalize hW2:W'.add (.cells [.string (aO v.secs[k].name),rv,.int .i64 v.secs[k].q])=W2 at *;have d3:bH 3 (.pointer (some ⟨W'.next,0,none⟩)) W2=some (a0a v.secs[k] rv,W2):=sS hc2 rfl;have d1:aL (.pointer (some ⟨W'.next,1,none⟩)) W2=some (rv,W2):=bY hc2 rfl;have hlr:=(g2.mono (hle.trans hl2)).len (P:=Tryz.prog) DU;simp only[SX,d3,h1,Nat.zero_add,c3 _ hl2,u1,a4N (g2.mono (hle.trans hl2)) (u2.mono (hle.trans hl2)) (by rw[List.length_take];omega)];have hbs:=KA hb hk;by_cases hz:zJ v.secs[k] (v.secs.take k)=0
  ·rw[if_pos hz]at hbs;obtain⟨_,_,_,hr1,hr2,_⟩:=KH hz;have htb:=a0l hb (by omega);simp only[SX,hz,d1,hlr];refine bD v.secs[k].rows.length (by omega) (λj R' W3=>W3=W2/\R' 1=.pointer (some ⟨W.next,0,none⟩)/\R' 4=.int .i64 (dA (v.secs.take k)+lF (v.secs[k].rows.take j))/\R' 35=sv/\R' 36=.int .i64 (v.secs.length:Int)/\R' 37=.int .i64 (k:Int)/\R' 53=rv/\R' 54=.int .i64 (v.secs[k].rows.length:Int)/\R' 55=.int .i64 (j:Int))
    (λr=>r.2.2=W2/\r.1=.exit 3/\r.2.1 1=.pointer (some ⟨W.next,0,none⟩)/\r.2.1 4=.int .i64 (dA (v.secs.take (k+1)))/\r.2.1 35=sv/\r.2.1 36=.int .i64 (v.secs.length:Int)/\r.2.1 37=.int .i64 (k:Int)) ⟨rfl,h1,by rw[List.take_zero,show lF []=0 from rfl,Int.add_zero];exact h4,h35,h36,h37,rfl,rfl,rfl⟩ ?_ ?_ ?_
   ·rintro j R' W3 hj ⟨rfl,h1,h4,h35,h36,h37,h53,h54,h55⟩;unfold o8;obtain⟨p,p1,p2⟩:=g2.get hj;have e1:((j:Int)<(v.secs[k].rows.length:Int)):=by omega
    have e2:(j:Int)+1=((j+1:Nat):Int):=by omega
    have ea:=aU (P:=Tryz.prog) (W:=W3) (t:=3) (c:=false) (d:=true) (a:=(j:Int)) (b:=1) (by omega) (by omega);have hsb:=(uE hr2 j).1;have hsn:=hr2 _ (List.getElem_mem hj);have eb:=aU (P:=Tryz.prog) (W:=W3) (t:=3) (c:=false) (d:=false) (a:=dA (v.secs.take k)+lF (v.secs[k].rows.take j)) (b:=v.secs[k].rows[j]) (by omega) (by omega);simp only[SX,h4,h53,h54,h55,e1,p1,p2 _ (hle.trans hl2),ea,eb,aB];refine .inl ⟨trivial,trivial,h1,?_,h35,h36,h37,h53,h54,by rw[<-e2];rfl⟩;rw[tL hj,<-Int.add_assoc];rfl
   ·rintro R' W3 ⟨rfl,h1,h4,h35,h36,h37,h53,h54,h55⟩;unfold o8;have e1:¬((v.secs[k].rows.length:Int)<(v.secs[k].rows.length:Int)):=by omega
    simp only[SX,h54,h55,e1,aB];refine⟨by simp,trivial,trivial,h1,?_,h35,h36,h37⟩;rw[uO hk];rw[List.take_length]at h4;exact h4
   ·rintro⟨x,R',W3⟩ ⟨hW,rfl,h1,h4,h35,h36,h37⟩;simp only at hW h1 h4 h35 h36 h37;subst hW;have e2:(k:Int)+1=((k+1:Nat):Int):=by omega
    have ea:=aU (P:=Tryz.prog) (W:=W3) (t:=3) (c:=false) (d:=true) (a:=(k:Int)) (b:=1) (by omega) (by omega);simp only[SX,h37,ea,aB];exact .inl ⟨trivial,hl2,h1,h4,h35,h36,by rw[<-e2];rfl,hbs⟩
  ·rw[if_neg hz]at hbs;simp only[SX,hz,aB];exact .inr ⟨by simp,hl2,.inr ⟨trivial,k,_,rfl,rfl,CR hbs (by omega)⟩⟩
 ·rintro R W' ⟨hl,h1,h4,h35,h36,h37,hb⟩;unfold tZ;have e1:¬((v.secs.length:Int)<(v.secs.length:Int)):=by omega
  rw[List.take_length]at h4;simp only[SX,h36,h37,e1,aB];exact⟨by simp,hl,.inl ⟨trivial,h4,hb⟩⟩
 ·rintro⟨x,R,W'⟩ ⟨hl,hq⟩;simp only at hl hq;rcases hq with⟨rfl,h4,hb⟩|⟨rfl,i,e,h2,h3,hb⟩
  ·rw[hb];by_cases n6:4096<dA v.secs
   ·simp only[SX,h4,n6,if_true,aB];exact⟨trivial,hle.trans hl⟩
   ·simp only[SX,h4,n6,if_false,aB];exact⟨trivial,hle.trans hl⟩
  ·rw[hb];simp only[SX,h2,h3,aB];exact⟨trivial,hle.trans hl⟩
abbrev Plc:=Nat×Nat×Nat
def zO(i k m:Nat):List Plc:=(List.range m).map λj=>(i,k,j)
def K3(i:Nat)(rows:List Int)(k:Nat):List Plc:=(List.range k).flatMap λj=>zO i j (rows.getD j 0).toNat
def EM(l:List Sec)(n:Nat):List Plc:=(List.range n).flatMap λi=>match l[i]? with
 |some s=>K3 i s.rows s.rows.length
 |none=>[]
def lQ(l:List Sec):List Plc:=EM l l.length
theorem a4v(i k m:Nat):zO i k (m+1)=zO i k m++[(i,k,m)]:=by simp[zO,List.range_succ]
theorem JN(i:Nat)(rows:List Int){k:Nat}(hk:k<rows.length):K3 i rows (k+1)=K3 i rows k++zO i k rows[k].toNat:=by unfold K3;rw[List.range_succ,List.flatMap_append,List.flatMap_cons,List.flatMap_nil,List.append_nil,List.getD_eq_getElem?_getD,List.getElem?_eq_getElem hk,Option.getD_some]
theorem LF(l:List Sec){n:Nat}(hn:n<l.length):EM l (n+1)=EM l n++K3 n l[n].rows l[n].rows.length:=by unfold EM;rw[List.range_succ,List.flatMap_append,List.flatMap_cons,List.flatMap_nil,List.append_nil,List.getElem?_eq_getElem hn]
structure Good (l:List Sec):Prop where
 len:l.length<=8
 rows:∀s∈l,s.rows.length≠0/\s.rows.length<=16/\∀n∈s.rows,1<=n/\n<=64
theorem Good.of{l:List Sec}(h:l.length<=8)(hb:pV l l.length=none):Good l:=
 ⟨h,λs hs=>by obtain⟨i,hi,rfl⟩:=List.getElem_of_mem hs;obtain⟨_,_,h3,h4,h5,_⟩:=KH (UK hb i hi hi);exact⟨h3,h4,h5⟩⟩
theorem a1u(i k m:Nat):(zO i k m).length=m:=by simp[zO]
theorem OW{i:Nat}{rows:List Int}(h:∀n∈rows,1<=n/\n<=64):∀{k:Nat},k<=rows.length->((K3 i rows k).length:Int)=lF (rows.take k)
 |0,_=>by simp[K3,lF]
 |k+1,hk=>by
  have hk':k<rows.length:=by omega
  rw[JN i rows hk',List.length_append,a1u,tL hk',<-OW (i:=i) h (by omega:k<=rows.length)];have:=h _ (List.getElem_mem hk');omega
theorem BF{l:List Sec}(h:Good l):∀{n:Nat},n<=l.length->((EM l n).length:Int)=dA (l.take n)/\(EM l n).length<=1024*n
 |0,_=>by simp[EM,dA,lF]
 |n+1,hn=>by
  have hn':n<l.length:=by omega
  obtain⟨h1,h2,h3⟩:=h.rows _ (List.getElem_mem hn');have ih:=BF h (by omega:n<=l.length);have hl:=OW (i:=n) h3 (Nat.le_refl _);have hb:=(uE h3 l[n].rows.length).1;rw[List.take_length]at hl hb;rw[LF l hn',List.length_append,uO hn'];omega
theorem xJ{l:List Sec}(h:Good l):((lQ l).length:Int)=dA l:=by have:=(BF h (Nat.le_refl l.length)).1;rwa [List.take_length]at this
def TA(p:Plc):List Value:=[.int .i64 (p.1:Int),.int .i64 (p.2.1:Int),.int .i64 (p.2.2:Int)]
def aAL(cs:List Value)(p:Nat)(a:Plc):Prop:=cs[p]? =some (.int .i64 (a.1:Int))/\cs[p+1]? =some (.int .i64 (a.2.1:Int))/\cs[p+2]? =some (.int .i64 (a.2.2:Int))
theorem a0y(p:Plc):(TA p).length=3:=rfl
theorem a8l(p:Plc):(TA p).all Eng.one=true:=rfl
theorem a9c(a:Plc)(pre post:List Value):aAL (pre++(TA a++post)) pre.length a:=by refine⟨?_,?_,?_⟩<;>(rw[List.getElem?_append_right (by omega)];simp[TA])
abbrev Plcs(W:AW)(v:Value)(l:List Plc):Prop:=Row W 3 aAL v l
theorem aCU:nI Tryz.prog #[238,238] 3 24=true:=by kernel_rfl
theorem aCi(a b c:Int)(W:AW):dG Tryz.prog 309 [(0,.int .i64 a),(1,.int .i64 b),(2,.int .i64 c)] W=some (.agg #[.int .i64 a,.int .i64 b,.int .i64 c],W):=Eq.trans (by kernel_rfl) rfl
theorem aCR(a b c:Int)(W:AW):aR Tryz.prog 238 1 [(0,.agg #[.int .i64 a,.int .i64 b,.int .i64 c])] W=some (.slice (some ⟨W.next,0,none⟩) 1 1,W.add (.cells [.int .i64 a,.int .i64 b,.int .i64 c])):=Eq.trans (by kernel_rfl) rfl
theorem KV{v:Ven}{sv:Value}{W:AW}(hs:Secs W sv v.secs)(hg:Good v.secs):∃r W',aK (.func (.func 152) #[] #[]) [kR v sv] W=some (r,W')/\Le W W'/\Plcs W' r (lQ v.secs):=by
 have hle:Le W (W.add (.cells [.int .i64 v.sh,.int .i64 v.ttl,.int .i64 v.ses,sv])):=(Le.refl W).add _;have hc:cellsAt (W.add (.cells [.int .i64 v.sh,.int .i64 v.ttl,.int .i64 v.ses,sv])) W.next=some [.int .i64 v.sh,.int .i64 v.ttl,.int .i64 v.ses,sv]:=bR;have hn:W.next<(W.add (.cells [.int .i64 v.sh,.int .i64 v.ttl,.int .i64 v.ses,sv])).next:=by rw[AW.add_next];omega
 refine YE ?_ NL;unfold GM;simp only[SX,M0];generalize hW1:W.add (.cells [.int .i64 v.sh,.int .i64 v.ttl,.int .i64 v.ses,sv])=W1 at *;have c3:∀W',Le W1 W'->aL (.pointer (some ⟨W.next,3,none⟩)) W'=some (sv,W'):=λW' k=>bY (by rw[k.cellsAt hn];exact hc) rfl
 have add1:∀(k:Nat) (W':AW),k<1000000->aD Tryz.prog .add 3 false true (.int .i64 (k:Int)) (.int .i64 1) W'=some (.int .i64 ((k+1:Nat):Int),W'):=λk W' hk=>aU (by omega) (by omega)
 have hlen:=hg.len;refine bD v.secs.length (by omega) (λi R W'=>Le W1 W'/\R 1=.pointer (some ⟨W.next,0,none⟩)/\R 4=.int .i64 (i:Int)/\Lst W1.next W' 3 TA (R 3) (EM v.secs i))
  (λr=>Le W1 r.2.2/\r.1=.exit 0/\Lst W1.next r.2.2 3 TA (r.2.1 3) (EM v.secs v.secs.length)) ⟨.refl _,rfl,rfl,Lst.nil _ _ _ _⟩ ?_ ?_ ?_
 ·rintro i R W' hi ⟨hl,h1,h4,hG⟩;unfold rT;have e1:((i:Int)<(v.secs.length:Int)):=by omega
  simp only[SX,h1,h4,Nat.zero_add,c3 _ hl,hs.len yM,e1];obtain⟨b,o,rv,g1,g2,_,_,g5,_⟩:=hs.get hi;obtain⟨r1,r2,r3⟩:=hg.rows _ (List.getElem_mem hi);have hpl:=(BF hg (by omega:i<=v.secs.length)).2;refine bD v.secs[i].rows.length (by omega) (λk R W'=>Le W1 W'/\R 1=.pointer (some ⟨W.next,0,none⟩)/\R 4=.int .i64 (i:Int)/\R 5=.int .i64 (k:Int)/\Lst W1.next W' 3 TA (R 3) (EM v.secs i++K3 i v.secs[i].rows k))
   (λr=>Le W1 r.2.2/\r.1=.exit 2/\r.2.1 1=.pointer (some ⟨W.next,0,none⟩)/\r.2.1 4=.int .i64 (i:Int)/\Lst W1.next r.2.2 3 TA (r.2.1 3) (EM v.secs (i+1))) ⟨hl,h1,h4,rfl,by rw[show K3 i v.secs[i].rows 0=[]from rfl,List.append_nil];exact hG⟩ ?_ ?_ ?_
  ·rintro k R W' hk ⟨hl,h1,h4,h5,hG⟩;unfold mM;have e1:((k:Int)<(v.secs[i].rows.length:Int)):=by omega
   have g2':=g2.mono (hle.trans hl);simp only[SX,h1,h4,h5,Nat.zero_add,c3 _ hl,g1,g5 _ (hle.trans hl),g2'.len DU,e1];obtain⟨p,p1,p2⟩:=g2.get hk;have hrk:=r3 _ (List.getElem_mem hk);have hsl:=OW (i:=i) r3 (by omega:k<=v.secs[i].rows.length);have hsb:=(uE r3 k).1;refine bD v.secs[i].rows[k].toNat (by omega) (λm R W'=>Le W1 W'/\R 1=.pointer (some ⟨W.next,0,none⟩)/\R 4=.int .i64 (i:Int)/\R 5=.int .i64 (k:Int)/\R 6=.int .i64 (m:Int)/\Lst W1.next W' 3 TA (R 3) (EM v.secs i++K3 i v.secs[i].rows k++zO i k m))
    (λr=>Le W1 r.2.2/\r.1=.exit 4/\r.2.1 1=.pointer (some ⟨W.next,0,none⟩)/\r.2.1 4=.int .i64 (i:Int)/\r.2.1 5=.int .i64 (k:Int)/\Lst W1.next r.2.2 3 TA (r.2.1 3) (EM v.secs i++K3 i v.secs[i].rows (k+1))) ⟨hl,h1,h4,h5,rfl,by rw[show zO i k 0=[]from rfl,List.append_nil];exact hG⟩ ?_ ?_ ?_
   ·rintro m R W' hm ⟨hl,h1,h4,h5,h6,hG⟩;unfold jZ;have e1:((m:Int)<v.secs[i].rows[k]):=by omega
    simp only[SX,h1,h4,h5,h6,Nat.zero_add,c3 _ hl,g1,g5 _ (hle.trans hl),p1,p2 _ (hle.trans hl),e1,aCi,aCR];have hGm:=hG.mono ((Le.refl W').add (.cells [.int .i64 (i:Int),.int .i64 (k:Int),.int .i64 (m:Int)]));have hlb:(EM v.secs i++K3 i v.secs[i].rows k++zO i k m).length+1<100000:=by rw[List.length_append,List.length_append,a1u];omega
    obtain⟨v',W2,q1,q2,q3,q4⟩:=Lst.push (P:=Tryz.prog) (a:=(i,k,m)) (b:=W'.next) (c:=1) aCU a0y a8l hGm bR (by omega) (by omega) (by rw[AW.add_next];have:=hl.next;omega);simp only[SX,q1,add1 m _ (by omega),aB];refine .inl ⟨trivial,q4 _ (hl.add _) (Nat.le_refl _),h1,h4,h5,rfl,?_⟩;rw[a4v,<-List.append_assoc];exact q2
   ·rintro R W' ⟨hl,h1,h4,h5,h6,hG⟩;unfold jZ;have e1:¬((v.secs[i].rows[k].toNat:Int)<v.secs[i].rows[k]):=by omega
    simp only[SX,h1,h4,h5,h6,Nat.zero_add,c3 _ hl,g1,g5 _ (hle.trans hl),p1,p2 _ (hle.trans hl),e1,aB];refine⟨by simp,hl,trivial,h1,h4,h5,?_⟩;rw[JN _ _ hk,<-List.append_assoc];exact hG
   ·rintro⟨x,R,W'⟩ ⟨hl,rfl,h1,h4,h5,hG⟩;simp only at hl h1 h4 h5 hG;simp only[SX,h5,add1 k _ (by omega),aB];exact .inl ⟨trivial,hl,h1,h4,rfl,hG⟩
  ·rintro R W' ⟨hl,h1,h4,h5,hG⟩;unfold mM;have e1:¬((v.secs[i].rows.length:Int)<(v.secs[i].rows.length:Int)):=by omega
   have g2':=g2.mono (hle.trans hl);simp only[SX,h1,h4,h5,Nat.zero_add,c3 _ hl,g1,g5 _ (hle.trans hl),g2'.len DU,e1,aB];refine⟨by simp,hl,trivial,h1,h4,?_⟩;rw[LF _ hi];exact hG
  ·rintro⟨x,R,W'⟩ ⟨hl,rfl,h1,h4,hG⟩;simp only at hl h1 h4 hG;simp only[SX,h4,add1 i _ (by omega),aB];exact .inl ⟨trivial,hl,h1,rfl,hG⟩
 ·rintro R W' ⟨hl,h1,h4,hG⟩;unfold rT;have e1:¬((v.secs.length:Int)<(v.secs.length:Int)):=by omega
  simp only[SX,h1,h4,Nat.zero_add,c3 _ hl,hs.len yM,e1,aB];exact⟨by simp,hl,trivial,hG⟩
 ·rintro⟨x,R,W'⟩ ⟨hl,rfl,hG⟩;simp only at hl hG;simp only[SX,aB];exact⟨hle.trans hl,hG.row a0y a9c⟩
theorem a9q:((#[238]:Array TypeId)[0]?).bind Tryz.prog.underlying=some (.slice 309):=by kernel_rfl
theorem WQ{v:Ven}{sv:Value}{W:AW}(hs:Secs W sv v.secs)(hv:v.secs.length<1000)(hr:∀s∈v.secs,s.rows.length<1000):aK (.func (.func 108) #[] #[]) [kR v sv] W=some (.tuple #[.int .i64 (lW v).1,.int .i64 (lW v).2],W):=by
 refine aN rfl ?_ PE;unfold MM;have hle:Le W (W.add (.cells [.int .i64 v.sh,.int .i64 v.ttl,.int .i64 v.ses,sv])):=(Le.refl W).add _;have hc:cellsAt (W.add (.cells [.int .i64 v.sh,.int .i64 v.ttl,.int .i64 v.ses,sv])) W.next=some [.int .i64 v.sh,.int .i64 v.ttl,.int .i64 v.ses,sv]:=bR;have hn:W.next<(W.add (.cells [.int .i64 v.sh,.int .i64 v.ttl,.int .i64 v.ses,sv])).next:=by rw[AW.add_next];omega
 simp only[SX,M0,Nat.zero_add];generalize hW1:W.add (.cells [.int .i64 v.sh,.int .i64 v.ttl,.int .i64 v.ses,sv])=W1 at *;have c0:aL (.pointer (some ⟨W.next,0,none⟩)) W1=some (.int .i64 v.sh,W1):=bY hc rfl;have c1:aL (.pointer (some ⟨W.next,1,none⟩)) W1=some (.int .i64 v.ttl,W1):=bY hc rfl;have c2:aL (.pointer (some ⟨W.next,2,none⟩)) W1=some (.int .i64 v.ses,W1):=bY hc rfl;have c3:aL (.pointer (some ⟨W.next,3,none⟩)) W1=some (sv,W1):=bY hc rfl;have c4:bH 4 (.pointer (some ⟨W.next,0,none⟩)) W1=some (kR v sv,W1):=sS hc rfl;have hs1:=hs.mono hle;simp only[SX,c0,xC,HV];unfold lW H7;cases n1:lN v.sh 1 16;case true=>simp only[SX,Bool.true_or,if_true,aB];exact⟨trivial,hle⟩
 simp only[SX,Nat.zero_add,c1,xC,HV];cases n2:lN v.ttl 1 1000000000;case true=>simp only[SX,Bool.true_or,Bool.or_true,if_true,aB];exact⟨trivial,hle⟩
 simp only[SX,Nat.zero_add,c2,xC,HV];cases n3:lN v.ses 1 1000000000;case true=>simp only[SX,Bool.true_or,Bool.or_true,if_true,aB];exact⟨trivial,hle⟩
 simp only[SX,Nat.zero_add,c3,hs.len yM,Bool.or_self,Bool.false_eq_true,if_false];by_cases n4:v.secs.length=0;case pos=>
  have e:((v.secs.length:Int)=0):=by omega
  simp only[SX,e,if_pos n4,aB];exact⟨trivial,hle⟩
 have e4:¬((v.secs.length:Int)=0):=by omega
 simp only[SX,e4,if_neg n4,Nat.zero_add,c3,hs.len yM];by_cases n5:8<v.secs.length;case pos=>
  have e:((8:Int)<(v.secs.length:Int)):=by omega
  simp only[SX,e,if_pos n5,aB];exact⟨trivial,hle⟩
 have e5:¬((8:Int)<(v.secs.length:Int)):=by omega
 simp only[SX,e5,if_neg n5];refine bD v.secs.length (by omega) (λk R W'=>W'=W1/\R 1=.pointer (some ⟨W.next,0,none⟩)/\R 4=.int .i64 (k:Int)/\pV v.secs k=none)
  (λr=>r.2.2=W1/\((r.1=.exit 0/\r.2.1 1=.pointer (some ⟨W.next,0,none⟩)/\pV v.secs v.secs.length=none)\/(r.1=.ret/\∃i e,r.2.1 2=.int .i64 ((i:Nat):Int)/\r.2.1 3=.int .i64 e/\pV v.secs v.secs.length=some (i,e)))) ⟨rfl,rfl,rfl,rfl⟩ ?_ ?_ ?_
 ·rintro k R W' hk ⟨rfl,h1,h4,hb⟩;unfold uP;have e1:((k:Int)<(v.secs.length:Int)):=by omega
  have e2:(k:Int)+1=((k+1:Nat):Int):=by omega
  have ea:=aU (P:=Tryz.prog) (W:=W') (t:=3) (c:=false) (d:=true) (a:=(k:Int)) (b:=1) (by omega) (by omega);simp only[SX,h1,h4,Nat.zero_add,c3,hs.len yM,e1,c4,a2f hs1 hv hk (hr _ (List.getElem_mem hk))];have hbs:=KA hb hk;by_cases hz:zJ v.secs[k] (v.secs.take k)=0
  ·rw[if_pos hz]at hbs;simp only[SX,hz,ea,aB];exact .inl ⟨trivial,trivial,h1,by rw[<-e2];rfl,hbs⟩
  ·rw[if_neg hz]at hbs;simp only[SX,hz,aB];exact .inr ⟨by simp,trivial,.inr ⟨trivial,k,_,rfl,rfl,CR hbs (by omega)⟩⟩
 ·rintro R W' ⟨rfl,h1,h4,hb⟩;unfold uP;have e1:¬((v.secs.length:Int)<(v.secs.length:Int)):=by omega
  simp only[SX,h1,h4,Nat.zero_add,c3,hs.len yM,e1,aB];exact⟨by simp,trivial,.inl ⟨trivial,h1,hb⟩⟩
 ·rintro⟨x,R,W'⟩ ⟨hW,hq⟩;simp only at hW hq;subst hW;rcases hq with⟨rfl,h1,hb⟩|⟨rfl,i,e,h2,h3,hb⟩
  ·rw[hb];have hg:=Good.of (by omega) hb;obtain⟨r,W2,q1,q2,q3⟩:=KV hs1 hg;simp only[SX,h1,c4,q1,q3.len a9q,xJ hg];by_cases n6:4096<dA v.secs
   ·simp only[SX,n6,if_true,aB];exact⟨trivial,hle.trans q2⟩
   ·simp only[SX,n6,if_false,aB];exact⟨trivial,hle.trans q2⟩
  ·rw[hb];simp only[SX,h2,h3,aB];exact⟨trivial,hle⟩
theorem fT{v:Ven}(h:(lW v).2=0):Good v.secs/\H7 v=false/\0<v.secs.length/\pV v.secs v.secs.length=none/\dA v.secs<=4096/\(lW v).1=0:=by
 unfold lW at h|-;split at h
 ·exact absurd h (by decide)
 rename_i h1;split at h
 ·exact absurd h (by decide)
 rename_i h2;split at h
 ·exact absurd h (by decide)
 rename_i h3;cases hb:pV v.secs v.secs.length with
 |some r=>
  obtain⟨i,e⟩:=r;rw[hb]at h;simp only at h;subst h;exfalso;have:∀n,pV v.secs n≠some (i,0):=by
   intro n;induction n with
   |zero=>simp[pV]
   |succ n ih=>
    intro hn;have hn':(match pV v.secs n with|some r=>some r|none=>match v.secs[n]? with|some s=>if zJ s (v.secs.take n)=0 then none else some (n,zJ s (v.secs.take n))|none=>none)=some (i,0):=hn;cases hbn:pV v.secs n with
    |some r=>rw[hbn]at hn';simp only at hn';rw[hn']at hbn;exact ih hbn
    |none=>
     rw[hbn]at hn';simp only at hn';split at hn'
     ·split at hn'
      ·cases hn'
      ·rename_i hz;injection hn' with hn';injection hn' with _ e;exact hz e
     ·cases hn'
  exact this _ hb
 |none=>
  rw[hb]at h;simp only at h|-;split at h
  ·exact absurd h (by decide)
  rename_i h4;rw[if_neg h4,if_neg h1,if_neg h2,if_neg h3];exact⟨Good.of (by omega) hb,by simpa using h1,by omega,trivial,by omega,rfl⟩
theorem JO(v:Ven)(sv:Value)(W:AW):∃W1,bW (kR v sv) W=some (.pointer (some ⟨W.next,0,none⟩),W1)/\Le W W1/\W.next<W1.next/\
 (∀W',Le W1 W'->bH 4 (.pointer (some ⟨W.next,0,none⟩)) W'=some (kR v sv,W'))/\(∀W',Le W1 W'->aL (.pointer (some ⟨W.next,0,none⟩)) W'=some (.int .i64 v.sh,W'))/\(∀W',Le W1 W'->aL (.pointer (some ⟨W.next,3,none⟩)) W'=some (sv,W')):=by
 have hc:cellsAt (W.add (.cells [.int .i64 v.sh,.int .i64 v.ttl,.int .i64 v.ses,sv])) W.next=some [.int .i64 v.sh,.int .i64 v.ttl,.int .i64 v.ses,sv]:=bR;have hn:W.next<(W.add (.cells [.int .i64 v.sh,.int .i64 v.ttl,.int .i64 v.ses,sv])).next:=by rw[AW.add_next];omega
 exact⟨_,M0 _ _ _ _ W,(Le.refl W).add _,hn,λW' k=>sS (by rw[k.cellsAt hn];exact hc) rfl,λW' k=>bY (by rw[k.cellsAt hn];exact hc) rfl,λW' k=>bY (by rw[k.cellsAt hn];exact hc) rfl⟩
def bX(v:Ven):Int×Int:=if(lW v).2=0 then(dA v.secs,0)else(0,(lW v).2)
theorem Z0{v:Ven}{sv:Value}{W:AW}(hs:Secs W sv v.secs)(hv:v.secs.length<1000)(hr:∀s∈v.secs,s.rows.length<1000):aK (.func (.func 85) #[] #[]) [kR v sv] W=some (.tuple #[.int .i64 (bX v).1,.int .i64 (bX v).2],W):=by
 refine aN rfl ?_ PK;unfold M6 bX;obtain⟨W1,hB,hle,hn,c4,c0,c3⟩:=JO v sv W;simp only[SX,hB,c4 _ (.refl _),WQ (hs.mono hle) hv hr];by_cases he:(lW v).2=0
 ·obtain⟨r,W2,q1,q2,q3⟩:=KV (hs.mono hle) (fT he).1;simp only[SX,decide_eq_true he,c4 _ (.refl _),q1,q3.len a9q,xJ (fT he).1,if_pos he,aB];exact⟨trivial,hle.trans q2⟩
 ·simp only[SX,he,if_false,aB];exact⟨trivial,hle⟩
structure RowT where
 sec:Nat
 row:Nat
 first:Int
 many:Int
abbrev YW(r:RowT):Value:=.agg #[.int .i64 (r.sec:Int),.int .i64 (r.row:Int),.int .i64 r.first,.int .i64 r.many]
def GU(l:List Sec)(i:Nat)(rows:List Int)(k:Nat):List RowT:=(List.range k).map λj=>⟨i,j,dA (l.take i)+lF (rows.take j),rows.getD j 0⟩
def vC(l:List Sec)(n:Nat):List RowT:=(List.range n).flatMap λi=>match l[i]? with
 |some s=>GU l i s.rows s.rows.length
 |none=>[]
def gW(l:List Sec):List RowT:=vC l l.length
theorem tN(l:List Sec)(i:Nat)(rows:List Int){k:Nat}(hk:k<rows.length):GU l i rows (k+1)=GU l i rows k++[⟨i,k,dA (l.take i)+lF (rows.take k),rows[k]⟩]:=by unfold GU;rw[List.range_succ,List.map_append,List.map_cons,List.map_nil,List.getD_eq_getElem?_getD,List.getElem?_eq_getElem hk,Option.getD_some]
theorem pO(l:List Sec){n:Nat}(hn:n<l.length):vC l (n+1)=vC l n++GU l n l[n].rows l[n].rows.length:=by unfold vC;rw[List.range_succ,List.flatMap_append,List.flatMap_cons,List.flatMap_nil,List.append_nil,List.getElem?_eq_getElem hn]
theorem a5V{l:List Sec}{i:Nat}{rows:List Int}{k n:Nat}(h:k<=n)(hn:n<=rows.length):GU l i rows k<+:GU l i rows n:=by
 induction n with
 |zero=>obtain rfl:k=0:=by omega
        exact List.prefix_refl _
 |succ n ih=>
  by_cases e:k=n+1
  ·subst e;exact List.prefix_refl _
  ·rw[tN l i rows (by omega)];exact(ih (by omega) (by omega)).trans (List.prefix_append _ _)
theorem a4s{l:List Sec}{k n:Nat}(h:k<=n)(hn:n<=l.length):vC l k<+:vC l n:=by
 induction n with
 |zero=>obtain rfl:k=0:=by omega
        exact List.prefix_refl _
 |succ n ih=>
  by_cases e:k=n+1
  ·subst e;exact List.prefix_refl _
  ·rw[pO l (by omega)];exact(ih (by omega) (by omega)).trans (List.prefix_append _ _)
theorem a6W{l:List Sec}{i k:Nat}(hi:i<l.length)(hk:k<l[i].rows.length):(vC l i++GU l i l[i].rows k)++[⟨i,k,dA (l.take i)+lF (l[i].rows.take k),l[i].rows[k]⟩]<+:gW l:=by rw[List.append_assoc,<-tN l i _ hk];refine List.IsPrefix.trans ?_ (a4s (k:=i+1) (by omega) (Nat.le_refl _));rw[pO l hi];exact(List.prefix_append_right_inj _).2 (a5V (by omega) (Nat.le_refl _))
theorem aEs(a b c d:Int)(W:AW):dG Tryz.prog 210 [(0,.int .i64 a),(1,.int .i64 b),(2,.int .i64 c),(3,.int .i64 d)] W=some (.agg #[.int .i64 a,.int .i64 b,.int .i64 c,.int .i64 d],W):=Eq.trans (by kernel_rfl) rfl
theorem aAl{v:Ven}{sv f:Value}{bx:Nat}{W0 W:AW}(hs:Secs W0 sv v.secs)(hg:Good v.secs)(hb:aL (.pointer (some ⟨bx,3,none⟩)) W=some (sv,W))(I:List RowT->AW->Prop)(Q:AW->Prop)
 (hI:I [] W)(hS:∀pre W',I pre W'->Le W0 W')(hA:∀pre W' cs,I pre W'->I pre (W'.add (.cells cs)))
 (step:∀pre r W',pre++[r]<+:gW v.secs->I pre W'->∃b W2,aK f [YW r] W'=some (.bool b,W2)/\(b=true->I (pre++[r]) W2)/\(b=false->Q W2)):
 ∃W2,aK (.func (.func 190) #[] #[.pointer (some ⟨bx,0,none⟩)]) [f] W=some (.tuple #[],W2)/\(I (gW v.secs) W2\/Q W2):=by
 have main:Ok (yD aK f (.pointer (some ⟨bx,0,none⟩)) W) λr=>r.1=.tuple #[]/\(I (gW v.secs) r.2\/Q r.2):=by
  unfold yD;have hlen:=hg.len;have add1:∀(k:Nat) (W':AW),k<1000000->aD Tryz.prog .add 3 false true (.int .i64 (k:Int)) (.int .i64 1) W'=some (.int .i64 ((k+1:Nat):Int),W'):=λk W' hk=>aU (by omega) (by omega)
  simp only[SX,Nat.zero_add,hb,hs.len yM];refine bD v.secs.length (by omega) (λi R W'=>R 0=f/\R 3=.int .i64 (dA (v.secs.take i))/\R 9=sv/\R 10=.int .i64 (v.secs.length:Int)/\R 11=.int .i64 (i:Int)/\I (vC v.secs i) W')
   (λr=>(r.1=.exit 0/\I (gW v.secs) r.2.2)\/(r.1=.ret/\Q r.2.2)) ⟨rfl,rfl,rfl,rfl,rfl,hI⟩ ?_ ?_ ?_
  ·rintro i R W' hi ⟨h0,h3,h9,h10,h11,hi'⟩;unfold rU;have e1:((i:Int)<(v.secs.length:Int)):=by omega
   obtain⟨b,o,rv,g1,g2,g3,_⟩:=hs.get hi;obtain⟨r1,r2,r3⟩:=hg.rows _ (List.getElem_mem hi);have htb:0<=dA (v.secs.take i)/\dA (v.secs.take i)<=1024*i:=by have:=BF hg (by omega:i<=v.secs.length);omega
   have hI2:=hA _ _ [.string (aO v.secs[i].name),rv,.int .i64 v.secs[i].q] hi';have hc2:cellsAt (W'.add (.cells [.string (aO v.secs[i].name),rv,.int .i64 v.secs[i].q])) W'.next=some [.string (aO v.secs[i].name),rv,.int .i64 v.secs[i].q]:=bR;simp only[SX,h9,h10,h11,e1,g1,g3 _ (hS _ _ hi'),a9f,aB1 eD (xK _) (Row.one g2) (vF _ _),mG,Nat.zero_add];generalize hW2:W'.add (.cells [.string (aO v.secs[i].name),rv,.int .i64 v.secs[i].q])=W2 at *;have d1:aL (.pointer (some ⟨W'.next,1,none⟩)) W2=some (rv,W2):=bY hc2 rfl;simp only[SX,d1,g2.len DU];refine bD v.secs[i].rows.length (by omega) (λk R W'=>R 0=f/\R 3=.int .i64 (dA (v.secs.take i)+lF (v.secs[i].rows.take k))/\R 4=.int .i64 (i:Int)/\R 9=sv/\R 10=.int .i64 (v.secs.length:Int)/\R 11=.int .i64 (i:Int)/\R 17=rv/\R 18=.int .i64 (v.secs[i].rows.length:Int)/\R 19=.int .i64 (k:Int)/\I (vC v.secs i++GU v.secs i v.secs[i].rows k) W')
    (λr=>(r.1=.exit 2/\r.2.1 0=f/\r.2.1 3=.int .i64 (dA (v.secs.take (i+1)))/\r.2.1 9=sv/\r.2.1 10=.int .i64 (v.secs.length:Int)/\r.2.1 11=.int .i64 (i:Int)/\I (vC v.secs (i+1)) r.2.2)\/(r.1=.ret/\Q r.2.2))
    ⟨h0,by rw[List.take_zero,show lF []=0 from rfl,Int.add_zero];exact h3,rfl,h9,h10,h11,rfl,rfl,rfl,by rw[show GU v.secs i v.secs[i].rows 0=[]from rfl,List.append_nil];exact hI2⟩ ?_ ?_ ?_
   ·rintro k R W' hk ⟨h0,h3,h4,h9,h10,h11,h17,h18,h19,hi'⟩;unfold nD;have e1:((k:Int)<(v.secs[i].rows.length:Int)):=by omega
    obtain⟨p,p1,p2⟩:=g2.get hk;obtain⟨c,W3,s1,s2,s3⟩:=step _ ⟨i,k,dA (v.secs.take i)+lF (v.secs[i].rows.take k),v.secs[i].rows[k]⟩ W' (a6W hi hk) hi';have hsb:=(uE r3 k).1;have hsn:=r3 _ (List.getElem_mem hk);have eb:=aU (P:=Tryz.prog) (W:=W3) (t:=3) (c:=false) (d:=false) (a:=dA (v.secs.take i)+lF (v.secs[i].rows.take k)) (b:=v.secs[i].rows[k]) (by omega) (by omega);simp only[SX,h0,h3,h4,h17,h18,h19,e1,p1,p2 _ (hS _ _ hi'),aEs,s1];cases c
    ·simp only[SX,aB];exact .inr ⟨by simp,.inr ⟨trivial,s3 rfl⟩⟩
    ·simp only[SX,eb,add1 k _ (by omega),aB];refine .inl ⟨trivial,h0,?_,h4,h9,h10,h11,h17,h18,rfl,?_⟩
     ·rw[tL hk,<-Int.add_assoc];rfl
     ·rw[tN _ _ _ hk,<-List.append_assoc];exact s2 rfl
   ·rintro R W' ⟨h0,h3,h4,h9,h10,h11,h17,h18,h19,hi'⟩;unfold nD;have e1:¬((v.secs[i].rows.length:Int)<(v.secs[i].rows.length:Int)):=by omega
    simp only[SX,h18,h19,e1,aB];refine⟨by simp,.inl ⟨trivial,h0,?_,h9,h10,h11,?_⟩⟩
    ·rw[uO hi];rw[List.take_length]at h3;exact h3
    ·rw[pO _ hi];exact hi'
   ·rintro⟨x,R,W'⟩ hq;rcases hq with⟨rfl,h0,h3,h9,h10,h11,hi'⟩|⟨rfl,hq⟩
    ·simp only at h0 h3 h9 h10 h11 hi';simp only[SX,h11,add1 i _ (by omega),aB];exact .inl ⟨trivial,h0,h3,h9,h10,rfl,hi'⟩
    ·simp only[SX,aB];exact .inr ⟨by simp,.inr ⟨trivial,hq⟩⟩
  ·rintro R W' ⟨h0,h3,h9,h10,h11,hi'⟩;unfold rU;have e1:¬((v.secs.length:Int)<(v.secs.length:Int)):=by omega
   simp only[SX,h10,h11,e1,aB];exact⟨by simp,.inl ⟨trivial,hi'⟩⟩
  ·rintro⟨x,R,W'⟩ hq;rcases hq with⟨rfl,hi'⟩|⟨rfl,hq⟩
   ·simp only[SX,aB];exact⟨trivial,.inl hi'⟩
   ·simp only[SX,aB];exact⟨trivial,.inr hq⟩
 obtain⟨⟨r,W'⟩,h1,h2,h3⟩:=main;simp only at h2 h3;subst h2;exact⟨W',by rw[NJ h1,eG rfl],h3⟩
theorem a3H{v:Ven}{sv:Value}(W:AW):∃W1,aK (.func (.func 130) #[] #[]) [kR v sv] W=some (.func (.func 190) #[] #[.pointer (some ⟨W.next,0,none⟩)],W1)/\Le W W1/\W.next<W1.next/\(∀W',Le W1 W'->aL (.pointer (some ⟨W.next,3,none⟩)) W'=some (sv,W')):=by
 obtain⟨W1,hB,hle,hn,c4,c0,c3⟩:=JO v sv W;refine⟨W1,?_,hle,hn,c3⟩;have:ET aK (kR v sv) W=some (.func (.func 190) #[] #[.pointer (some ⟨W.next,0,none⟩)],W1):=by unfold ET;simp only[SX,hB]
 rw[TQ this,eG rfl]
theorem a2G{v:Ven}{sv:Value}{W0 W:AW}{bx nt:Nat}{R:Nat->Value}{ps:Array Tmp}{ac bd:Code}(hs:Secs W0 sv v.secs)(hg:Good v.secs)
 (hb:aL (.pointer (some ⟨bx,3,none⟩)) (W.add (.loop .ready none R nt ps ac bd))=some (sv,W.add (.loop .ready none R nt ps ac bd)))(hp:ps.size=1)
 (J:List RowT->AW->Prop)(Q:X->AW->Prop)(h0:J [] (W.add (.loop .ready none R nt ps ac bd)))
 (hS:∀pre W',J pre W'->Le W0 W')(hA:∀pre W' cs,J pre W'->W.next<W'.next->J pre (W'.add (.cells cs)))(hP:∀pre W' o,J pre W'->J pre (W'.put W.next o))(hQ:∀x W' o,Q x W'->Q x (W'.put W.next o))
 (d:Nat)(has:∀r W' R',R'=rA ps.toList [YW r] R->jI Tryz.prog aK false nt ac LT R' W' tF=some (.normal,fC R' (some d) (.pointer (some ⟨W'.next,0,none⟩)),W'.add (.cells [.int .i64 (r.sec:Int),.int .i64 (r.row:Int),.int .i64 r.first,.int .i64 r.many])))
 (step:∀pre r W' b R',R'=fC (rA ps.toList [YW r] R) (some d) (.pointer (some ⟨b,0,none⟩))->pre++[r]<+:gW v.secs->J pre W'->W.next<W'.next->rwCells W' b=some [.int .i64 (r.sec:Int),.int .i64 (r.row:Int),.int .i64 r.first,.int .i64 r.many]->W.next<b->b<W'.next->
   Ok (jI Tryz.prog aK false nt bd LT R' W' tF) λq=>W'.next<=q.2.2.next/\q.2.2.get W.next=W'.get W.next/\((q.1=.normal/\J (pre++[r]) q.2.2)\/(q.1≠ .normal/\Q q.1 q.2.2))):
 ∃x W2,nR aK (.func (.func 190) #[] #[.pointer (some ⟨bx,0,none⟩)]) (.loop .ready none R nt ps ac bd) W=some (x,W2.kill W.next)/\((x=.normal/\J (gW v.secs) W2)\/(x≠ .normal/\Q x W2)):=by
 obtain⟨W2,h1,h2⟩:=aAl (f:=.func (.yield W.next) #[] #[]) (W:=W.add (.loop .ready none R nt ps ac bd)) hs hg hb
  (λpre W'=>J pre W'/\W.next<W'.next/\W'.get W.next=some (.loop .ready none R nt ps ac bd))
  (λW'=>∃x,x≠ .normal/\Q x W'/\W'.get W.next=some (.loop .done x.jump R nt ps ac bd))
  ⟨h0,by rw[AW.add_next];omega,AW.get_add _ _⟩ (λpre W' h=>hS _ _ h.1)
  (λpre W' cs h=>⟨hA _ _ _ h.1 h.2.1,by rw[AW.add_next];omega,by rw[AW.get_add_ne _ _ (by omega)];exact h.2.2⟩)
  (λpre r W' hpre ⟨hJ,hlt,hget⟩=>by
    have hJ2:=hP _ _ (.loop .busy none R nt ps ac bd) (hA _ _ [.int .i64 (r.sec:Int),.int .i64 (r.row:Int),.int .i64 r.first,.int .i64 r.many] hJ hlt);obtain⟨⟨x,R2,W3⟩,k1,k2,k3,k4⟩:=step pre r _ W'.next _ rfl hpre hJ2 (by rw[AW.put_next,AW.add_next];omega) (by rw[fM _ (by omega)];exact eD) hlt (by rw[AW.put_next,AW.add_next];omega);simp only at k1 k2 k3 k4;rw[AW.get_put]at k3;have hy:=UL (P:=Tryz.prog) (args:=[YW r]) hget (by rw[hp];rfl) (has r W' _ rfl) (by rw[AW.get_add_ne _ _ (by omega)];exact hget) k1 k3;have hn3:W.next<W3.next:=by rw[AW.put_next,AW.add_next]at k2;omega
    rcases k4 with⟨rfl,k4⟩|⟨kx,k4⟩
    ·exact⟨true,_,hy,λ_=>⟨hP _ _ _ k4,by rw[AW.put_next];exact hn3,AW.get_put _ _ _⟩,λh=>by cases h⟩
    ·refine⟨false,W3.put W.next (.loop .done x.jump R nt ps ac bd),?_,λh=>by(cases h),λ_=>⟨x,kx,hQ _ _ _ k4,AW.get_put _ _ _⟩⟩;refine hy.trans ?_;cases x with
     |normal=>exact absurd rfl kx
     |exit i=>rfl
     |ret=>rfl)
 rcases h2 with⟨h2,h3,h4⟩|⟨x,h2,h3,h4⟩
 ·exact⟨.normal,W2,JB h1 h4 (by simp),.inl ⟨rfl,h2⟩⟩
 ·exact⟨x,W2,PQ h1 h4,.inr ⟨h2,h3⟩⟩
theorem a3j{v:Ven}{sv:Value}{W0 W:AW}{bx nt:Nat}{R:Nat->Value}{ps:Array Tmp}{ac bd:Code}{ρ:Type}{K:X×AW->Option ρ}{G:ρ->Prop}(hs:Secs W0 sv v.secs)(hg:Good v.secs)
 (hb:aL (.pointer (some ⟨bx,3,none⟩)) (W.add (.loop .ready none R nt ps ac bd))=some (sv,W.add (.loop .ready none R nt ps ac bd)))(hp:ps.size=1)
 (J:List RowT->AW->Prop)(Q:X->AW->Prop)(h0:J [] (W.add (.loop .ready none R nt ps ac bd)))
 (hS:∀pre W',J pre W'->Le W0 W')(hA:∀pre W' cs,J pre W'->W.next<W'.next->J pre (W'.add (.cells cs)))(hP:∀pre W' o,J pre W'->J pre (W'.put W.next o))(hQ:∀x W' o,Q x W'->Q x (W'.put W.next o))
 (d:Nat)(has:∀r W' R',R'=rA ps.toList [YW r] R->jI Tryz.prog aK false nt ac LT R' W' tF=some (.normal,fC R' (some d) (.pointer (some ⟨W'.next,0,none⟩)),W'.add (.cells [.int .i64 (r.sec:Int),.int .i64 (r.row:Int),.int .i64 r.first,.int .i64 r.many])))
 (step:∀pre r W' b R',R'=fC (rA ps.toList [YW r] R) (some d) (.pointer (some ⟨b,0,none⟩))->pre++[r]<+:gW v.secs->J pre W'->W.next<W'.next->rwCells W' b=some [.int .i64 (r.sec:Int),.int .i64 (r.row:Int),.int .i64 r.first,.int .i64 r.many]->W.next<b->b<W'.next->
   Ok (jI Tryz.prog aK false nt bd LT R' W' tF) λq=>W'.next<=q.2.2.next/\q.2.2.get W.next=W'.get W.next/\((q.1=.normal/\J (pre++[r]) q.2.2)\/(q.1≠ .normal/\Q q.1 q.2.2)))
 (after:∀x W2,(x=.normal/\J (gW v.secs) W2)\/(x≠ .normal/\Q x W2)->Ok (K (x,W2.kill W.next)) G):
 Ok (aA (nR aK (.func (.func 190) #[] #[.pointer (some ⟨bx,0,none⟩)]) (.loop .ready none R nt ps ac bd) W) K) G:=by
 obtain⟨x,W2,h1,h2⟩:=a2G hs hg hb hp J Q h0 hS hA hP hQ d has step;rw[h1,xH];exact after x W2 h2
def eH(l:List RowT):Int:=lF (l.map (·.many))
def Firsts:Int->List RowT->Prop
 |_,[]=>True
 |s,r::l=>r.first=s/\Firsts (s+r.many) l
theorem nL:eH []=0:=rfl
theorem fZ(r:RowT)(l:List RowT):eH (r::l)=r.many+eH l:=rfl
theorem oO(a b:List RowT):eH (a++b)=eH a+eH b:=by
 induction a with
 |nil=>simp[nL]
 |cons r a ih=>rw[List.cons_append,fZ,fZ,ih];omega
theorem Firsts.append:∀{a b:List RowT} {s:Int},Firsts s a->Firsts (s+eH a) b->Firsts s (a++b)
 |[],_,s,_,h=>by rw[nL,Int.add_zero]at h;exact h
 |r::a,b,s,⟨h1,h2⟩,h=>⟨h1,Firsts.append h2 (by rw[fZ,<-Int.add_assoc]at h;exact h)⟩
theorem Firsts.at:∀{a b:List RowT} {r:RowT} {s:Int},Firsts s (a++r::b)->r.first=s+eH a
 |[],_,_,s,⟨h,_⟩=>by rw[h,nL,Int.add_zero]
 |x::a,b,r,s,⟨_,h⟩=>by rw[Firsts.at h,fZ,Int.add_assoc]
theorem PT(l:List Sec)(i:Nat)(rows:List Int):∀{k:Nat},k<=rows.length->eH (GU l i rows k)=lF (rows.take k)
 |0,_=>rfl
 |k+1,hk=>by rw[tN l i rows (by omega),oO,PT l i rows (by omega),tL (by omega),fZ,nL,Int.add_zero]
theorem MG(l:List Sec)(i:Nat)(rows:List Int):∀{k:Nat},k<=rows.length->Firsts (dA (l.take i)) (GU l i rows k)
 |0,_=>trivial
 |k+1,hk=>by rw[tN l i rows (by omega)];exact(MG l i rows (by omega)).append ⟨by rw[PT l i rows (by omega)],trivial⟩
theorem JW(l:List Sec):∀{n:Nat},n<=l.length->eH (vC l n)=dA (l.take n)
 |0,_=>rfl
 |n+1,hn=>by rw[pO l (by omega),oO,JW l (by omega),PT l n _ (Nat.le_refl _),uO (by omega),List.take_length]
theorem GV(l:List Sec):∀{n:Nat},n<=l.length->Firsts 0 (vC l n)
 |0,_=>trivial
 |n+1,hn=>by rw[pO l (by omega)];refine(GV l (by omega)).append ?_;rw[JW l (by omega),Int.zero_add];exact MG l n _ (Nat.le_refl _)
theorem YV(l:List Sec):eH (gW l)=dA l:=by have:=JW l (Nat.le_refl l.length);rwa [List.take_length]at this
theorem LX(l:List Sec):Firsts 0 (gW l):=GV l (Nat.le_refl _)
def RowOf(l:List Sec)(r:RowT):Prop:=∃(hi:r.sec<l.length) (hk:r.row<l[r.sec].rows.length),r.many=l[r.sec].rows[r.row]
theorem BI{l:List Sec}{r:RowT}(h:r∈gW l):RowOf l r:=by unfold gW vC at h;obtain⟨i,hi,h⟩:=List.mem_flatMap.1 h;rw[List.mem_range]at hi;rw[List.getElem?_eq_getElem hi]at h;unfold GU at h;obtain⟨k,hk,rfl⟩:=List.mem_map.1 h;rw[List.mem_range]at hk;exact⟨hi,hk,by simp[List.getD_eq_getElem?_getD,List.getElem?_eq_getElem hk]⟩
theorem RowOf.many{l:List Sec}{r:RowT}(h:RowOf l r)(hg:Good l):1<=r.many/\r.many<=64/\r.sec<8/\r.row<16:=by obtain⟨hi,hk,hm⟩:=h;obtain⟨_,h2,h3⟩:=hg.rows _ (List.getElem_mem hi);have:=h3 _ (List.getElem_mem hk);have:=hg.len;omega
theorem KW{l:List RowT}(h:∀r∈l,1<=r.many):(l.length:Int)<=eH l:=by
 induction l with
 |nil=>simp[nL]
 |cons r l ih=>
  have h1:=h r (by simp);have h2:=ih λx hx=>h x (by simp[hx])
  rw[fZ,List.length_cons];omega
theorem VH{a l:List RowT}(h:a<+:l)(hm:∀r∈l,1<=r.many):0<=eH a/\eH a<=eH l:=by
 obtain⟨b,rfl⟩:=h;have h1:=KW (l:=a) λr hr=>hm r (by simp[hr])
 have h2:=KW (l:=b) λr hr=>hm r (by simp[hr])
 rw[oO];omega
theorem V9{l:List Sec}(hg:Good l):0<=dA l/\dA l<=8192:=by have h:=(BF hg (Nat.le_refl l.length));rw[List.take_length]at h;have:=hg.len;omega
theorem a1G{l:List Sec}(hg:Good l){pre:List RowT}{r:RowT}(h:pre++[r]<+:gW l):RowOf l r/\r.first=eH pre/\0<=eH pre/\eH (pre++[r])<=8192/\1<=r.many/\r.many<=64/\eH (pre++[r])=eH pre+r.many:=by
 have hm:∀r∈gW l,1<=r.many:=λr hr=>((BI hr).many hg).1
 have hr:r∈gW l:=h.subset (by simp);have h1:=VH h hm;have h2:=VH ((List.prefix_append pre [r]).trans h) hm;rw[YV]at h1;obtain⟨b,hb⟩:=h;have hf:=LX l;rw[<-hb,List.append_assoc]at hf;have:=Firsts.at hf;have hx:=(BI hr).many hg;have:=V9 hg;refine⟨BI hr,by omega,by omega,by omega,by omega,by omega,?_⟩;rw[oO,fZ,nL,Int.add_zero]
theorem VN(l:List Sec)(i:Nat)(rows:List Int):∀{k:Nat},k<=rows.length->K3 i rows k=(GU l i rows k).flatMap λr=>zO r.sec r.row r.many.toNat
 |0,_=>rfl
 |k+1,hk=>by rw[JN i rows (by omega),tN l i rows (by omega),List.flatMap_append,<-VN l i rows (by omega),List.flatMap_cons,List.flatMap_nil,List.append_nil]
theorem a0F(l:List Sec):lQ l=(gW l).flatMap λr=>zO r.sec r.row r.many.toNat:=by
 have:∀n,n<=l.length->EM l n=(vC l n).flatMap λr=>zO r.sec r.row r.many.toNat:=by
  intro n;induction n with
  |zero=>intro _;rfl
  |succ n ih=>intro hn;rw[LF l (by omega),pO l (by omega),List.flatMap_append,<-ih (by omega),<-VN l n _ (Nat.le_refl _)]
 exact this _ (Nat.le_refl _)
theorem oL3(x:Value)(W:AW):rH Tryz.prog 3 x W=aL x W:=by kernel_rfl
theorem al3(W:AW):aW Tryz.prog 3 W=some (.pointer (some ⟨W.next,0,none⟩),W.add (.cells [.int .i64 0])):=Eq.trans (by kernel_rfl) rfl
theorem aCM(W:AW):aW Tryz.prog 210 W=some (.pointer (some ⟨W.next,0,none⟩),W.add (.cells [.int .i64 0,.int .i64 0,.int .i64 0,.int .i64 0])):=Eq.trans (by kernel_rfl) rfl
theorem aC1{b:Nat}{a c d e x y z u:Value}{W:AW}(h:rwCells W b=some [x,y,z,u])(h1:Eng.one a=true)(h2:Eng.one c=true)(h3:Eng.one d=true)(h4:Eng.one e=true):cO 4 (.pointer (some ⟨b,0,none⟩)) (.agg #[a,c,d,e]) W=some (undef,W.put b (.cells [a,c,d,e])):=by rw[a1T,h,Option.bind_some];have hc:(Value.agg #[a,c,d,e]).cells=#[a,c,d,e]:=VA _;rw[hc,if_pos ⟨rfl,by simp,by simp[h1,h2,h3,h4]⟩];rfl
theorem stI{b:Nat}{x:Value}{n:Int}{W:AW}(h:rwCells W b=some [x]):cO 1 (.pointer (some ⟨b,0,none⟩)) (.int .i64 n) W=some (undef,W.put b (.cells [.int .i64 n])):=by rw[a95,h];rfl
theorem YR{b:Nat}{x:Value}{W:AW}(h:rwCells W b=some [x]):aL (.pointer (some ⟨b,0,none⟩)) W=some (x,W):=bY (fB h) rfl
theorem a1d{v:Ven}{sv:Value}{W:AW}(hs:SecsC W sv v.secs)(hv:v.secs.length<1000):aK (.func (.func 67) #[] #[]) [kR v sv] W=some (.tuple #[.int .i64 (bX v).1,.int .i64 (bX v).2],W):=by
 refine aN rfl ?_ OJ;unfold M4 bX;obtain⟨W1,hB,hle,hn,c4,c0,c3⟩:=JO v sv W;have l2:Le W1 (W1.add (.cells [.int .i64 0])):=(Le.refl W1).add _;have hr:rwCells (W1.add (.cells [.int .i64 0])) W1.next=some [.int .i64 0]:=eD;have hn2:W1.next<(W1.add (.cells [.int .i64 0])).next:=by rw[AW.add_next];omega
 simp only[SX,hB,al3];generalize W1.add (.cells [.int .i64 0])=W2 at *;simp only[SX,c4 _ l2,M5 (hs.mono (hle.trans l2)) hv];by_cases he:(lW v).2=0;case neg=>simp only[SX,he,if_false,stI hr,bF,oL3,YR (gU _),Option.bind_some,aB];exact⟨trivial,(hle.trans l2).put (by have:=hle.next;omega) _⟩
 obtain⟨hg,-⟩:=fT he;obtain⟨W3,q1,q2,q3,q4⟩:=a3H (v:=v) (sv:=sv) W2;have l3:W1.next<W3.next:=by have:=q2.next;omega
 simp only[SX,decide_eq_true he,c4 _ l2,q1,if_pos he];refine a3j (hs.mono hle).1 hg (q4 _ ((Le.refl _).add _)) rfl (λpre W'=>Le W1 W'/\rwCells W' W1.next=some [.int .i64 (eH pre)]) (λ_ _=>False) ⟨(l2.trans q2).add _,by rw[nO _ l3,q2.rwCells hn2];exact hr⟩ (λ_ _ h=>h.1)
  (λpre W' cs h hl=>⟨h.1.add _,by rw[nO _ (by omega)];exact h.2⟩) (λpre W' o h=>⟨h.1.put (by omega) _,by rw[fM _ (by omega)];exact h.2⟩) (λ_ _ _ h=>h) 6 ?_ ?_ ?_
 ·intro r W' R' hR;have r17:R' 17=YW r:=by rw[hR];rfl
  rw[FJ];unfold yX;simp only[SX,aCM,r17,aC1 eD (vF _ _) (vF _ _) (vF _ _) (vF _ _),mG]
 ·intro pre r W' b R' hR hpre ⟨h1,h2⟩ hl hb hb1 hb2;have r2:R' 2=.pointer (some ⟨W1.next,0,none⟩):=by rw[hR];rfl
  have r6:R' 6=.pointer (some ⟨b,0,none⟩):=by rw[hR];rfl
  clear hR;rw[FL];unfold yQ;obtain⟨k1,k2,k3,k4,k5,k6,k7⟩:=a1G hg hpre;have ea:=aU (P:=Tryz.prog) (W:=W') (t:=3) (c:=false) (d:=false) (a:=eH pre) (b:=r.many) (by omega) (by omega);simp only[SX,r2,r6,YR h2,iJ (o:=3) hb rfl,ea,stI h2,Nat.zero_add,aB];exact⟨by rw[AW.put_next];omega,by rw[AW.get_put_ne _ _ (by omega)],.inl ⟨trivial,h1.put (Nat.le_refl _) _,by rw[k7];exact gU _⟩⟩
 ·rintro x W4 (⟨rfl,h1,h2⟩|⟨_,h⟩);case inr=>exact h.elim
  have h3:rwCells (W4.kill W3.next) W1.next=some [.int .i64 (eH (gW v.secs))]:=by rw[<-h2];unfold rwCells;rw[AW.get_kill_ne _ (by omega)]
  simp only[SX,YR h3,stI h3,bF,oL3,YR (gU _),Option.bind_some,YV,aB];exact⟨trivial,(hle.trans (h1.kill (by omega))).put (by have:=hle.next;omega) _⟩
abbrev aEd(r:RowT):List Value:=[.int .i64 (r.sec:Int),.int .i64 (r.row:Int),.int .i64 r.first,.int .i64 r.many]
theorem aED(n:Int)(W:AW):∃W1,bW (.int .i64 n) W=some (.pointer (some ⟨W.next,0,none⟩),W1)/\W1.next=W.next+1/\Le W W1/\rwCells W1 W.next=some [.int .i64 n]:=
 ⟨_,OQ _ _,AW.add_next _ _,(Le.refl W).add _,eD⟩
theorem aD0(W:AW):∃W1,aW Tryz.prog 3 W=some (.pointer (some ⟨W.next,0,none⟩),W1)/\W1.next=W.next+1/\Le W W1/\rwCells W1 W.next=some [.int .i64 0]:=⟨_,al3 W,AW.add_next _ _,(Le.refl W).add _,eD⟩
theorem a3p{W:AW}{b c:Nat}(h:b≠c):rwCells (W.kill b) c=rwCells W c:=by unfold rwCells;rw[W.get_kill_ne h]
theorem aDg{b:Nat}{a c d e:Int}{x y z u:Value}{W:AW}(h:rwCells W b=some [x,y,z,u]):cO 4 (.pointer (some ⟨b,0,none⟩)) (.agg #[.int .i64 a,.int .i64 c,.int .i64 d,.int .i64 e]) W=some (undef,W.put b (.cells [.int .i64 a,.int .i64 c,.int .i64 d,.int .i64 e])):=aC1 h rfl rfl rfl rfl
def aDD(seat:Int)(r:RowT):Bool:=decide (r.first<=seat)&&decide (seat<r.first+r.many)
abbrev zs:List Value:=[.int .i64 0,.int .i64 0,.int .i64 0,.int .i64 0]
abbrev aDa:RowT:=⟨0,0,0,0⟩
def ZW(v:Ven)(seat:Int):RowT×Int:=if(lW v).2=0 then(match(gW v.secs).find? (aDD seat)with
 |some r=>(r,0)
 |none=>(aDa,4))else(aDa,(lW v).2)
def iE(sec:Int)(r:RowT):Bool:=decide ((r.sec:Int)=sec)
def a2Q:List RowT->Int
 |[]=>0
 |r::_=>r.first
def CP(v:Ven)(sec:Int):Int×Int×Int:=if(lW v).2=0 then
 if eH ((gW v.secs).filter (iE sec))=0 then(0,0,4)else(a2Q ((gW v.secs).filter (iE sec)),eH ((gW v.secs).filter (iE sec)),0)
 else(0,0,(lW v).2)
theorem mO{α:Type}{p:α->Bool}{pre:List α}{r:α}(h:p r=true):(pre++[r]).filter p=pre.filter p++[r]:=by simp[List.filter_append,h]
theorem xX{α:Type}{p:α->Bool}{pre:List α}{r:α}(h:p r=false):(pre++[r]).filter p=pre.filter p:=by simp[List.filter_append,h]
theorem a5H{l:List RowT}{r:RowT}(h:l≠[]):a2Q (l++[r])=a2Q l:=by
 cases l with
 |nil=>exact absurd rfl h
 |cons=>rfl
theorem aCH{v:Ven}{sv:Value}{W:AW}{sec:Int}(hs:SecsC W sv v.secs)(hv:v.secs.length<1000):aK (.func (.func 156) #[] #[]) [kR v sv,.int .i64 sec] W=some (.tuple #[.int .i64 (CP v sec).1,.int .i64 (CP v sec).2.1,.int .i64 (CP v sec).2.2],W):=by
 refine aN rfl ?_ ZV;unfold ZB CP;obtain⟨W1,hB,hle,hn,c4,c0,c3⟩:=JO v sv W;obtain⟨W2,b2,n2,l2,r2⟩:=aED sec W1;obtain⟨W3,b3,n3,l3,r3⟩:=aD0 W2;obtain⟨W4,b4,n4,l4,r4⟩:=aD0 W3;have r34:rwCells W4 W2.next=some [.int .i64 0]:=by rw[l4.rwCells (by omega)];exact r3
 have l24:=l3.trans l4;have l02:=hle.trans l2;have hsn:=hle.next;have e2:∀(W':AW) a b,rwCells ((W'.put W2.next (.cells a)).put W3.next b) W2.next=some a:=λW' a b=>by rw[fM _ (by omega)];exact gU _
 have e3:∀(W':AW) a,rwCells (W'.put W2.next a) W3.next=rwCells W' W3.next:=λW' a=>fM _ (by omega)
 simp only[SX,hB,b2,b3,b4,c4 _ (l2.trans l24),M5 (hs.mono (l02.trans l24)) hv];by_cases he:(lW v).2=0;case neg=>simp only[SX,he,if_false,stI r34,stI ((e3 _ _).trans r4),O6,oL3,YR (e2 _ _ _),YR (gU _),Option.bind_some,aB];exact⟨trivial,((l02.trans l24).put (by omega) _).put (by omega) _⟩
 obtain⟨hg,-⟩:=fT he;obtain⟨W5,q1,q2,q3,q4⟩:=a3H (v:=v) (sv:=sv) W4;have hn5:=q2.next;simp only[SX,decide_eq_true he,c4 _ (l2.trans l24),q1,if_pos he];refine a3j (hs.mono l02).1 hg (q4 _ ((Le.refl _).add _)) rfl (λpre W'=>Le W2 W'/\rwCells W' W2.next=some [.int .i64 (a2Q (pre.filter (iE sec)))]/\rwCells W' W3.next=some [.int .i64 (eH (pre.filter (iE sec)))])
  (λx W'=>False)
  ⟨(l24.trans q2).add _,by rw[nO _ (by omega),q2.rwCells (by omega)];exact r34,by rw[nO _ (by omega),q2.rwCells (by omega)];exact r4⟩ (λ_ _ h=>h.1)
  (λpre W' cs h hl=>⟨h.1.add _,by rw[nO _ (by omega)];exact h.2.1,by rw[nO _ (by omega)];exact h.2.2⟩)
  (λpre W' o h=>⟨h.1.put (by omega) _,by rw[fM _ (by omega)];exact h.2.1,by rw[fM _ (by omega)];exact h.2.2⟩)
  (λx W' o h=>h) 9 ?_ ?_ ?_
 ·intro r W' R' hR;have r17:R' 20=YW r:=by rw[hR];rfl
  rw[NB];unfold GL;simp only[SX,aCM,r17,aDg eD,mG]
 ·intro pre r W' b R' hR hpre ⟨h1,h2,h3⟩ hl hb hb1 hb2;have f3:R' 3=.pointer (some ⟨W1.next,0,none⟩):=by rw[hR];rfl
  have f4:R' 4=.pointer (some ⟨W2.next,0,none⟩):=by rw[hR];rfl
  have f5:R' 5=.pointer (some ⟨W3.next,0,none⟩):=by rw[hR];rfl
  have f8:R' 9=.pointer (some ⟨b,0,none⟩):=by rw[hR];rfl
  clear hR;rw[NH];unfold FN;obtain⟨k1,k2,k3,k4,k5,k6,k7⟩:=a1G hg hpre;have hse:rwCells W' W1.next=some [.int .i64 sec]:=by rw[h1.rwCells (by omega)];exact r2
  have hmp:∀x∈pre,1<=x.many:=λx hx=>((BI (((List.prefix_append pre [r]).trans hpre).subset hx)).many hg).1
  have hms:=KW (l:=pre.filter (iE sec)) (λx hx=>hmp x (List.mem_filter.1 hx).1);have hms2:eH (pre.filter (iE sec))<=eH pre:=by
   have:∀l:List RowT,(∀x∈l,1<=x.many)->eH (l.filter (iE sec))<=eH l:=by
    intro l;induction l with
    |nil=>intro _;exact Int.le_refl _
    |cons x l ih=>
     intro h;have:=ih λy hy=>h y (by simp[hy])
     have:=h x (by simp);rw[List.filter_cons];split
     ·rw[fZ,fZ];omega
     ·rw[fZ];omega
   exact this _ hmp
  have ea:∀W',aD Tryz.prog .add 3 false false (.int .i64 (eH (pre.filter (iE sec)))) (.int .i64 r.many) W'=some (.int .i64 (eH (pre.filter (iE sec))+r.many),W'):=λW'=>aU (by omega) (by omega)
  simp only[SX,f3,f8,YR hse,iJ (o:=0) hb rfl,Nat.zero_add];by_cases t1:(r.sec:Int)=sec;case neg=>have hin:iE sec r=false:=decide_eq_false t1;simp only[SX,t1,aB];exact⟨Nat.le_refl _,trivial,.inl ⟨trivial,h1,by rw[xX hin];exact h2,by rw[xX hin];exact h3⟩⟩
  have hin:iE sec r=true:=decide_eq_true t1;have hms3:eH (pre.filter (iE sec)++[r])=eH (pre.filter (iE sec))+r.many:=by rw[oO,fZ,nL,Int.add_zero]
  simp only[SX,decide_eq_true t1,f5,YR h3];by_cases t2:eH (pre.filter (iE sec))=0
  ·have hnil:pre.filter (iE sec)=[]:=by rw[t2]at hms;exact List.length_eq_zero_iff.1 (by omega)
   have hb':rwCells (W'.put W2.next (.cells [.int .i64 r.first])) b=some (aEd r):=by rw[fM _ (by omega)];exact hb
   simp only[SX,decide_eq_true t2,f4,f5,f8,iJ (o:=2) hb rfl,iJ (o:=3) hb' rfl,Nat.zero_add,stI h2,YR ((e3 _ _).trans h3),ea,stI ((e3 _ _).trans h3),aB];exact⟨Nat.le_refl _,by rw[AW.get_put_ne _ _ (by omega),AW.get_put_ne _ _ (by omega)],.inl ⟨trivial,(h1.put (by omega) _).put (by omega) _,by rw[e2,mO hin,hnil];rfl,by rw[gU,mO hin,hms3]⟩⟩
  ·have hne:pre.filter (iE sec)≠[]:=λe=>t2 (by rw[e];rfl)
   simp only[SX,t2,f4,f5,f8,iJ (o:=3) hb rfl,Nat.zero_add,YR h3,ea,stI h3,aB];exact⟨Nat.le_refl _,by rw[AW.get_put_ne _ _ (by omega)],.inl ⟨trivial,h1.put (by omega) _,by rw[fM _ (by omega),mO hin,a5H hne];exact h2,by rw[gU,mO hin,hms3]⟩⟩
 ·rintro x W6 (⟨rfl,h1,h2,h3⟩|⟨_,h⟩);case inr=>exact h.elim
  have k2:rwCells (W6.kill W5.next) W2.next=some [.int .i64 (a2Q ((gW v.secs).filter (iE sec)))]:=by rw[a3p (by omega)];exact h2
  have k3:rwCells (W6.kill W5.next) W3.next=some [.int .i64 (eH ((gW v.secs).filter (iE sec)))]:=by rw[a3p (by omega)];exact h3
  simp only[SX,YR k3];by_cases t2:eH ((gW v.secs).filter (iE sec))=0
  ·simp only[SX,decide_eq_true t2,if_pos t2,stI k2,stI ((e3 _ _).trans k3),O6,oL3,YR (e2 _ _ _),YR (gU _),Option.bind_some,aB];exact⟨trivial,(((l02.trans h1).kill (by omega)).put (by omega) _).put (by omega) _⟩
  ·have hag:p8 true (some (.int .i64 (eH ((gW v.secs).filter (iE sec))),(W6.kill W5.next).put W2.next (.cells [.int .i64 (a2Q ((gW v.secs).filter (iE sec)))]))) (.int .i64 (eH ((gW v.secs).filter (iE sec))))=true:=a7V rfl (qK _ _);simp only[SX,t2,if_neg t2,YR k2,YR k3,stI k2,YR ((e3 _ _).trans k3),hag,Bool.and_self,stI ((e3 _ _).trans k3),O6,oL3,YR (e2 _ _ _),YR (gU _),Option.bind_some,aB];exact⟨by simp only[if_false],(((l02.trans h1).kill (by omega)).put (by omega) _).put (by omega) _⟩
theorem ld3{b:Nat}{x y z:Value}{W:AW}(h:rwCells W b=some [x,y,z]):bH 3 (.pointer (some ⟨b,0,none⟩)) W=some (.agg #[x,y,z],W):=sS (fB h) rfl
def aEx(v:Ven)(seat:Int):Plc×Int:=if(ZW v seat).2=0 then(((ZW v seat).1.sec,(ZW v seat).1.row,(seat-(ZW v seat).1.first).toNat),0)else((0,0,0),(ZW v seat).2)
abbrev aE2(p:Plc):Value:=.agg #[.int .i64 (p.1:Int),.int .i64 (p.2.1:Int),.int .i64 (p.2.2:Int)]
theorem Plcs.get{W:AW}{v:Value}{l:List Plc}(h:Plcs W v l){i:Nat}(hi:i<l.length):∃b o,(∀W' k,gL 3 v (.int k (i:Int)) W'=some (.pointer (some ⟨b,o,none⟩),W'))/\
 ∀W',Le W W'->aL (.pointer (some ⟨b,o,none⟩)) W'=some (.int .i64 (l[i].1:Int),W')/\aL (.pointer (some ⟨b,o+1,none⟩)) W'=some (.int .i64 (l[i].2.1:Int),W')/\bH 3 (.pointer (some ⟨b,o,none⟩)) W'=some (aE2 l[i],W'):=by
 obtain⟨a,c,rfl,h⟩:=h;rcases h with rfl|⟨b,o,cs,rfl,hb,hc,hat⟩
 ·simp at hi
 ·refine⟨b,o+i*3,λW' k=>mZ hi,λW' hle=>?_⟩;have hc':=(hle.cellsAt hb).trans hc;obtain⟨h1,h2,h3⟩:=hat i hi;refine⟨bY hc' h1,bY hc' h2,?_⟩;have:=a6E h1 h2 h3;rw[EQ,hc',Option.bind_some,this];rfl
theorem V8(b:Bool):aS undef b=false:=Eq.trans (by unfold aS undef;rfl) rfl
def WZ{α:Type}(p:α->Bool)(l:List α):Nat:=if(l.filter p).length=0 then 0 else l.findIdx p
theorem a5G{α:Type}{p:α->Bool}{l:List α}{a:α}:WZ p (l++[a])=if p a=true/\(l.filter p).length=0 then l.length else WZ p l:=by
 unfold WZ;cases ha:p a with
 |false=>rw[xX ha];simp only[Bool.false_eq_true,false_and,if_false];by_cases h:(l.filter p).length=0
         ·rw[if_pos h,if_pos h]
         ·rw[if_neg h,if_neg h];have:l.findIdx p<l.length:=by rw[List.findIdx_lt_length];obtain⟨x,hx⟩:=List.exists_mem_of_length_pos (Nat.pos_of_ne_zero h);exact⟨x,(List.mem_filter.1 hx).1,(List.mem_filter.1 hx).2⟩
          rw[List.findIdx_append,if_pos this]
 |true=>
  rw[mO ha];by_cases h:(l.filter p).length=0
  ·simp only[h,and_self,if_true,List.length_append,List.length_cons,List.length_nil];have hn:l.findIdx p=l.length:=by
    rw[List.findIdx_eq_length];intro x hx;cases hp:p x with
    |false=>rfl
    |true=>have:x∈l.filter p:=List.mem_filter.2 ⟨hx,hp⟩;rw[List.length_eq_zero_iff.1 h]at this;cases this
   rw[if_neg (by omega),List.findIdx_append,if_neg (by omega)];simp[List.findIdx_cons,ha]
  ·simp only[h,and_false,if_false];have:l.findIdx p<l.length:=by rw[List.findIdx_lt_length];obtain⟨x,hx⟩:=List.exists_mem_of_length_pos (Nat.pos_of_ne_zero h);exact⟨x,(List.mem_filter.1 hx).1,(List.mem_filter.1 hx).2⟩
   rw[if_neg (by rw[List.length_append];simp),List.findIdx_append,if_pos this]
def eX(sec:Int)(q:Plc):Bool:=decide ((q.1:Int)=sec)
def wC(v:Ven)(sec:Int):Int×Int×Int:=if(lW v).2=0 then
 if((lQ v.secs).filter (eX sec)).length=0 then(0,0,4)else((WZ (eX sec) (lQ v.secs):Nat),(((lQ v.secs).filter (eX sec)).length:Nat),0)
 else(0,0,(lW v).2)
theorem aAa{v:Ven}{sv:Value}{W:AW}{sec:Int}(hs:Secs W sv v.secs)(hv:v.secs.length<1000)(hr:∀s∈v.secs,s.rows.length<1000):aK (.func (.func 213) #[] #[]) [kR v sv,.int .i64 sec,.int .i64 (-1)] W=some (.tuple #[.int .i64 (wC v sec).1,.int .i64 (wC v sec).2.1,.int .i64 (wC v sec).2.2],W):=by
 refine aN rfl ?_ TU;unfold SC wC;obtain⟨W1,hB,hle,hn,c4,c0,c3⟩:=JO v sv W;simp only[SX,hB,c4 _ (.refl _),WQ (hs.mono hle) hv hr];by_cases he:(lW v).2=0;case neg=>simp only[SX,he,if_false,aB];exact⟨trivial,hle⟩
 obtain⟨hg,-⟩:=fT he;obtain⟨r,W2,q1,q2,q3⟩:=KV (hs.mono hle) hg;have hpl:=xJ hg;have htm:=V9 hg;simp only[SX,decide_eq_true he,if_pos he,c4 _ (.refl _),q1];have add1:∀(k:Nat) (W':AW),k<1000000->aD Tryz.prog .add 3 false true (.int .i64 (k:Int)) (.int .i64 1) W'=some (.int .i64 ((k+1:Nat):Int),W'):=λk W' hk=>aU (by omega) (by omega)
 generalize hl:lQ v.secs=l at *;have hcb:∀i,((l.take i).filter (eX sec)).length<=l.length:=λi=>Nat.le_trans (List.length_filter_le _ _) (by rw[List.length_take];omega)
 refine bD l.length (by omega) (λi R W'=>W'=W2/\R 1=.int .i64 sec/\R 2=.int .i64 (-1)/\R 11=.int .i64 ((WZ (eX sec) (l.take i):Nat):Int)/\R 12=.int .i64 (((l.take i).filter (eX sec)).length:Int)/\R 13=r/\R 14=.int .i64 (i:Int))
  (λq=>q.2.2=W2/\q.1=.exit 0/\q.2.1 11=.int .i64 ((WZ (eX sec) l:Nat):Int)/\q.2.1 12=.int .i64 ((l.filter (eX sec)).length:Int)) ⟨rfl,rfl,rfl,rfl,rfl,rfl,rfl⟩ ?_ ?_ ?_
 ·rintro i R W' hi ⟨rfl,f1,f2,f11,f12,f13,f14⟩;unfold vP;have e1:((i:Int)<(l.length:Int)):=by omega
  obtain⟨b,o,p1,p2⟩:=q3.get hi;obtain⟨p3,p4,p5⟩:=p2 W' (.refl _);have ht:l.take (i+1)=l.take i++[l[i]]:=by rw[List.take_add_one,List.getElem?_eq_getElem hi];rfl
  have hti:(l.take i).length=i:=by rw[List.length_take];omega
  have hfs:=a5G (p:=eX sec) (l:=l.take i) (a:=l[i]);rw[hti,<-ht]at hfs;simp only[SX,f1,f2,f13,f14,q3.len a9q,e1,p1,Nat.add_zero,p3];by_cases t1:(l[i].1:Int)=sec;case neg=>have hp:eX sec l[i]=false:=decide_eq_false t1;rw[hp]at hfs;simp only[Bool.false_eq_true,false_and,if_false]at hfs;simp only[SX,t1,V8,f14,add1 i _ (by omega),aB];exact .inl ⟨trivial,trivial,f1,f2,by rw[hfs];exact f11,by rw[ht,xX hp];exact f12,f13,rfl⟩
  have hp:eX sec l[i]=true:=decide_eq_true t1;rw[hp]at hfs;simp only[true_and]at hfs;have hc:=hcb i;simp only[SX,decide_eq_true t1,f2,decide_true,f12];by_cases t2:((l.take i).filter (eX sec)).length=0
  ·have t3:(((l.take i).filter (eX sec)).length:Int)=0:=by omega
   rw[if_pos t2]at hfs;simp only[SX,decide_eq_true t3,f12,f14,add1 i _ (by omega),add1 ((l.take i).filter (eX sec)).length _ (by omega),aB];refine .inl ⟨trivial,trivial,f1,f2,by rw[hfs];rfl,?_,f13,rfl⟩;rw[ht,mO hp,List.length_append];rfl
  ·have t3:¬(((l.take i).filter (eX sec)).length:Int)=0:=by omega
   rw[if_neg t2]at hfs;simp only[SX,t3,f12,f14,add1 i _ (by omega),add1 ((l.take i).filter (eX sec)).length _ (by omega),aB];refine .inl ⟨trivial,trivial,f1,f2,by rw[hfs];exact f11,?_,f13,rfl⟩;rw[ht,mO hp,List.length_append];rfl
 ·rintro R W' ⟨rfl,f1,f2,f11,f12,f13,f14⟩;unfold vP;have e1:¬((l.length:Int)<(l.length:Int)):=by omega
  rw[List.take_length]at f11 f12;simp only[SX,f13,f14,q3.len a9q,e1,aB];exact⟨by simp,trivial,trivial,f11,f12⟩
 ·rintro⟨x,R,W'⟩ ⟨hW,hx,f11,f12⟩;simp only at hW hx f11 f12;subst hW;subst hx;simp only[SX,f12];by_cases t2:(l.filter (eX sec)).length=0
  ·have t3:((l.filter (eX sec)).length:Int)=0:=by omega
   simp only[SX,decide_eq_true t3,if_pos t2,aB];exact⟨trivial,hle.trans q2⟩
  ·have t3:¬((l.filter (eX sec)).length:Int)=0:=by omega
   simp only[SX,t3,if_neg t2,f11,f12,aB];exact⟨trivial,hle.trans q2⟩
theorem a7Q{v:Ven}{sv:Value}{W:AW}{sec:Int}(hs:Secs W sv v.secs)(hv:v.secs.length<1000)(hr:∀s∈v.secs,s.rows.length<1000):aK (.func (.func 155) #[] #[]) [kR v sv,.int .i64 sec] W=some (.tuple #[.int .i64 (wC v sec).1,.int .i64 (wC v sec).2.1,.int .i64 (wC v sec).2.2],W):=by refine aN rfl ?_ YZ;unfold a1b;obtain⟨W1,hB,hle,hn,c4,c0,c3⟩:=JO v sv W;simp only[SX,hB,c4 _ (.refl _),aAa (hs.mono hle) hv hr,aB];exact⟨trivial,hle⟩
def vK(r:RowT):List Plc:=zO r.sec r.row r.many.toNat
theorem L9(r:RowT):(vK r).length=r.many.toNat:=by simp[vK,zO]
theorem UO{sec:Int}{r:RowT}(h:iE sec r=true):∀q∈vK r,eX sec q=true:=by intro q hq;unfold vK zO at hq;obtain⟨j,_,rfl⟩:=List.mem_map.1 hq;exact h
theorem a0T{sec:Int}{r:RowT}(h:iE sec r=false):∀q∈vK r,eX sec q=false:=by intro q hq;unfold vK zO at hq;obtain⟨j,_,rfl⟩:=List.mem_map.1 hq;exact h
theorem GQ{sec:Int}:∀{L:List RowT},(∀r∈L,1<=r.many)->(((L.flatMap vK).filter (eX sec)).length:Int)=eH (L.filter (iE sec))
 |[],_=>rfl
 |r::L,hm=>by
  have hr:=hm r (by simp);have ih:=GQ (sec:=sec) (L:=L) (λy hy=>hm y (by simp[hy]));rw[List.flatMap_cons,List.filter_append,List.length_append,List.filter_cons];cases h:iE sec r with
  |true=>rw[if_pos rfl,fZ,<-ih,List.filter_eq_self.2 (UO h),L9];omega
  |false=>rw[if_neg (by simp),<-ih,List.filter_eq_nil_iff.2 (λq hq=>by rw[a0T h q hq];simp)];simp
theorem I5{sec:Int}:∀{L:List RowT} {s:Int} {r0:RowT} {l0:List RowT},Firsts s L->(∀r∈L,1<=r.many)->L.filter (iE sec)=r0::l0->s+((L.flatMap vK).findIdx (eX sec):Int)=r0.first
 |[],_,_,_,_,_,h=>by cases h
 |r::L,s,r0,l0,⟨hf,hF⟩,hm,h=>by
  have hr:=hm r (by simp);rw[List.flatMap_cons];rw[List.filter_cons]at h;cases hs:iE sec r with
  |true=>
   rw[hs,if_pos rfl]at h;injection h with h1 h2;subst h1;have:((vK r++L.flatMap vK).findIdx (eX sec))=0:=by
    cases hc:vK r with
    |nil=>have:=L9 r;rw[hc]at this;simp at this;omega
    |cons q l=>have:=UO hs q (by rw[hc];simp);rw[List.cons_append,List.findIdx_cons,this];rfl
   rw[this];omega
  |false=>
   rw[hs,if_neg (by simp)]at h;have ih:=I5 hF (λy hy=>hm y (by simp[hy])) h;have hn:(vK r).findIdx (eX sec)=(vK r).length:=by rw[List.findIdx_eq_length];intro x hx;exact a0T hs x hx
   rw[List.findIdx_append,hn,if_neg (by omega),L9];omega
theorem a8T(v:Ven)(sec:Int):wC v sec=CP v sec:=by
 unfold wC CP;by_cases he:(lW v).2=0;case neg=>rw[if_neg he,if_neg he]
 rw[if_pos he,if_pos he];obtain⟨hg,-⟩:=fT he;have hm:∀x∈gW v.secs,1<=x.many:=λx hx=>((BI hx).many hg).1
 have hc:=GQ (sec:=sec) hm;have hpl:(gW v.secs).flatMap vK=lQ v.secs:=(a0F v.secs).symm;rw[hpl]at hc;by_cases h0:((lQ v.secs).filter (eX sec)).length=0
 ·rw[if_pos h0,if_pos (by omega)]
 ·rw[if_neg h0,if_neg (by omega)];have hf:((WZ (eX sec) (lQ v.secs):Nat):Int)=a2Q ((gW v.secs).filter (iE sec)):=by
   unfold WZ;rw[if_neg h0];cases hl:(gW v.secs).filter (iE sec)with
   |nil=>rw[hl]at hc;rw[nL]at hc;omega
   |cons r l=>have:=I5 (LX v.secs) hm hl;rw[hpl]at this;show _=r.first;omega
  rw[hf,hc]
def aCn(v:Ven)(seat:Int):Plc×Int:=if(bX v).2=0 then(if seat<0\/(bX v).1<=seat then((0,0,0),4)else((lQ v.secs).getD seat.toNat (0,0,0),0))else((0,0,0),(bX v).2)
end Go.Proofs.YtnigceddndemkaaGreatDoor
namespace Go.Proofs.YtnigceddndemkaaGreatDoor.Ho
open Go Go.Eng Go.Hp
set_option maxRecDepth 100000
theorem a94{o t:Option (Value×AW)}{v:Value}{W W':AW}(hv:(bB v&& !isU v)=false)(h:Ok t λr=>r=(v,W'))(hom:∀{r},t=some r->o=some (gc W r)):o=some (v,W'):=by obtain⟨r,h1,rfl⟩:=h;rw[hom h1,eG hv]
theorem Gr.mono{W W':AW}{A B:Nat->Prop}(h:Gr W W' A)(hs:∀b,A b->B b):Gr W W' B:=⟨h.next,λb hb hn=>h.get b hb λha=>hn (hs b ha)⟩
theorem Le.gr{W W':AW}(h:Le W W')(In:Nat->Prop):Gr W W' In:=⟨h.next,λb hb _=>h.get b hb⟩
structure St where
 q:Nat
 mh:Nat
 hm:Nat
 nx:Int
 n:Nat
 f:Nat->En
abbrev St.es(s:St):List (Int×Int):=xU s.n s.f
abbrev HT(W:AW)(In:Nat->Prop)(H:Nat)(many:Nat)(s:St):Prop:=HS W In H s.q s.mh s.hm (many:Int) s.nx s.n s.f
def SlS(W:AW)(B:Nat)(v:Value)(xs:List SeT):Prop:=(xs=[]/\v=.slice none 0 0)\/(xs≠[]/\B<W.next/\v=.slice (some ⟨B,0,none⟩) xs.length (dH+5)/\W.get B=some (.cells (xs.flatMap dP)))
section
variable {W W':AW} {B:Nat} {v:Value} {xs:List SeT}
theorem SlS.keep(h:SlS W B v xs)(hn:W.next<=W'.next)(hg:xs≠[]->W'.get B=W.get B):SlS W' B v xs:=by
 rcases h with h|⟨h0,h1,h2,h3⟩
 ·exact .inl h
 ·exact .inr ⟨h0,by omega,h2,by rw[hg h0];exact h3⟩
theorem SlS.lt(h:SlS W B v xs)(h0:xs≠[]):B<W.next:=by
 rcases h with⟨h,-⟩|⟨-,h1,-⟩
 ·exact absurd h h0
 ·exact h1
theorem SlS.ix(h:SlS W B v xs){j:Nat}{x:SeT}(hj:xs[j]? =some x)(W':AW)(k:IntKind):gL 5 v (.int k (j:Int)) W'=some (.pointer (some ⟨B,j*5,none⟩),W'):=by
 obtain⟨hi,-⟩:=List.getElem?_eq_some_iff.1 hj;rcases h with⟨rfl,-⟩|⟨h0,h1,rfl,h3⟩
 ·simp at hi
 ·have:=mZ (W:=W') (z:=5) (b:=B) (o:=0) (l:=xs.length) (c:=dH+5) (i:=j) (k:=k) hi;rwa [Nat.zero_add]at this
theorem SlS.cells(h:SlS W B v xs){j:Nat}{x:SeT}(hj:xs[j]? =some x):W.get B=some (.cells (xs.flatMap dP)):=by
 obtain⟨hi,-⟩:=List.getElem?_eq_some_iff.1 hj;rcases h with⟨rfl,-⟩|⟨h0,h1,rfl,h3⟩
 ·simp at hi
 ·exact h3
theorem SlS.all(h:SlS W B v xs){j:Nat}{x:SeT}(hj:xs[j]? =some x):bH 5 (.pointer (some ⟨B,j*5,none⟩)) W=some (lY x,W):=by rw[EQ,bK (h.cells hj)];simp only[Option.bind_some,V6 dX hj,dX,if_true]
theorem SlS.st(h:SlS W B v xs){j:Nat}{x:SeT}(hj:xs[j]? =some x):aL (.pointer (some ⟨B,j*5,none⟩)) W=some (.int .i64 x.st,W):=bY (bK (h.cells hj)) (pU (o:=0) dX hj (by omega))
theorem SlS.put(h:SlS W B v xs){j:Nat}{x:SeT}(hj:xs[j]? =some x)(y:SeT):cO 5 (.pointer (some ⟨B,j*5,none⟩)) (lY y) W=some (undef,W.put B (.cells ((xs.set j y).flatMap dP)))/\SlS (W.put B (.cells ((xs.set j y).flatMap dP))) B v (xs.set j y):=by
 obtain⟨hi,-⟩:=List.getElem?_eq_some_iff.1 hj;refine⟨?_,?_⟩
 ·have:=zL (n:=5) (b:=B) (o:=j*5) (v:=lY y) (h.cells hj) rfl (by show j*5+5<=_;rw[aZ dX];omega) rfl;rw[this];show some (undef,W.put B (.cells (jO (xs.flatMap dP) (j*5) (dP y))))=_;rw[zK dX hj]
 ·rcases h with⟨rfl,-⟩|⟨h0,h1,rfl,h3⟩
  ·simp at hi
  ·exact .inr ⟨λe=>h0 ((List.set_eq_nil_iff _ _).1 e),h1,by rw[List.length_set],AW.get_put _ _ _⟩
theorem SlS.row(h:SlS W B v xs):SeL W v xs:=by
 have:Lst 0 W 5 dP v xs:=by
  rcases h with h|⟨h0,h1,h2,h3⟩
  ·exact .inl h
  ·exact .inr ⟨h0,B,Nat.zero_le _,h1,h2,h3⟩
 exact Lst.seats this
end
structure Md where
 M:Nat
 SB:Nat
 k:Nat
 many:Nat
 v:Ven
 sv:Value
 W0:AW
 T:Nat->Nat
 H:Nat->Nat
 tv:Nat->Value
 A:Nat->Nat->Prop
 s:Nat->St
def shE(H:Nat->Nat)(tv:Nat->Value)(i:Nat):List Value:=[hP (H i),tv i]
theorem JF(H:Nat->Nat)(tv:Nat->Value)(i:Nat):(shE H tv i).length=2:=rfl
def shC(k:Nat)(H:Nat->Nat)(tv:Nat->Value):List Value:=(List.range k).flatMap (shE H tv)
abbrev mV(M:Nat):Value:=.pointer (some ⟨M,0,none⟩)
structure MapP (K:Nat->Prop) (V:AW) (d:Md) (l:List SeT) (e:Nat->List (Int×Int)):Prop where
 up:∀b,V.next<=b->K b
 mc:V.get d.M=some (.cells [.int .i64 d.v.sh,.int .i64 d.v.ttl,.int .i64 d.v.ses,d.sv,.int .i64 (d.many:Int),.slice (some ⟨d.SB,0,none⟩) d.k d.k])
 ml:d.M<V.next
 kM:K d.M
 sc:V.get d.SB=some (.cells (shC d.k d.H d.tv))
 sl:d.SB<V.next
 sk:K d.SB
 ne:d.SB≠d.M
 vk:d.v.sh=(d.k:Int)
 kp:1<=d.k/\d.k<=16
 mn:d.many<=4096
 ll:l.length<=d.many
 col:∀i,i<d.k->SlS V (d.T i) (d.tv i) (fF l d.k i)
 tk:∀i,i<d.k->fF l d.k i≠[]->K (d.T i)/\d.T i≠d.M/\d.T i≠d.SB
 tt:∀i j,i<d.k->j<d.k->fF l d.k i≠[]->fF l d.k j≠[]->d.T i=d.T j->i=j
 ho:∀i,i<d.k->HT V (d.A i) (d.H i) d.many (d.s i)
 al:∀i,i<d.k->∀b,d.A i b->b<V.next
 ak:∀i,i<d.k->∀b,d.A i b->K b
 am:∀i,i<d.k->∀b,d.A i b->b≠d.M/\b≠d.SB
 at_:∀i j,i<d.k->j<d.k->fF l d.k j≠[]->¬d.A i (d.T j)
 aa:∀i j,i<d.k->j<d.k->∀b,d.A i b->d.A j b->i=j
 es:∀i,i<d.k->(d.s i).es.Perm (e i)
 w0:Le d.W0 V
 wk:∀b,K b->d.W0.next<=b
 secs:SecsC d.W0 d.sv d.v.secs
section
variable {K:Nat->Prop} {V:AW} {d:Md} {l:List SeT} {e:Nat->List (Int×Int)}
theorem aEp:((#[137]:Array TypeId)[0]?).bind Tryz.prog.underlying=some (.slice 144):=by kernel_rfl
theorem MapP.l4(h:MapP K V d l e):aL (.pointer (some ⟨d.M,4,none⟩)) V=some (.int .i64 (d.many:Int),V):=iJ (bT h.mc) rfl
theorem MapP.l5(h:MapP K V d l e):aL (.pointer (some ⟨d.M,5,none⟩)) V=some (.slice (some ⟨d.SB,0,none⟩) d.k d.k,V):=iJ (bT h.mc) rfl
theorem MapP.lv(h:MapP K V d l e):bH 4 (.pointer (some ⟨d.M,0,none⟩)) V=some (kR d.v d.sv,V):=qD (bK h.mc) rfl
theorem zA(b k c:Nat)(W:AW):aG Tryz.prog .len #[137] 3 #[false] [.slice (some ⟨b,0,none⟩) k c] W=some (.int .i64 (k:Int),W):=jH aEp _ _ _
theorem a3I{k i:Nat}(H:Nat->Nat)(tv:Nat->Value)(hi:i<k):(shC k H tv)[i*2]? =some (hP (H i))/\(shC k H tv)[i*2+1]? =some (tv i):=by have hr:(List.range k)[i]? =some i:=List.getElem?_range hi;exact⟨pU (o:=0) (JF H tv) hr (by omega),pU (o:=1) (JF H tv) hr (by omega)⟩
theorem MapP.h0(h:MapP K V d l e){i:Nat}(hi:i<d.k):aL (.pointer (some ⟨d.SB,i*2,none⟩)) V=some (hP (d.H i),V):=iJ (bT h.sc) (a3I _ _ hi).1
theorem MapP.h1(h:MapP K V d l e){i:Nat}(hi:i<d.k):aL (.pointer (some ⟨d.SB,i*2+1,none⟩)) V=some (d.tv i,V):=iJ (bT h.sc) (a3I _ _ hi).2
theorem PO{b k i:Nat}(hi:i<k)(W:AW)(q:IntKind):gL 2 (.slice (some ⟨b,0,none⟩) k k) (.int q (i:Int)) W=some (.pointer (some ⟨b,i*2,none⟩),W):=by have:=mZ (W:=W) (z:=2) (b:=b) (o:=0) (l:=k) (c:=k) (i:=i) (k:=q) hi;rwa [Nat.zero_add]at this
theorem ZH(s k:Nat)(hk:0<k)(t:TypeId)(c d:Bool)(W:AW):aD Tryz.prog .rem t c d (.int .i64 (s:Int)) (.int .i64 (k:Int)) W=some (.int .i64 ((s % k:Nat):Int),W):=by rw[a1g (by omega)];rw[Int.tmod_eq_emod_of_nonneg (by omega)];rfl
theorem aEN(s k:Nat)(hk:0<k)(hs:s<9223372036854775808)(t:TypeId)(c d:Bool)(W:AW):aD Tryz.prog .quo t c d (.int .i64 (s:Int)) (.int .i64 (k:Int)) W=some (.int .i64 ((s/k:Nat):Int),W):=by rw[OI (by omega)];rw[Int.tdiv_eq_ediv_of_nonneg (by omega)];have h1:((s:Int)/(k:Int))=((s/k:Nat):Int):=rfl;have h2:s/k<=s:=Nat.div_le_self _ _;rw[h1];generalize s/k=q at *;rw[wX (by omega) (by omega)]
theorem u28:Tryz.prog.underlying 28=some (.pointer 139):=by kernel_rfl
theorem aEJ(b:Nat)(c d:Bool)(W:AW):aD Tryz.prog .neq 28 c d (.pointer (some ⟨b,0,none⟩)) (.pointer none) W=some (.bool true,W):=by unfold aD kJ jC;simp only[u28];rfl
theorem aBE(h:MapP K V d l e):aK (.func (.func 84) #[] #[]) [mV d.M] V=some (.bool true,V):=by refine aN rfl ?_ KX;unfold E5;have hk:decide ((0:Int)<(d.k:Int))=true:=decide_eq_true (by have:=h.kp.1;omega);simp only[SX,aEJ,aH,Nat.zero_add,h.l5,zA,hk,aB];exact⟨trivial,Le.refl _⟩
theorem PU(h:MapP K V d l e){s:Nat}{x:SeT}(hs:l[s]? =some x):aK (.func (.func 81) #[] #[]) [mV d.M,.int .i64 (s:Int)] V=some (.pointer (some ⟨d.T (s % d.k),s/d.k*5,none⟩),V):=by refine a94 rfl ?_ JJ;unfold DW;have hk:0<d.k:=h.kp.1;have hi:=Nat.mod_lt s hk;obtain⟨hlt,-⟩:=List.getElem?_eq_some_iff.1 hs;have:=h.ll;have:=h.mn;have hc:=NN hk hs;simp only[SX,aH,Nat.zero_add,h.l5,zA,ZH s d.k hk,PO hi,h.h1 hi,aEN s d.k hk (by omega),(h.col _ hi).ix hc,aB]
end
theorem HS.same{W W':AW}{In In':Nat->Prop}{H q mh hm:Nat}{se nx nx':Int}{n n':Nat}{f f':Nat->En}(h:HS W In H q mh hm se nx n f)(h':HS W' In' H q mh hm se nx' n' f')(hq:W'.get q=W.get q):nx=nx'/\n=n':=by
 obtain⟨⟨lv,bl,k1,-⟩,-⟩:=h.qs;obtain⟨⟨lv',bl',k1',-⟩,-⟩:=h'.qs;rw[k1.qc,k1'.qc]at hq;injection hq with hq;injection hq with hq;simp only[List.cons.injEq,and_true]at hq;obtain⟨e1,-,-,e2⟩:=hq;injection e2 with _ e2;refine⟨e2.symm,?_⟩;have p1:=k1.pile.sl;have p2:=k1'.pile.sl;rw[e1]at p2;cases p1 with
 |nil h=>cases p2 with
  |nil h'=>rw[h,h']
 |row b j h1 h2 h3=>cases p2 with
  |row b' j' h1' h2' h3'=>rfl
theorem HS.ql{W:AW}{In:Nat->Prop}{H q mh hm:Nat}{se nx:Int}{n:Nat}{f:Nat->En}(h:HS W In H q mh hm se nx n f):q<W.next:=by obtain⟨⟨lv,bl,k1,-⟩,-⟩:=h.qs;exact k1.lt
section
variable {K:Nat->Prop} {V V':AW} {d:Md} {l:List SeT} {e:Nat->List (Int×Int)}
theorem MapP.le(h:MapP K V d l e)(hl:Le V V'):MapP K V' d l e:=by
 have g:=λb hb=>hl.get b hb
 have hn:=hl.next
 exact{up:=λb hb=>h.up b (by omega),mc:=(g _ h.ml).trans h.mc,ml:=by have:=h.ml;omega,kM:=h.kM,sc:=(g _ h.sl).trans h.sc,sl:=by have:=h.sl;omega,sk:=h.sk,ne:=h.ne,vk:=h.vk,kp:=h.kp,mn:=h.mn,ll:=h.ll
       col:=λi hi=>(h.col i hi).keep hn λh0=>g _ ((h.col i hi).lt h0),tk:=h.tk,tt:=h.tt,ho:=λi hi=>(h.ho i hi).keep hn (λb hb _=>g b hb) (λb _ hx=>hx)
       al:=λi hi b hb=>by have:=h.al i hi b hb;omega
       ak:=h.ak,am:=h.am,at_:=h.at_,aa:=h.aa,es:=h.es,w0:=h.w0.trans hl,wk:=h.wk,secs:=h.secs}
theorem MapP.shift(h:MapP K V d l e)(hl:Le V V'):MapP (λb=>K b/\b<V.next\/V'.next<=b) V' d l e:=by
 have g:=λb hb=>hl.get b hb
 have hn:=hl.next
 exact{up:=λb hb=>.inr hb,mc:=(g _ h.ml).trans h.mc,ml:=by have:=h.ml;omega,kM:=.inl ⟨h.kM,h.ml⟩,sc:=(g _ h.sl).trans h.sc,sl:=by have:=h.sl;omega,sk:=.inl ⟨h.sk,h.sl⟩,ne:=h.ne,vk:=h.vk,kp:=h.kp,mn:=h.mn,ll:=h.ll
       col:=λi hi=>(h.col i hi).keep hn λh0=>g _ ((h.col i hi).lt h0),tk:=λi hi h0=>⟨.inl ⟨(h.tk i hi h0).1,(h.col i hi).lt h0⟩,(h.tk i hi h0).2⟩,tt:=h.tt,ho:=λi hi=>(h.ho i hi).keep hn (λb hb _=>g b hb) (λb _ hx=>hx)
       al:=λi hi b hb=>by have:=h.al i hi b hb;omega
       ak:=λi hi b hb=>.inl ⟨h.ak i hi b hb,h.al i hi b hb⟩,am:=h.am,at_:=h.at_,aa:=h.aa,es:=h.es,w0:=h.w0.trans hl
       wk:=λb hb=>by
        rcases hb with hb|hb
        ·exact h.wk b hb.1
        ·have:=h.w0.next;omega
       secs:=h.secs}
theorem MapP.weak{K':Nat->Prop}(h:MapP K V d l e)(hk:∀b,K b->K' b)(hw:∀b,K' b->d.W0.next<=b):MapP K' V d l e:=
 {h with up:=λb hb=>hk b (h.up b hb),kM:=hk _ h.kM,sk:=hk _ h.sk,tk:=λi hi h0=>⟨hk _ (h.tk i hi h0).1,(h.tk i hi h0).2⟩,ak:=λi hi b hb=>hk b (h.ak i hi b hb),wk:=hw}
theorem MapP.ent{e':Nat->List (Int×Int)}(h:MapP K V d l e)(he:∀i,i<d.k->(e i).Perm (e' i)):MapP K V d l e':={h with es:=λi hi=>(h.es i hi).trans (he i hi)}
theorem MapP.back{K':Nat->Prop}{U:AW}{l':List SeT}{e':Nat->List (Int×Int)}(hU:MapP K' U d l e)(h:MapP K V' d l' e')(hne:∀i,i<d.k->fF l' d.k i≠[]->fF l d.k i≠[])(hg:Le U V'):MapP K' U d l' e':=by
 have hc:∀i,i<d.k->SlS U (d.T i) (d.tv i) (fF l' d.k i):=λi hi=>by
  rcases h.col i hi with k|⟨k0,k1,k2,k3⟩
  ·exact .inl k
  ·have ht:=(hU.col i hi).lt (hne i hi k0);exact .inr ⟨k0,ht,k2,(hg.get _ ht).symm.trans k3⟩
 exact{hU with ll:=h.ll,col:=hc,tk:=λi hi h0=>hU.tk i hi (hne i hi h0),tt:=λi j hi hj h0 h1=>hU.tt i j hi hj (hne i hi h0) (hne j hj h1),at_:=λi j hi hj h0=>hU.at_ i j hi hj (hne j hj h0),es:=h.es}
def Md.on(d:Md)(i:Nat)(V V':AW)(s':St):Md:={d with A:=λj b=>if j=i then(d.A i b\/V.next<=b)/\b<V'.next else d.A j b,s:=λj=>if j=i then s' else d.s j}
theorem MapP.on(h:MapP K V d l e){i:Nat}(hi:i<d.k):HT V (λb=>d.A i b\/V.next<=b) (d.H i) d.many (d.s i)/\(∀b,(d.A i b\/V.next<=b)->K b)/\
 ∀V' s' ei,Gr V V' (λb=>d.A i b\/V.next<=b)->HT V' (λb=>d.A i b\/V.next<=b) (d.H i) d.many s'->s'.es.Perm ei->MapP K V' (d.on i V V' s') l (λj=>if j=i then ei else e j):=by
 have hik:∀b,(d.A i b\/V.next<=b)->K b:=λb hb=>by
  rcases hb with hb|hb
  ·exact h.ak i hi b hb
  ·exact h.up b hb
 refine⟨(h.ho i hi).keep (Nat.le_refl _) (λ_ _ _=>rfl) (λb _ hb=>.inl hb),hik,λV' s' ei g hs he=>?_⟩;have hn:=g.next;have gM:V'.get d.M=V.get d.M:=g.get _ h.ml λhx=>by
  rcases hx with hx|hx
  ·exact(h.am i hi _ hx).1 rfl
  ·have:=h.ml;omega
 have gS:V'.get d.SB=V.get d.SB:=g.get _ h.sl λhx=>by
  rcases hx with hx|hx
  ·exact(h.am i hi _ hx).2 rfl
  ·have:=h.sl;omega
 have gT:∀j,j<d.k->fF l d.k j≠[]->V'.get (d.T j)=V.get (d.T j):=λj hj h0=>g.get _ ((h.col j hj).lt h0) λhx=>by
  rcases hx with hx|hx
  ·exact h.at_ i j hi hj h0 hx
  ·have:=(h.col j hj).lt h0;omega
 have hA:∀j b,(d.on i V V' s').A j b->(j=i/\(d.A i b\/V.next<=b)/\b<V'.next)\/(j≠i/\d.A j b):=λj b hb=>by
  have hb':(if j=i then(d.A i b\/V.next<=b)/\b<V'.next else d.A j b):=hb;split at hb'
  ·rename_i c;exact .inl ⟨c,hb'⟩
  ·rename_i c;exact .inr ⟨c,hb'⟩
 have hx:∀j,j<d.k->∀b,(d.on i V V' s').A j b->(b<V.next/\d.A j b)\/(j=i/\V.next<=b/\b<V'.next):=λj hj b hb=>by
  rcases hA j b hb with⟨rfl,h1|h1,h2⟩|⟨c,h1⟩
  ·exact .inl ⟨h.al j hj b h1,h1⟩
  ·exact .inr ⟨rfl,h1,h2⟩
  ·exact .inl ⟨h.al j hj b h1,h1⟩
 refine{up:=λb hb=>h.up b (by omega),mc:=gM.trans h.mc,ml:=by have:=h.ml;exact Nat.lt_of_lt_of_le this hn,kM:=h.kM,sc:=gS.trans h.sc,sl:=Nat.lt_of_lt_of_le h.sl hn,sk:=h.sk,ne:=h.ne,vk:=h.vk,kp:=h.kp,mn:=h.mn,ll:=h.ll,col:=λj hj=>(h.col j hj).keep hn (gT j hj),tk:=h.tk,tt:=h.tt,ho:=?_,al:=?_,ak:=?_,am:=?_,at_:=?_,aa:=?_,es:=?_,w0:=?_,wk:=h.wk,secs:=h.secs}
 ·intro j hj;by_cases c:j=i
  ·subst c;show HT V' (λb=>if j=j then _ else _) (d.H j) d.many (if j=j then s' else d.s j);simp only[if_true];exact hs.keep (Nat.le_refl _) (λ_ _ _=>rfl) (λb hb hx=>⟨hx,hb⟩)
  ·show HT V' (λb=>if j=i then _ else d.A j b) (d.H j) d.many (if j=i then s' else d.s j);simp only[if_neg c];exact(h.ho j hj).keep hn (λb hb hx=>g.get b hb λhy=>by
    rcases hy with hy|hy
    ·exact c (h.aa j i hj hi b hx hy)
    ·omega) (λb _ hx=>hx)
 ·intro j hj b hb;rcases hx j hj b hb with⟨h1,-⟩|⟨-,-,h1⟩
  ·omega
  ·exact h1
 ·intro j hj b hb;rcases hx j hj b hb with⟨-,h1⟩|⟨-,h1,-⟩
  ·exact h.ak j hj b h1
  ·exact h.up b h1
 ·intro j hj b hb;rcases hx j hj b hb with⟨-,h1⟩|⟨-,h1,-⟩
  ·exact h.am j hj b h1
  ·exact⟨by have:=h.ml;show b≠d.M;omega,by have:=h.sl;show b≠d.SB;omega⟩
 ·intro j m hj hm h0 hb;rcases hx j hj _ hb with⟨-,h1⟩|⟨-,h1,-⟩
  ·exact h.at_ j m hj hm h0 h1
  ·have:=(h.col m hm).lt h0;exact absurd h1 (by show¬V.next<=d.T m;omega)
 ·intro j m hj hm b hb hb2;rcases hx j hj _ hb with⟨h0,h1⟩|⟨h0,h1,-⟩<;>rcases hx m hm _ hb2 with⟨h2,h3⟩|⟨h2,h3,-⟩
  ·exact h.aa j m hj hm b h1 h3
  ·omega
  ·omega
  ·rw[h0,h2]
 ·intro j hj;show((if j=i then s' else d.s j):St).es.Perm (if j=i then ei else e j);by_cases c:j=i
  ·rw[if_pos c,if_pos c];exact he
  ·rw[if_neg c,if_neg c];exact h.es j hj
 ·refine⟨Nat.le_trans h.w0.next hn,λb hb=>(g.get b (Nat.lt_of_lt_of_le hb h.w0.next) λhy=>?_).trans (h.w0.get b hb)⟩;exact absurd hb (Nat.not_lt.2 (h.wk b (hik b hy)))
theorem MapP.set(h:MapP K V d l e){s:Nat}{x:SeT}(hs:l[s]? =some x)(y:SeT):
 ∃V',cO 5 (.pointer (some ⟨d.T (s % d.k),s/d.k*5,none⟩)) (lY y) V=some (undef,V')/\MapP K V' d (l.set s y) e/\Gr V V' K/\V'.next=V.next/\∀b,b≠d.T (s % d.k)->V'.get b=V.get b:=by
 have hk:0<d.k:=h.kp.1;have hi:=Nat.mod_lt s hk;obtain⟨hlt,-⟩:=List.getElem?_eq_some_iff.1 hs;have hc:=NN hk hs;have h0:fF l d.k (s % d.k)≠[]:=λc=>by rw[c]at hc;simp at hc
 obtain⟨p1,p2⟩:=(h.col _ hi).put hc y;have hcol:∀i,i<d.k->fF (l.set s y) d.k i=if s % d.k=i then(fF l d.k i).set (s/d.k) y else fF l d.k i:=λi hi=>a00 hi hlt
 have hnil:∀i,i<d.k->(fF (l.set s y) d.k i≠[]<->fF l d.k i≠[]):=λi hi=>by
  rw[hcol i hi];split
  ·rw[ne_eq,List.set_eq_nil_iff]
  ·exact Iff.rfl
 have tK:=h.tk _ hi h0;have hg:∀b,b≠d.T (s % d.k)->(V.put (d.T (s % d.k)) (.cells (((fF l d.k (s % d.k)).set (s/d.k) y).flatMap dP))).get b=V.get b:=λb hb=>AW.get_put_ne _ _ λc=>hb c.symm
 refine⟨_,p1,?_,⟨Nat.le_refl _,λb hb hn=>hg b λc=>hn (by rw[c];exact tK.1)⟩,rfl,hg⟩
 exact{h with
  mc:=(hg _ λc=>tK.2.1 c.symm).trans h.mc,sc:=(hg _ λc=>tK.2.2 c.symm).trans h.sc,ll:=by rw[List.length_set];exact h.ll
  col:=λi hi'=>by
   rw[hcol i hi'];by_cases c:s % d.k=i
   ·subst c;rw[if_pos rfl];exact p2
   ·rw[if_neg c];exact(h.col i hi').keep (Nat.le_refl _) λh1=>hg _ λe=>c (h.tt i (s % d.k) hi' hi h1 h0 e).symm
  tk:=λi hi' h1=>h.tk i hi' ((hnil i hi').1 h1)
  tt:=λi j hi' hj h1 h2=>h.tt i j hi' hj ((hnil i hi').1 h1) ((hnil j hj).1 h2)
  ho:=λi hi'=>(h.ho i hi').keep (Nat.le_refl _) (λb hb hx=>hg b λc=>h.at_ i (s % d.k) hi' hi h0 (by rw[<-c];exact hx)) (λb _ hx=>hx)
  at_:=λi j hi' hj h1=>h.at_ i j hi' hj ((hnil j hj).1 h1)
  w0:=⟨h.w0.next,λb hb=>(hg b λc=>by have:=h.wk _ tK.1;omega).trans (h.w0.get b hb)⟩}
end
abbrev jX(k i:Nat):Nat->Bool:=λj=>j % k==i
abbrev XI(k i s:Nat):Nat->Bool:=λj=>jX k i j&& !(j==s)
theorem a6t{l:List SeT}{k i s:Nat}{p:Int×Int}(h:p∈bQ l (XI k i s)):p.1≠(s:Int):=by
 obtain⟨j,h1,h2,h3,rfl⟩:=kS.1 h;intro c;have:j=s:=by have c':(j:Int)=(s:Int):=c;omega
 simp[this]at h2
theorem aAt{l:List SeT}{k i s:Nat}(hs:s<l.length)(y:SeT):bQ (l.set s y) (XI k i s)=bQ l (XI k i s):=QW (by rw[List.length_set]) λj hj hp=>by rw[NR hs,if_neg];intro c;subst c;simp at hp
theorem aBI{l:List SeT}{k i s:Nat}(hs:s<l.length)(hi:s % k≠i)(y:SeT):bQ (l.set s y) (jX k i)=bQ l (jX k i):=QW (by rw[List.length_set]) λj hj hp=>by rw[NR hs,if_neg];intro c;subst c;exact hi (by simpa using hp)
theorem aBs{l:List SeT}{k s:Nat}(hs:s<l.length)(y:SeT):(bQ (l.set s y) (jX k (s % k))).Perm (if y.st=1 then((s:Int),y.dl)::bQ l (XI k (s % k) s)else bQ l (XI k (s % k) s)):=by
 have:=PH (l:=l.set s y) (p:=jX k (s % k)) (s:=s) (by rw[List.length_set];exact hs) (by simp);have e:mY (l.set s y) s=y:=by rw[NR hs,if_pos rfl]
 unfold O8 at this;rw[e]at this;have e2:=aAt (k:=k) (i:=s % k) hs y;unfold XI at e2;rw[e2]at this;exact this
def MapS(K:Nat->Prop)(V:AW)(M k many:Nat)(v:Ven)(W0:AW)(N:Int)(l:List SeT):Prop:=
 ∃d:Md,d.M=M/\d.k=k/\d.many=many/\d.v=v/\d.W0=W0/\(∀i,i<k->(d.s i).nx<=N)/\l.length=many/\(∀x,x∈l->vY x=0)/\MapP K V d l λi=>bQ l (jX k i)
section
variable {K:Nat->Prop} {V:AW} {d:Md} {l:List SeT} {e:Nat->List (Int×Int)}
theorem a3t(h:MapP K V d l e){i:Nat}(hi:i<d.k):(d.s i).n=(e i).length:=by have:=(h.es i hi).length_eq;rw[QH]at this;exact this
theorem a2h(h:MapP K V d l e){i:Nat}(hi:i<d.k){p:Int×Int}{r:List (Int×Int)}(hp:(e i).Perm (p::r))(hr:(e i).length<=4096):
 ∃V' s',aK (.func (.func 150) #[] #[]) [hP (d.H i),.int .i64 p.1] V=some (.tuple #[.int .i64 p.2,.int .i64 0],V')/\MapP K V' (d.on i V V' s') l (λj=>if j=i then r else e j)/\Gr V V' K/\s'.q=(d.s i).q/\s'.mh=(d.s i).mh/\s'.hm=(d.s i).hm/\s'.nx=(d.s i).nx/\s'.n+1=(d.s i).n:=by
 obtain⟨o1,o2,o3⟩:=h.on hi;have hn:=a3t h hi;have hm:p∈(d.s i).es:=((h.es i hi).trans hp).mem_iff.2 (List.mem_cons_self ..);obtain⟨x,hx,ex⟩:=J4.1 hm;have hes:=h.es i hi;generalize hs:d.s i=s at *;obtain⟨q,mh,hm',nx,n,f⟩:=s;obtain⟨m,rfl⟩:∃m,n=m+1:=⟨n-1,by simp only at hx;omega⟩;simp only at hn hx ex hes;obtain⟨V',g,k1,k2,k3,k4⟩:=a8n o1 hx (by omega);rw[ex]at k1 k3;refine⟨V',⟨q,mh,hm',nx,m,g⟩,k1,o3 V' ⟨q,mh,hm',nx,m,g⟩ r k4 k2 ?_,k4.mono o2,rfl,rfl,rfl,rfl,rfl⟩;exact List.Perm.cons_inv (k3.trans (hes.trans hp))
theorem K8(h:MapP K V d l e){i:Nat}(hi:i<d.k){p:Int×Int}(hp:∀x,x∈e i->x.1≠p.1)(hb:0<=p.1/\p.1<(d.many:Int)/\0<=p.2)(hr:(e i).length<=4096)(hnx:(d.s i).nx<1000000000000000):
 ∃V' s',aK (.func (.func 74) #[] #[]) [hP (d.H i),.int .i64 p.1,.int .i64 p.2] V=some (.int .i64 0,V')/\MapP K V' (d.on i V V' s') l (λj=>if j=i then p::e i else e j)/\Gr V V' K/\s'.q=(d.s i).q/\s'.mh=(d.s i).mh/\s'.hm=(d.s i).hm/\s'.nx=(d.s i).nx+1/\s'.n=(d.s i).n+1:=by
 obtain⟨o1,o2,o3⟩:=h.on hi;have hn:=a3t h hi;have hes:=h.es i hi;generalize hs:d.s i=s at *;obtain⟨q,mh,hm',nx,n,f⟩:=s;simp only at hn hes hnx;have G8:G8 (d.many:Int) p.1 p.2=false:=by unfold G8;rw[decide_eq_false (by omega),decide_eq_false (by omega),decide_eq_false (by omega)];rfl
 obtain⟨V',g,k1,k2,k3,k4⟩:=aAi o1 G8 (λx hx c=>hp _ (hes.mem_iff.1 (J4.2 ⟨x,hx,rfl⟩)) c) (show n<5000 by omega) hnx (λb hb=>.inr hb);exact⟨V',⟨q,mh,hm',nx+1,n+1,g⟩,k1,o3 V' ⟨q,mh,hm',nx+1,n+1,g⟩ _ k4 k2 (k3.trans (List.Perm.cons _ hes)),k4.mono o2,rfl,rfl,rfl,rfl,rfl⟩
theorem SF{K':Nat->Prop}{V':AW}{d':Md}{l':List SeT}{e':Nat->List (Int×Int)}(h:MapP K V d l e)(h':MapP K' V' d' l' e'){i:Nat}(hi:i<d.k)(hi':i<d'.k)(hH:d'.H i=d.H i)(hm:d'.many=d.many)(hq:(d'.s i).q=(d.s i).q)(hmh:(d'.s i).mh=(d.s i).mh)(hhm:(d'.s i).hm=(d.s i).hm)(hl:Le V V'):(d.s i).nx=(d'.s i).nx/\(d.s i).n=(d'.s i).n:=by have a:=h.ho i hi;have b:=h'.ho i hi';unfold HT at a b;rw[hH,hm,hq,hmh,hhm]at b;exact a.same b (hl.get _ a.ql)
end
section
variable {K:Nat->Prop} {V:AW} {M k many:Nat} {v:Ven} {W0:AW} {N:Int} {l:List SeT}
theorem vV(d:Md)(i:Nat)(V V':AW)(s':St)(j:Nat):(d.on i V V' s').s j=if j=i then s' else d.s j:=rfl
theorem a0k{d:Md}(hnx:∀i,i<d.k->(d.s i).nx<=N)(hlen:l.length=d.many)(hok:∀x,x∈l->vY x=0)(hM:MapP K V d l λi=>bQ l (jX d.k i)){s:Nat}{x y:SeT}(hs:l[s]? =some x)(hy:vY y=0)(hN:N<1000000000000000):
 ∃V',aK (.func (.func 82) #[] #[]) [mV d.M,.int .i64 (s:Int),lY y] V=some (.tuple #[],V')/\MapS K V' d.M d.k d.many d.v d.W0 (N+1) (l.set s y)/\Gr V V' K/\
  ∀(K':Nat->Prop) U,MapP K' U d l (λi=>bQ l (jX d.k i))->Le U V->Le U V'->MapP K' U d (l.set s y) λi=>bQ (l.set s y) (jX d.k i):=by
 have hk:0<d.k:=hM.kp.1;have hi:=Nat.mod_lt s hk;obtain⟨hlt,ex⟩:=List.getElem?_eq_some_iff.1 hs;have hmn:=hM.mn;have hx:vY x=0:=hok x (by rw[<-ex];exact List.getElem_mem _);have sx:mY l s=x:=EJ hs;have hdl:∀z:SeT,vY z=0->z.st=1->0<=z.dl:=λz hz h1=>by rw[I6 h1]at hz;split at hz<;>omega
 have hok':∀z,z∈l.set s y->vY z=0:=λz hz=>by
  rcases List.mem_or_eq_of_mem_set hz with c|c
  ·exact hok z c
  ·rw[c];exact hy
 have l1:Le V (V.add (.cells (dP y))):=(Le.refl _).add _;have g1:(V.add (.cells (dP y))).get V.next=some (.cells (dP y)):=AW.get_add _ _;have n1:(V.add (.cells (dP y))).next=V.next+1:=AW.add_next _ _;have p1:=hM.shift l1;have main:Ok (uH aK (mV d.M) (.int .i64 (s:Int)) (lY y) V) λr=>r.1=.tuple #[]/\MapS K r.2 d.M d.k d.many d.v d.W0 (N+1) (l.set s y)/\Gr V r.2 K/\∀(K':Nat->Prop) U,MapP K' U d l (λi=>bQ l (jX d.k i))->Le U V->Le U r.2->MapP K' U d (l.set s y) λi=>bQ (l.set s y) (jX d.k i):=by
  unfold uH;simp only[SX,BK,Nat.zero_add];generalize V.add (.cells (dP y))=V1 at *;obtain⟨K1,hK1⟩:∃K1:Nat->Prop,K1=λb=>K b/\b<V.next\/V1.next<=b:=⟨_,rfl⟩
  rw[<-hK1]at p1;have hK:∀b,K1 b->K b:=λb hb=>by
   rw[hK1]at hb;rcases hb with hb|hb
   ·exact hb.1
   ·exact hM.up b (by omega)
  have hKn:¬K1 V.next:=λhb=>by rw[hK1]at hb;rcases hb with hb|hb<;>omega
  have fin:∀(V2:AW) (d2:Md) (e2:Nat->List (Int×Int)),MapP K1 V2 d2 l e2->d2.M=d.M->d2.k=d.k->d2.many=d.many->d2.v=d.v->d2.W0=d.W0->d2.T=d.T->(∀i,i<d.k->(d2.s i).nx<=N+1)->Gr V1 V2 K1->
   (∀i,i<d.k->(e2 i).Perm (bQ (l.set s y) (jX d.k i)))->∃V3,cO 5 (.pointer (some ⟨d.T (s % d.k),s/d.k*5,none⟩)) (lY y) V2=some (undef,V3)/\MapP K1 V3 d2 (l.set s y) e2/\MapS K V3 d.M d.k d.many d.v d.W0 (N+1) (l.set s y)/\Gr V V3 K:=by
   intro V2 d2 e2 p2 eM ek em ev eW eT hn2 gr he2;obtain⟨V3,q1,q2,q3,q4,q5⟩:=p2.set hs y;rw[eT,ek]at q1;refine⟨V3,q1,q2,⟨d2,eM,ek,em,ev,eW,hn2,by rw[List.length_set];exact hlen,hok',?_⟩,?_⟩
   ·exact(q2.ent λi hi'=>he2 i (by rw[<-ek];exact hi')).weak hK (by rw[eW];exact hM.wk)
   ·have g0:Gr V V2 K:=⟨Nat.le_trans l1.next gr.next,λb hb hn=>(gr.get b (by omega) λc=>hn (hK b c)).trans (l1.get b hb)⟩;exact g0.trans (q3.mono hK)
  have box:∀V2,Gr V1 V2 K1->V2.get V.next=some (.cells (dP y)):=λV2 gr=>(gr.get _ (by omega) hKn).trans g1
  have aT:∀o V2,vsame (.pointer (some ⟨o,V2,none⟩)) (.pointer (some ⟨o,V2,none⟩))=true:=λo V2=>a5y _ _
  have hc:=NN hk hs;have hst:aL (.pointer (some ⟨d.T (s % d.k),s/d.k*5,none⟩)) V1=some (.int .i64 x.st,V1):=(p1.col _ hi).st hc;have at1:=PU p1 hs;have es0:(bQ l (jX d.k (s % d.k))).length<=4096:=Nat.le_trans (kV _ _) (by omega);have eb0:(bQ l (XI d.k (s % d.k) s)).length<=4096:=Nat.le_trans (kV _ _) (by omega);have hsp:=PH (l:=l) (p:=jX d.k (s % d.k)) (s:=s) hlt (by simp);rw[sx]at hsp;have hps:=aBs (k:=d.k) hlt y;have hoth:∀i,i<d.k->i≠s % d.k->(bQ l (jX d.k i)).Perm (bQ (l.set s y) (jX d.k i)):=λi _ hne=>by rw[aBI hlt (λc=>hne c.symm)]
  by_cases cx:x.st=1
  ·have dx:=decide_eq_true cx;rw[if_pos cx]at hsp;have hv:O8 l s=((s:Int),x.dl):=by unfold O8;rw[sx]
   rw[hv]at hsp;obtain⟨V2,s2,r1,p2,gr2,e1,e2,e3,e4,e5⟩:=a2h p1 hi hsp es0;have b2:=box V2 gr2;have hn2:∀i,i<d.k->((d.on (s % d.k) V1 V2 s2).s i).nx<=N:=λi hi'=>by
    rw[vV];split
    ·rw[e4];exact hnx _ hi
    ·exact hnx i hi'
   by_cases cy:y.st=1
   ·have dy:=decide_eq_true cy;rw[if_pos cy]at hps;have hi2:s % d.k<(d.on (s % d.k) V1 V2 s2).k:=hi;obtain⟨V3,s3,t1,p3,gr3,f1,f2,f3,f4,f5⟩:=K8 (p:=((s:Int),y.dl)) p2 hi2 (λz hz=>by rw[if_pos rfl]at hz;exact a6t hz) ⟨by show(0:Int)<=(s:Int);omega,by show(s:Int)<(d.many:Int);omega,hdl y hy cy⟩ (by rw[if_pos rfl];exact eb0) (by have:=hn2 _ hi;omega);have b3:=box V3 (gr2.trans gr3);have es3:∀i,i<d.k->((λj=>if j=s % d.k then((s:Int),y.dl)::(if s % d.k=s % d.k then bQ l (XI d.k (s % d.k) s)else bQ l (jX d.k (s % d.k)))else(if j=s % d.k then bQ l (XI d.k (s % d.k) s)else bQ l (jX d.k j))) i).Perm (bQ (l.set s y) (jX d.k i)):=λi hi'=>by
     by_cases c:i=s % d.k
     ·simp only[c,if_true];exact hps.symm
     ·simp only[if_neg c];exact hoth i hi' c
    obtain⟨V4,u1,u2,u3,u4⟩:=fin V3 _ _ p3 rfl rfl rfl rfl rfl rfl (λi hi'=>by
     rw[vV];split
     ·rw[f4,vV,if_pos rfl,e4];have:=hnx _ hi;omega
     ·have:=hn2 i hi';omega) (gr2.trans gr3) es3;have at3:aK (.func (.func 81) #[] #[]) [mV d.M,.int .i64 (s:Int)] V3=some (.pointer (some ⟨d.T (s % d.k),s/d.k*5,none⟩),V3):=PU p3 hs;have h02:aL (.pointer (some ⟨d.SB,s % d.k*2,none⟩)) V2=some (hP (d.H (s % d.k)),V2):=p2.h0 hi2;have t1':aK (.func (.func 74) #[] #[]) [hP (d.H (s % d.k)),.int .i64 (s:Int),.int .i64 y.dl] V2=some (.int .i64 0,V3):=t1;simp only[SX,aH,Nat.zero_add,Nat.add_zero,p1.l5,zA,ZH s d.k hk,PO hi,at1,hst,dx,p1.h0 hi,r1,eB b2,dy,h02,dZ b2,t1',bM b3,at3,dF,qU,Bool.and_true,u1,aB];refine⟨trivial,u3,u4,λK' U hU hUV hl=>?_⟩;have:=(SF hU u2 (i:=s % d.k) hi hi rfl rfl (by rw[vV,if_pos rfl,f1,vV,if_pos rfl,e1]) (by rw[vV,if_pos rfl,f2,vV,if_pos rfl,e2]) (by rw[vV,if_pos rfl,f3,vV,if_pos rfl,e3]) hl).1;rw[vV,if_pos rfl,f4,vV,if_pos rfl,e4]at this;omega
   ·have dy:=decide_eq_false cy;rw[if_neg cy]at hps;obtain⟨V4,u1,u2,u3,u4⟩:=fin V2 _ _ p2 rfl rfl rfl rfl rfl rfl (λi hi'=>by have:=hn2 i hi';omega) gr2 (λi hi'=>by
     by_cases c:i=s % d.k
     ·simp only[c,if_true];exact hps.symm
     ·simp only[if_neg c];exact hoth i hi' c);have at3:aK (.func (.func 81) #[] #[]) [mV d.M,.int .i64 (s:Int)] V2=some (.pointer (some ⟨d.T (s % d.k),s/d.k*5,none⟩),V2):=PU p2 hs;simp only[SX,aH,Nat.zero_add,Nat.add_zero,p1.l5,zA,ZH s d.k hk,PO hi,at1,hst,dx,p1.h0 hi,r1,eB b2,dy,bM b2,at3,dF,qU,Bool.and_true,u1,aB];refine⟨trivial,u3,u4,λK' U hU hUV hl=>?_⟩;have:=(SF hU u2 (i:=s % d.k) hi hi rfl rfl (by rw[vV,if_pos rfl,e1]) (by rw[vV,if_pos rfl,e2]) (by rw[vV,if_pos rfl,e3]) hl).2;rw[vV,if_pos rfl]at this;omega
  ·have dx:=decide_eq_false cx;rw[if_neg cx]at hsp;by_cases cy:y.st=1
   ·have dy:=decide_eq_true cy;rw[if_pos cy]at hps;obtain⟨V3,s3,t1,p3,gr3,f1,f2,f3,f4,f5⟩:=K8 (p:=((s:Int),y.dl)) p1 hi (λz hz=>a6t (hsp.mem_iff.1 hz)) ⟨by show(0:Int)<=(s:Int);omega,by show(s:Int)<(d.many:Int);omega,hdl y hy cy⟩ es0 (by have:=hnx _ hi;omega);have b3:=box V3 gr3;obtain⟨V4,u1,u2,u3,u4⟩:=fin V3 _ _ p3 rfl rfl rfl rfl rfl rfl (λi hi'=>by
     rw[vV];split
     ·rw[f4];have:=hnx _ hi;omega
     ·have:=hnx i hi';omega) gr3 (λi hi'=>by
     by_cases c:i=s % d.k
     ·simp only[c,if_true];exact(List.Perm.cons _ hsp).trans hps.symm
     ·simp only[if_neg c];exact hoth i hi' c);have at3:aK (.func (.func 81) #[] #[]) [mV d.M,.int .i64 (s:Int)] V3=some (.pointer (some ⟨d.T (s % d.k),s/d.k*5,none⟩),V3):=PU p3 hs;have t1':aK (.func (.func 74) #[] #[]) [hP (d.H (s % d.k)),.int .i64 (s:Int),.int .i64 y.dl] V1=some (.int .i64 0,V3):=t1;simp only[SX,aH,Nat.zero_add,Nat.add_zero,p1.l5,zA,ZH s d.k hk,PO hi,at1,hst,dx,eB g1,dy,p1.h0 hi,dZ g1,t1',bM b3,at3,dF,qU,Bool.and_true,u1,aB];refine⟨trivial,u3,u4,λK' U hU hUV hl=>?_⟩;have:=(SF hU u2 (i:=s % d.k) hi hi rfl rfl (by rw[vV,if_pos rfl,f1]) (by rw[vV,if_pos rfl,f2]) (by rw[vV,if_pos rfl,f3]) hl).2;rw[vV,if_pos rfl]at this;omega
   ·have dy:=decide_eq_false cy;rw[if_neg cy]at hps;obtain⟨V4,u1,u2,u3,u4⟩:=fin V1 d _ p1 rfl rfl rfl rfl rfl rfl (λi hi'=>by have:=hnx i hi';omega) (Gr.refl _ _) (λi hi'=>by
     by_cases c:i=s % d.k
     ·rw[c];exact hsp.trans hps.symm
     ·exact hoth i hi' c);simp only[SX,aH,Nat.zero_add,Nat.add_zero,p1.l5,zA,ZH s d.k hk,PO hi,at1,hst,dx,eB g1,dy,bM g1,dF,qU,Bool.and_true,u1,aB];refine⟨trivial,u3,u4,λK' U hU hUV hl=>?_⟩;refine hU.back (u2.ent λi hi'=>?_) (λi hi' h0=>?_) hl
    ·by_cases c:i=s % d.k
     ·rw[c];exact hsp.trans hps.symm
     ·exact hoth i hi' c
    ·intro c;apply h0;rw[a00 hi' hlt,c];split<;>rfl
 obtain⟨⟨r,V'⟩,h1,h2,h3,h4,h5⟩:=main;simp only at h2 h3 h4 h5;subst h2;exact⟨V',by rw[GJ h1,eG rfl],h3,h4,h5⟩
theorem a9S(h:MapS K V M k many v W0 N l){s:Nat}{x y:SeT}(hs:l[s]? =some x)(hy:vY y=0)(hN:N<1000000000000000):
 ∃V',aK (.func (.func 82) #[] #[]) [mV M,.int .i64 (s:Int),lY y] V=some (.tuple #[],V')/\MapS K V' M k many v W0 (N+1) (l.set s y)/\Gr V V' K:=by
 obtain⟨d,rfl,rfl,rfl,rfl,rfl,hnx,hlen,hok,hM⟩:=h;obtain⟨V',h1,h2,h3,-⟩:=a0k hnx hlen hok hM hs hy hN;exact⟨V',h1,h2,h3⟩
end
theorem a7C(W:AW):dG Tryz.prog 38 [] W=some (lY CS,W):=Eq.trans (by kernel_rfl) rfl
theorem a3S(W:AW):dG Tryz.prog 42 [] W=some (jQ (0,0),W):=Eq.trans (by kernel_rfl) rfl
theorem aDJ(W:AW):∃W1,aW Tryz.prog 38 W=some (.pointer (some ⟨W.next,0,none⟩),W1)/\Le W W1/\W1.next=W.next+1/\W1.get W.next=some (.cells (dP CS)):=⟨_,aBb W,(Le.refl _).add _,AW.add_next _ _,AW.get_add _ _⟩
def K7(n:Int)(many:Nat):Int:=if n<0\/(many:Int)<=n then 4 else 0
def dQ(i:Int)(k:Nat)(now:Int):Int:=if i<0\/(k:Int)<=i then 4 else if now<0 then 7 else 0
section
variable {K:Nat->Prop} {V:AW} {M k many:Nat} {v:Ven} {W0:AW} {N:Int} {l:List SeT}
theorem MapS.le{V':AW}(h:MapS K V M k many v W0 N l)(hl:Le V V'):MapS K V' M k many v W0 N l:=by obtain⟨d,a,b,c,e,f,g,i,j,p⟩:=h;exact⟨d,a,b,c,e,f,g,i,j,p.le hl⟩
theorem MapS.shift{V':AW}(h:MapS K V M k many v W0 N l)(hl:Le V V'):MapS (λb=>K b/\b<V.next\/V'.next<=b) V' M k many v W0 N l:=by obtain⟨d,a,b,c,e,f,g,i,j,p⟩:=h;exact⟨d,a,b,c,e,f,g,i,j,p.shift hl⟩
theorem MapS.weak{K':Nat->Prop}(h:MapS K V M k many v W0 N l)(hk:∀b,K b->K' b)(hw:∀b,K' b->W0.next<=b):MapS K' V M k many v W0 N l:=by obtain⟨d,a,b,c,e,rfl,g,i,j,p⟩:=h;exact⟨d,a,b,c,e,rfl,g,i,j,p.weak hk hw⟩
theorem MapS.up(h:MapS K V M k many v W0 N l){b:Nat}(hb:V.next<=b):K b:=by obtain⟨d,-,-,-,-,-,-,-,-,p⟩:=h;exact p.up b hb
theorem MapS.wk(h:MapS K V M k many v W0 N l){b:Nat}(hb:K b):W0.next<=b:=by obtain⟨d,-,-,-,-,rfl,-,-,-,p⟩:=h;exact p.wk b hb
theorem MapS.grow{N':Int}(h:MapS K V M k many v W0 N l)(hN:N<=N'):MapS K V M k many v W0 N' l:=by obtain⟨d,a,b,c,e,f,g,i,j,p⟩:=h;exact⟨d,a,b,c,e,f,λi hi=>Int.le_trans (g i hi) hN,i,j,p⟩
theorem MapS.len(h:MapS K V M k many v W0 N l):l.length=many:=by obtain⟨d,a,b,c,e,f,g,i,j,p⟩:=h;exact i
theorem MapS.kp(h:MapS K V M k many v W0 N l):1<=k/\k<=16:=by obtain⟨d,a,rfl,c,e,f,g,i,j,p⟩:=h;exact p.kp
theorem MapS.mn(h:MapS K V M k many v W0 N l):many<=4096:=by obtain⟨d,a,b,rfl,e,f,g,i,j,p⟩:=h;exact p.mn
theorem MapS.vk(h:MapS K V M k many v W0 N l):v.sh=(k:Int):=by obtain⟨d,a,rfl,c,rfl,f,g,i,j,p⟩:=h;exact p.vk
theorem MapS.ok(h:MapS K V M k many v W0 N l){x:SeT}(hx:x∈l):vY x=0:=by obtain⟨d,a,b,c,e,f,g,i,j,p⟩:=h;exact j x hx
theorem TZ(h:MapS K V M k many v W0 N l):aK (.func (.func 84) #[] #[]) [mV M] V=some (.bool true,V):=by obtain⟨d,rfl,-,-,-,-,-,-,-,p⟩:=h;exact aBE p
theorem sM4(h:MapS K V M k many v W0 N l):aL (.pointer (some ⟨M,4,none⟩)) V=some (.int .i64 (many:Int),V):=by obtain⟨d,rfl,-,rfl,-,-,-,-,-,p⟩:=h;exact p.l4
theorem sM5(h:MapS K V M k many v W0 N l):∃B,aL (.pointer (some ⟨M,5,none⟩)) V=some (.slice (some ⟨B,0,none⟩) k k,V):=by obtain⟨d,rfl,rfl,-,-,-,-,-,-,p⟩:=h;exact⟨_,p.l5⟩
theorem Q5(h:MapS K V M k many v W0 N l)(n:Int):aK (.func (.func 95) #[] #[]) [mV M,.int .i64 n] V=some (.int .i64 (K7 n many),V):=by
 refine aN rfl ?_ FB;unfold zD;unfold K7;by_cases c1:n<0
 ·have d1:=decide_eq_true c1;rw[if_pos (.inl c1)];simp only[SX,nP,nQ,TZ h,d1,aB];exact⟨trivial,Le.refl _⟩
 ·have d1:=decide_eq_false c1;by_cases c2:(many:Int)<=n
  ·have d2:=decide_eq_true c2;rw[if_pos (.inr c2)];simp only[SX,nP,nQ,TZ h,d1,d2,aH,Nat.zero_add,sM4 h,aB];exact⟨trivial,Le.refl _⟩
  ·have d2:=decide_eq_false c2;rw[if_neg (by omega)];simp only[SX,nP,nQ,TZ h,d1,d2,aH,Nat.zero_add,sM4 h,aB];exact⟨trivial,Le.refl _⟩
theorem C9(h:MapS K V M k many v W0 N l)(i now:Int):aK (.func (.func 75) #[] #[]) [mV M,.int .i64 i,.int .i64 now] V=some (.int .i64 (dQ i k now),V):=by
 refine aN rfl ?_ DT;unfold xE;unfold dQ;obtain⟨B,hB⟩:=sM5 h;by_cases c1:i<0
 ·have d1:=decide_eq_true c1;rw[if_pos (.inl c1)];simp only[SX,nP,nQ,TZ h,d1,aB];exact⟨trivial,Le.refl _⟩
 ·have d1:=decide_eq_false c1;by_cases c2:(k:Int)<=i
  ·have d2:=decide_eq_true c2;rw[if_pos (.inr c2)];simp only[SX,nP,nQ,TZ h,d1,d2,aH,Nat.zero_add,hB,zA,aB];exact⟨trivial,Le.refl _⟩
  ·have d2:=decide_eq_false c2;rw[if_neg (by omega)];by_cases c3:now<0
   ·have d3:=decide_eq_true c3;simp only[SX,nP,nQ,TZ h,d1,d2,d3,aH,Nat.zero_add,hB,zA,if_pos c3,aB];exact⟨trivial,Le.refl _⟩
   ·have d3:=decide_eq_false c3;simp only[SX,nP,nQ,TZ h,d1,d2,d3,aH,Nat.zero_add,hB,zA,if_neg c3,aB];exact⟨trivial,Le.refl _⟩
theorem a15(h:MapS K V M k many v W0 N l):aK (.func (.func 34) #[] #[]) [mV M] V=some (.int .i64 (k:Int),V):=by refine aN rfl ?_ zV;unfold vL;obtain⟨B,hB⟩:=sM5 h;simp only[SX,TZ h,aH,Nat.zero_add,hB,zA,aB];exact⟨trivial,Le.refl _⟩
theorem sAt(h:MapS K V M k many v W0 N l){s:Nat}{x:SeT}(hs:l[s]? =some x):∃b o,aK (.func (.func 81) #[] #[]) [mV M,.int .i64 (s:Int)] V=some (.pointer (some ⟨b,o,none⟩),V)/\bH 5 (.pointer (some ⟨b,o,none⟩)) V=some (lY x,V)/\aL (.pointer (some ⟨b,o,none⟩)) V=some (.int .i64 x.st,V):=by obtain⟨d,rfl,rfl,-,-,-,-,-,-,p⟩:=h;have hk:0<d.k:=p.kp.1;have hc:=NN hk hs;have hi:=Nat.mod_lt s hk;exact⟨_,_,PU p hs,(p.col _ hi).all hc,(p.col _ hi).st hc⟩
def a1o(l:List SeT)(n:Int):SeT:=if K7 n l.length=0 then mY l n.toNat else CS
theorem XM{n:Int}{m:Nat}(h:K7 n m=0):∃s:Nat,n=(s:Int)/\s<m:=by
 unfold K7 at h;split at h
 ·omega
 ·rename_i c;exact⟨n.toNat,by omega,by omega⟩
theorem aAj(h:MapS K V M k many v W0 N l)(n:Int):aK (.func (.func 29) #[] #[]) [mV M,.int .i64 n] V=some (.tuple #[lY (a1o l n),.int .i64 (K7 n l.length)],V):=by
 refine aN rfl ?_ HY;unfold zY;obtain⟨V1,k1,l1,n1,g1⟩:=aDJ V;have h1:=h.le l1;have hlen:=h.len;have st:=λy=>a2M (x:=y) g1
 have ld:=λy=>bM (x:=y) (W:=V1.put V.next (.cells (dP y))) (b:=V.next) (AW.get_put _ _ _)
 have hse:=Q5 h1 n;rw[<-hlen]at hse;unfold a1o;by_cases c:K7 n l.length=0
 ·have dc:=decide_eq_true c;obtain⟨s,rfl,hs⟩:=XM c;obtain⟨b,o,a1,a2,-⟩:=sAt h1 (iK hs);have d0:decide ((0:Int)=0)=true:=rfl;rw[c]at hse;simp only[SX,k1,hse,d0,a1,aH,a2,st,bF,DV,ld,Option.bind_some,aB];exact⟨by rw[c,if_pos rfl];rfl,l1.put (Nat.le_refl _) _⟩
 ·have dc:=decide_eq_false c;simp only[SX,k1,hse,dc,a7C,st,bF,DV,ld,Option.bind_some,aB];exact⟨by rw[if_neg c],l1.put (Nat.le_refl _) _⟩
def BP(l:List SeT)(n:Int)(y:SeT):Int:=if K7 n l.length≠0 then K7 n l.length else if vY y≠0 then 6 else 0
def jL(l:List SeT)(n:Int)(y:SeT):List SeT:=if BP l n y=0 then l.set n.toNat y else l
theorem a9N(h:MapS K V M k many v W0 N l)(n:Int)(y:SeT)(hN:N<1000000000000000):
 ∃V',aK (.func (.func 30) #[] #[]) [mV M,.int .i64 n,lY y] V=some (.int .i64 (BP l n y),V')/\MapS K V' M k many v W0 (N+1) (jL l n y)/\Gr V V' K:=by
 have hlen:=h.len;by_cases c:BP l n y=0;case neg=>
  refine⟨V,?_,?_,Gr.refl _ _⟩
  ·refine aN rfl ?_ oW;unfold oQ;have l1:Le V (V.add (.cells (dP y))):=(Le.refl _).add _;have g1:(V.add (.cells (dP y))).get V.next=some (.cells (dP y)):=AW.get_add _ _;simp only[SX,BK,Nat.zero_add];generalize V.add (.cells (dP y))=V1 at *;have hse:=Q5 (h.le l1) n;rw[<-hlen]at hse;unfold BP at c|-;by_cases c1:K7 n l.length=0
   ·have c0:¬K7 n l.length≠0:=λx=>x c1
    rw[if_neg c0]at c|-;have c2:vY y≠0:=λe=>by rw[if_neg (λx=>x e)]at c;exact c rfl
    rw[c1]at hse;have d0:decide ((0:Int)=0)=true:=rfl;have d1:=decide_eq_false c2;simp only[SX,hse,d0,bM g1,jM,d1,aB];exact⟨by rw[if_pos c2],l1⟩
   ·rw[if_pos c1];have d1:=decide_eq_false c1;simp only[SX,hse,d1,aB];exact⟨trivial,l1⟩
  ·unfold jL;rw[if_neg c];exact h.grow (by omega)
 have c1:K7 n l.length=0:=by apply Classical.byContradiction;intro x;unfold BP at c;rw[if_pos x]at c;exact x c
 have c2:vY y=0:=by apply Classical.byContradiction;intro x;unfold BP at c;rw[if_neg (λz=>z c1),if_pos x]at c;omega
 obtain⟨s,rfl,hs⟩:=XM c1;have hl':jL l (s:Int) y=l.set s y:=by unfold jL;rw[if_pos c];rfl
 rw[hl',c];obtain⟨d,rfl,rfl,rfl,rfl,rfl,hnx,-,hok,p⟩:=h;have main:Ok (oQ aK (mV d.M) (.int .i64 (s:Int)) (lY y) V) λr=>r.1=.int .i64 0/\MapS K r.2 d.M d.k d.many d.v d.W0 (N+1) (l.set s y)/\Gr V r.2 K/\(Le V r.2->MapS K V d.M d.k d.many d.v d.W0 (N+1) (l.set s y)):=by
  unfold oQ;have l1:Le V (V.add (.cells (dP y))):=(Le.refl _).add _;have g1:(V.add (.cells (dP y))).get V.next=some (.cells (dP y)):=AW.get_add _ _;simp only[SX,BK,Nat.zero_add];generalize V.add (.cells (dP y))=V1 at *;have p1:=p.le l1;have hS:MapS K V1 d.M d.k d.many d.v d.W0 N l:=⟨d,rfl,rfl,rfl,rfl,rfl,hnx,hlen,hok,p1⟩;have hse:=Q5 hS s;rw[<-hlen,c1]at hse;have d0:decide ((0:Int)=0)=true:=rfl;obtain⟨V',q1,q2,q3,q4⟩:=a0k hnx hlen hok p1 (iK hs) c2 hN;simp only[SX,hse,d0,bM g1,jM,c2,q1,aB];refine⟨trivial,q2,(Le.gr l1 K).trans q3,λhl=>⟨d,rfl,rfl,rfl,rfl,rfl,λi hi=>by have:=hnx i hi;omega,by rw[List.length_set];exact hlen,λz hz=>?_,q4 K V p l1 hl⟩⟩;rcases List.mem_or_eq_of_mem_set hz with c|c
  ·exact hok z c
  ·rw[c];exact c2
 obtain⟨⟨r,V'⟩,h1,h2,h3,h4,h5⟩:=main;simp only at h2 h3 h4 h5;subst h2;rcases zX (W:=V) (W':=V') (.int .i64 0)with hg|⟨hg,hle⟩
 ·exact⟨V',by rw[oW h1,hg],h3,h4⟩
 ·exact⟨V,by rw[oW h1,hg],h5 hle,Gr.refl _ _⟩
theorem MapS.hold(h:MapS K V M k many v W0 N l){i:Nat}(hi:i<k):∃B H tv T,aL (.pointer (some ⟨M,5,none⟩)) V=some (.slice (some ⟨B,0,none⟩) k k,V)/\(∃In s,HT V In H many s/\s.es.Perm (bQ l (jX k i)))/\aL (.pointer (some ⟨B,i*2,none⟩)) V=some (hP H,V)/\aL (.pointer (some ⟨B,i*2+1,none⟩)) V=some (tv,V)/\SlS V T tv (fF l k i):=by obtain⟨d,rfl,rfl,rfl,-,-,-,-,-,p⟩:=h;exact⟨_,_,_,_,p.l5,⟨_,_,p.ho i hi,p.es i hi⟩,p.h0 hi,p.h1 hi,p.col i hi⟩
end
section
variable {α:Type} {z:Nat} {f:α->List Value} {at_:List Value->Nat->α->Prop} {W:AW} {v:Value} {l:List α}
theorem GD(hf:∀a,(f a).length=z):∀(l:List α) (cs:List Value) (o:Nat),(∀i (h:i<l.length),(cs.drop (o+i*z)).take z=f l[i])->(cs.drop o).take (l.length*z)=l.flatMap f
 |[],cs,o,h=>by simp
 |a::l,cs,o,h=>by
  have h0:(cs.drop o).take z=f a:=by have:=h 0 (by simp);rw[Nat.zero_mul,Nat.add_zero]at this;exact this
  have ih:=GD hf l cs (o+z) λi hi=>by
   have h1:=h (i+1) (by simp;omega);have e:o+(i+1)*z=o+z+i*z:=by rw[Nat.add_mul,Nat.one_mul];omega
   rw[e]at h1;exact h1
  rw[List.length_cons,Nat.add_mul,Nat.one_mul,Nat.add_comm,List.take_add,h0,List.drop_drop,ih,List.flatMap_cons]
def OwnL(lo:Nat)(W:AW)(z:Nat)(f:α->List Value)(v:Value)(l:List α):Prop:=
 ∃B c,lo<=B/\B<W.next/\v=.slice (some ⟨B,0,none⟩) l.length c/\(l≠[]->W.get B=some (.cells (l.flatMap f)))
theorem OwnL.row{lo:Nat}(hf:∀a,(f a).length=z)(h:OwnL lo W z f v l)(hat:∀a pre post,at_ (pre++(f a++post)) pre.length a):Row W z at_ v l:=by
 obtain⟨B,c,h0,h1,rfl,h2⟩:=h;by_cases he:l=[]
 ·exact⟨_,c,rfl,.inl he⟩
 ·refine⟨_,c,rfl,.inr ⟨B,0,_,rfl,h1,bK (h2 he),λi hi=>?_⟩⟩;obtain⟨e1,e2⟩:=gD hf (List.getElem?_eq_getElem hi);rw[e1,Nat.zero_add,<-e2];exact hat _ _ _
theorem OwnL.one{lo:Nat}(h:OwnL lo W z f v l):Eng.one v=true:=by obtain⟨B,c,h0,h1,rfl,h2⟩:=h;rfl
theorem OwnL.same{lo:Nat}(h:OwnL lo W z f v l):SY v v=true:=by obtain⟨B,c,h0,h1,rfl,h2⟩:=h;exact pY _ _ _ _
theorem OwnL.mono{lo:Nat}{W':AW}(h:OwnL lo W z f v l)(hl:Le W W'):OwnL lo W' z f v l:=by obtain⟨B,c,h0,h1,rfl,h2⟩:=h;exact⟨B,c,h0,Nat.lt_of_lt_of_le h1 hl.next,rfl,λhe=>(hl.get _ h1).trans (h2 he)⟩
theorem IP{ts:Array TypeId}{bytes:Nat}(hk:nI Tryz.prog ts z bytes=true)(hf:∀a,(f a).length=z)(h1:∀a,(f a).all Eng.one=true)(h:Row W z at_ v l)(hat:∀cs p a,at_ cs p a->(cs.drop p).take z=f a)
 (hn:l.length<1099511627776)(hb:(2*l.length+192)*bytes<=281474976710656){b:Nat}(hbl:b<W.next):∃u W',bG Tryz.prog W ts (.slice (some ⟨b,0,none⟩) 0 0) v=some (u,W')/\Le W W'/\OwnL b W' z f u l:=by
 obtain⟨a,c,rfl,h⟩:=h;by_cases he:l=[]
 ·subst he;exact⟨_,W,AO hk (Nat.le_refl 0) (by omega) (by simpa using hb),.refl _,b,0,Nat.le_refl _,hbl,rfl,λx=>absurd rfl x⟩
 ·rcases h with h|⟨B,o,cs,rfl,h2,h3,h4⟩
  ·exact absurd h he
  ·have e:l.flatMap f=(cs.drop o).take (l.length*z):=(GD hf l cs o λi hi=>hat _ _ _ (h4 i hi)).symm;have hall:(l.flatMap f).all Eng.one=true:=by rw[List.all_flatMap,List.all_eq_true];exactλa _=>h1 a
   refine⟨_,_,GX hk h3 e (aZ hf l) (List.length_pos_iff.2 he) hall hn hb,(Le.refl _).add _,W.next,_,by omega,by rw[AW.add_next];omega,rfl,λ_=>AW.get_add _ _⟩
end
theorem u25:Tryz.prog.underlying 25=some (.slice 38):=by kernel_rfl
theorem aEv(c d:Bool)(l k:Nat)(W:AW):aD Tryz.prog .eql 25 c d (.slice none l k) (.slice none 0 0) W=some (.bool true,W):=by unfold aD kJ jC;simp only[u25];rfl
theorem aEw(c d:Bool)(a:Addr)(l k:Nat)(W:AW):aD Tryz.prog .eql 25 c d (.slice (some a) l k) (.slice none 0 0) W=some (.bool false,W):=by unfold aD kJ jC;simp only[u25]
theorem a2x{W:AW}{v:Value}{l:List SeT}(h:SeL W v l)(hn:l.length<=10000):∃u W',aK (.func (.func 76) #[] #[]) [v] W=some (u,W')/\Le W W'/\SeL W' u l:=by
 have hh:=h;obtain⟨a,c,rfl,h⟩:=h;cases a with
 |none=>
  have main:Ok (bV aK (.slice none l.length c) W) λr=>Le W r.2/\SeL r.2 r.1 l:=by
   unfold bV;simp only[SX,aEv,aB];rcases h with h|⟨b,o,cs,h1,-⟩
   ·exact⟨Le.refl _,none,0,by rw[h];rfl,.inl h⟩
   ·cases h1
  exact YE main gY
 |some a=>
  have main:Ok (bV aK (.slice (some a) l.length c) W) λr=>Le W r.2/\SeL r.2 r.1 l:=by unfold bV;have l1:Le W (W.add (.cells [])):=(Le.refl _).add _;have n1:(W.add (.cells [])).next=W.next+1:=AW.add_next _ _;simp only[SX,aEw,a7u];generalize W.add (.cells [])=W1 at *;obtain⟨u,W',k1,k2,k3⟩:=IP a4F dX CB (hh.mono l1) (λ_ _ _=>a3Q) (by omega) (by omega) (b:=W.next) (by omega);simp only[SX,k1,aB];exact⟨l1.trans k2,k3.row dX KE⟩
  exact YE main gY
theorem b25:(Tryz.prog.info? 38).map (·.bytes)=some 40:=by kernel_rfl
theorem t25:oH Tryz.prog 38=some 5:=by kernel_rfl
theorem z25:lZ Tryz.prog 38=some (lY CS):=by kernel_rfl
theorem a0Z(n:Nat):EE (dP CS) n=(List.replicate n CS).flatMap dP:=by
 induction n with
 |zero=>rfl
 |succ n ih=>show dP CS++EE (dP CS) n=_;rw[ih,List.replicate_succ,List.flatMap_cons]
theorem aBc{n:Nat}(h:n<=10000)(W:AW):jE Tryz.prog 25 (.int .i64 (n:Int)) (.int .i64 (n:Int)) W=some (.slice (some ⟨W.next,0,none⟩) n n,W.add (.cells ((List.replicate n CS).flatMap dP))):=by
 show jE Tryz.prog 25 (.int .i64 (Int.ofNat n)) (.int .i64 (Int.ofNat n)) W=_;unfold jE;have e:=Q0 (z:=lY CS) (len:=n) (n:=5) rfl;have e2:(lJ (lY CS) (n*5)).toList=(List.replicate n CS).flatMap dP:=by rw[e];exact a0Z n
 have e3:((List.replicate n CS).flatMap dP).all bZ=true:=by rw[<-a0Z];exact FM _ _ rfl n
 simp only[u25,t25,z25,b25];rw[e2,if_pos ⟨Nat.le_refl _,by omega,by omega,e3⟩]
section
variable {K:Nat->Prop} {V:AW} {M k many:Nat} {v:Ven} {W0:AW} {N:Int} {l:List SeT}
theorem SlS.own{W:AW}{B:Nat}{v:Value}{xs:List SeT}(h:SlS W B v xs):SeL W v xs:=h.row
def shL(l:List SeT)(k:Nat)(i:Int):List SeT:=if dQ i k 0=0 then fF l k i.toNat else []
theorem OX{i now:Int}{k:Nat}(h:dQ i k now=0):∃s:Nat,i=(s:Int)/\s<k/\0<=now:=by
 unfold dQ at h;split at h
 ·omega
 ·split at h
  ·omega
  ·rename_i c c2;exact⟨i.toNat,by omega,by omega,by omega⟩
theorem a5L(h:MapS K V M k many v W0 N l)(i:Int):∃u V',aK (.func (.func 18) #[] #[]) [mV M,.int .i64 i] V=some (.tuple #[u,.int .i64 (dQ i k 0)],V')/\Le V V'/\SeL V' u (shL l k i):=by
 have hse:=C9 h i 0;refine O5 ?_ D7;unfold xF;by_cases c:dQ i k 0=0
 ·have d1:=decide_eq_true c;obtain⟨s,rfl,hs,-⟩:=OX c;obtain⟨B,H,tv,T,b1,-,-,b3,b4⟩:=h.hold hs;have hl:(fF l k s).length<=10000:=by rw[iG];have h1:=h.len;have h2:=h.mn;have h3:=h.kp.1;unfold cnt;have:=Nat.div_le_self (l.length+k-1-s) k;have:=h.kp.2;omega
  obtain⟨u,V',k1,k2,k3⟩:=a2x b4.row hl;have d0:decide ((0:Int)=0)=true:=rfl;simp only[SX,hse,c,d0,aH,Nat.zero_add,Nat.add_zero,b1,PO hs,b3,k1,aB];refine⟨u,rfl,k2,?_⟩;unfold shL;rw[if_pos c];exact k3
 ·have d1:=decide_eq_false c;simp only[SX,hse,d1,aB];refine⟨_,rfl,Le.refl _,?_⟩;unfold shL;rw[if_neg c];exact Row.nil
def EW(l:List (Int×Int))(x:Int×Int):Prop:=x∈l/\∀y,y∈l->lM y x=false
theorem HS.first{W:AW}{In:Nat->Prop}{H q mh hm:Nat}{se nx:Int}{n:Nat}{f:Nat->En}(h:HS W In H q mh hm se nx n f)(hn:0<n):EW (xU n f) (IR n f):=by
 have hh:=h.qs.hp;refine⟨J4.2 ⟨0,hn,by unfold IR;rw[if_neg (by omega)]⟩,λy hy=>?_⟩;obtain⟨i,hi,rfl⟩:=J4.1 hy;unfold IR;rw[if_neg (by omega)];cases hc:lM (f i).v (f 0).v
 ·rfl
 ·exfalso;have hb:kD lM (f i) (f 0)=true:=by unfold kD;rw[hc];rfl
  have:=hh.first JE i hi;rw[hb]at this;cases this
def RS(l:List SeT)(k:Nat)(i:Int):Int:=if dQ i k 0≠0 then dQ i k 0 else if bQ l (jX k i.toNat)=[]then 4 else 0
theorem a6s(h:MapS K V M k many v W0 N l)(i:Int):∃x:Int×Int,aK (.func (.func 22) #[] #[]) [mV M,.int .i64 i] V=some (.tuple #[jQ x,.int .i64 (RS l k i)],V)/\(RS l k i≠0->x=(0,0))/\(RS l k i=0->EW (bQ l (jX k i.toNat)) x):=by
 have key:∃x:Int×Int,Ok (sJ aK (mV M) (.int .i64 i) V) λr=>(r.1=.tuple #[jQ x,.int .i64 (RS l k i)]/\Le V r.2)/\(RS l k i≠0->x=(0,0))/\(RS l k i=0->EW (bQ l (jX k i.toNat)) x):=by
  unfold sJ;have l1:Le V (V.add (.cells [.int .i64 0,.int .i64 0])):=(Le.refl _).add _;have g1:(V.add (.cells [.int .i64 0,.int .i64 0])).get V.next=some (.cells [.int .i64 0,.int .i64 0]):=AW.get_add _ _;simp only[SX,a2o];generalize V.add (.cells [.int .i64 0,.int .i64 0])=V1 at *;have h1:=h.le l1;have hse:=C9 h1 i 0;have st:=λy=>NE y g1
  have ld:=λy:Int×Int=>F7 (v:=y) (W:=V1.put V.next (.cells [.int .i64 y.1,.int .i64 y.2])) (b:=V.next) (AW.get_put _ _ _)
  have fin:∀o,Le V (V1.put V.next o):=λo=>l1.put (Nat.le_refl _) o
  by_cases c:dQ i k 0=0
  ·have d1:=decide_eq_true c;have en:RS l k i=if bQ l (jX k i.toNat)=[]then 4 else 0:=by unfold RS;rw[if_neg (λx=>x c)]
   obtain⟨s,rfl,hs,-⟩:=OX c;obtain⟨B,H,tv,T,b1,⟨In,q,b2,b5⟩,b3,b4,-⟩:=h1.hold hs;have hnx:=a7N b2;have hq:(q.n=0)=(bQ l (jX k s)=[]):=by have:=b5.length_eq;rw[QH]at this;apply propext;rw[<-List.length_eq_zero_iff];omega
   have d0:decide ((0:Int)=0)=true:=rfl;refine⟨IR q.n q.f,?_⟩;simp only[SX,hse,c,d0,aH,Nat.zero_add,Nat.add_zero,b1,PO hs,b3,hnx,st,bF,TG,ld,Option.bind_some,aB];refine⟨⟨?_,fin _⟩,?_,?_⟩
   ·rw[en];simp only[hq,Int.toNat_natCast]
   ·intro hne;rw[en]at hne;unfold IR;rw[if_pos];rw[hq];apply Classical.byContradiction;intro x;exact hne (if_neg x)
   ·intro he;rw[en]at he;have hne:¬bQ l (jX k s)=[]:=λx=>by have x':bQ l (jX k (s:Int).toNat)=[]:=x;rw[if_pos x']at he;omega
    have hn0:0<q.n:=by
     have:¬q.n=0:=by rw[hq];exact hne
     omega
    obtain⟨f1,f2⟩:=HS.first b2 hn0;exact⟨b5.mem_iff.1 f1,λy hy=>f2 y (b5.mem_iff.2 hy)⟩
  ·have d1:=decide_eq_false c;have en:RS l k i=dQ i k 0:=by unfold RS;rw[if_pos c]
   refine⟨(0,0),?_⟩;have ld0:bH 2 (.pointer (some ⟨V.next,0,none⟩)) (V1.put V.next (.cells [.int .i64 0,.int .i64 0]))=some (jQ (0,0),V1.put V.next (.cells [.int .i64 0,.int .i64 0])):=ld (0,0);simp only[SX,hse,d1,a3S,st,bF,TG,ld0,Option.bind_some,aB];exact⟨⟨by rw[en],fin _⟩,λ_=>trivial,λx=>absurd (en.symm.trans x) c⟩
 obtain⟨x,r,k1,⟨k2,k3⟩,k4⟩:=key;exact⟨x,aN rfl ⟨r,k1,k2,k3⟩ EK,k4⟩
def LH(l:List SeT)(i:Nat):List SeT:=l.take i++List.replicate (l.length-i) CS
theorem a6O(l:List SeT)(i:Nat):(LH l i).length=l.length:=by unfold LH;rw[List.length_append,List.length_take,List.length_replicate];omega
theorem a6z{l:List SeT}{i:Nat}(hi:i<l.length):(LH l i)[i]? =some CS/\(LH l i).set i (mY l i)=LH l (i+1):=by
 have e:l.length-i=(l.length-(i+1))+1:=by omega
 have hlen:(l.take i).length=i:=by rw[List.length_take];omega
 unfold LH;rw[e,List.replicate_succ];refine⟨by rw[List.getElem?_append_right (by omega),hlen,Nat.sub_self];rfl,?_⟩;rw[List.set_append_right _ _ (by omega),hlen,Nat.sub_self,List.set_cons_zero,List.take_add_one,iK hi];simp
theorem a7m(l:List SeT):LH l l.length=l:=by unfold LH;rw[List.take_length,Nat.sub_self,List.replicate_zero,List.append_nil]
theorem aBw(a:Option Addr)(n c:Nat)(W:AW):aG Tryz.prog .len #[25] 3 #[false] [.slice a n c] W=some (.int .i64 (n:Int),W):=jH jT _ _ _
theorem a8O(h:MapS K V M k many v W0 N l):∃u V',aK (.func (.func 26) #[] #[]) [mV M] V=some (u,V')/\Le V V'/\SeL V' u l:=by
 refine YE ?_ FK;unfold yS;have hmn:=h.mn;have hlen:=h.len;have l1:Le V (V.add (.cells ((List.replicate many CS).flatMap dP))):=(Le.refl _).add _;have n1:(V.add (.cells ((List.replicate many CS).flatMap dP))).next=V.next+1:=AW.add_next _ _;have g1:(V.add (.cells ((List.replicate many CS).flatMap dP))).get V.next=some (.cells ((List.replicate many CS).flatMap dP)):=AW.get_add _ _;simp only[SX,TZ h,aH,Nat.zero_add,Nat.add_zero,sM4 h,aBc (show many<=10000 by omega),aBw];generalize V.add (.cells ((List.replicate many CS).flatMap dP))=V1 at *;refine bD many (by omega) (λi R U=>U.next=V1.next/\Le V U/\U.get V.next=some (.cells ((LH l i).flatMap dP))/\R 0=mV M/\R 3=.slice (some ⟨V.next,0,none⟩) many many/\R 14=.int .i64 (many:Int)/\R 15=.int .i64 (i:Int))
  (λr=>r.1=.exit 0/\r.2.2.next=V1.next/\Le V r.2.2/\r.2.2.get V.next=some (.cells (l.flatMap dP))/\r.2.1 3=.slice (some ⟨V.next,0,none⟩) many many) ⟨rfl,l1,by rw[g1];unfold LH;rw[List.take_zero,hlen,Nat.sub_zero,List.nil_append],rfl,rfl,rfl,rfl⟩ ?_ ?_ ?_
 ·rintro i R U hi ⟨u1,u2,u3,r0,r3,r14,r15⟩;unfold mU;have t1:((i:Int)<(many:Int)):=by omega
  have t2:=λW'=>aU (P:=Tryz.prog) (W:=W') (t:=3) (c:=false) (d:=true) (a:=(i:Int)) (b:=1) (by omega) (by omega)
  have e3:((i+1:Nat):Int)=(i:Int)+1:=by omega
  obtain⟨b,o,a1,a2,-⟩:=sAt (h.le u2) (iK (l:=l) (j:=i) (by omega));have ix:=λW' q=>mZ (W:=W') (z:=5) (b:=V.next) (o:=0) (l:=many) (c:=many) (i:=i) (k:=q) hi
  obtain⟨x1,x2⟩:=a6z (l:=l) (i:=i) (by omega);have hst:=zL (n:=5) (b:=V.next) (o:=i*5) (v:=lY (mY l i)) u3 rfl (by show i*5+5<=_;rw[aZ dX,a6O];omega) rfl;have e4:jO ((LH l i).flatMap dP) (i*5) (dP (mY l i))=(LH l (i+1)).flatMap dP:=by rw[zK dX x1,x2]
  have hst':cO 5 (.pointer (some ⟨V.next,i*5,none⟩)) (lY (mY l i)) U=some (undef,U.put V.next (.cells ((LH l (i+1)).flatMap dP))):=by rw[hst,<-e4];rfl
  simp only[SX,r0,r3,r14,r15,t1,decide_true,a1,aH,a2,ix,Nat.zero_add,hst',t2,aB];exact .inl ⟨trivial,u1,u2.put (Nat.le_refl _) _,AW.get_put _ _ _,r0,r3,r14,by rw[e3];rfl⟩
 ·rintro R U ⟨u1,u2,u3,r0,r3,r14,r15⟩;unfold mU;have t1:¬((many:Int)<(many:Int)):=by omega
  simp only[SX,r14,r15,t1,decide_false,aB];exact⟨by simp,trivial,u1,u2,by rw[<-hlen,a7m]at u3;exact u3,r3⟩
 ·rintro⟨q,R,U⟩ ⟨rfl,u1,u2,u3,r3⟩;simp only at u1 u2 u3 r3;simp only[SX,r3,aB];refine⟨u2,OwnL.row (lo:=0) dX ⟨V.next,many,Nat.zero_le _,by omega,by rw[hlen],λ_=>u3⟩ KE⟩
end
theorem a3R(x y:SeT):x=y<->x.st=y.st/\x.ow=y.ow/\x.dl=y.dl/\x.se=y.se/\x.ep=y.ep:=by obtain⟨a,b,c,d,e⟩:=x;obtain⟨a',b',c',d',e'⟩:=y;simp
instance:DecidableEq SeT:=λx y=>decidable_of_iff _ (a3R x y).symm
theorem g38:Tryz.prog.eqGuardType Tryz.prog.depth 38=false:=by kernel_rfl
theorem q38(x y:SeT):a0C Tryz.prog 8 38 (lY x) (lY y)=a1z [(x.st,y.st),(x.ow,y.ow),(x.dl,y.dl),(x.se,y.se),(x.ep,y.ep)]:=by kernel_rfl
theorem a8p(x y:SeT):([(x.st,y.st),(x.ow,y.ow),(x.dl,y.dl),(x.se,y.se),(x.ep,y.ep)].all λp=>p.1==p.2)=decide (x=y):=by rw[Bool.eq_iff_iff,decide_eq_true_eq,a3R];simp
theorem aEl(x y:SeT)(c d:Bool)(W:AW):aD Tryz.prog .eql 38 c d (lY x) (lY y) W=some (.bool (decide (x=y)),W):=by have:=FY (W:=W) (c:=c) (d:=d) g38 ((q38 x y).trans (BG _));rw[this,a8p]
theorem aCX(x y:SeT)(c d:Bool)(W:AW):aD Tryz.prog .neq 38 c d (lY x) (lY y) W=some (.bool (!decide (x=y)),W):=by have:=IC (W:=W) (c:=c) (d:=d) g38 ((q38 x y).trans (BG _));rw[this,a8p]
theorem a0Q(a:Int×Int):lM a a=false:=by unfold lM;simp
theorem a81{a b c:Int×Int}(h1:lM a b=true)(h2:lM b c=true):lM a c=true:=by unfold lM at *;simp only[Bool.or_eq_true,Bool.and_eq_true,decide_eq_true_eq]at *;omega
theorem a8G{a b c:Int×Int}(h1:¬lM a b=true)(h2:¬lM b c=true):¬lM a c=true:=by unfold lM at *;simp only[Bool.or_eq_true,Bool.and_eq_true,decide_eq_true_eq]at *;omega
theorem a3s{a b:Int×Int}(h1:lM a b=false)(h2:lM b a=false):a=b:=by rw[Prod.ext_iff];unfold lM at *;simp only[Bool.or_eq_false_iff,Bool.and_eq_false_iff,decide_eq_false_iff_not]at *;omega
def Asc(l:List (Int×Int)):Prop:=l.Pairwise λa b=>lM b a=false
theorem a7M{l m:List (Int×Int)}(hp:l.Perm m)(hl:Asc l)(hm:Asc m):l=m:=
 hp.eq_of_pairwise (le:=λa b=>lM b a=false) (λa b _ _ h1 h2=>a3s h2 h1) hl hm
theorem aAo:xZ Tryz.prog 144:=⟨_,_,Tryz.func144,by kernel_rfl,rfl⟩
theorem a0R{V:AW}{l:List (Int×Int)}{B c:Nat}{rest:List Value}(h0:l≠[])(hl:l.length<=10000)(hB:V.get B=some (.cells (l.flatMap nT++rest))):∃l':List (Int×Int),l'.Perm l/\Asc l'/\aK (.func (.func 78) #[] #[]) [.slice (some ⟨B,0,none⟩) l.length c,.func (.func 144) #[] #[]] V=some (.tuple #[],V.put B (.cells (l'.flatMap nT++rest))):=by
 have hpos:0<l.length:=List.length_pos_iff.2 h0;have ol:=λa b=>(UX a b V).2.1
 have hO:OrdN l.length (λi j=>ZT (l.getD i (0,0)) (l.getD j (0,0))):=⟨λi _ h=>absurd ((ol _ _).1 h) (by rw[a0Q];decide),λi j k _ _ _ h1 h2=>(ol _ _).2 (a81 ((ol _ _).1 h1) ((ol _ _).1 h2)),λi j k _ _ _ h1 h2 h3=>a8G (λx=>h1 ((ol _ _).2 x)) (λx=>h2 ((ol _ _).2 x)) ((ol _ _).1 h3)⟩;obtain⟨l',e1,e2,e3⟩:=QE l nT (λa b=>lM a b) hO hpos λi j hi hj=>by rw[ol];simp[List.getD_eq_getElem?_getD,hi,hj]
 refine⟨l',e1,e2,CU ?_⟩;refine .inr ⟨B,c,l.map nT,rest,144,#[],λi j=>ZT (l.getD i (0,0)) (l.getD j (0,0)),⟨?_,?_,?_,?_,?_,?_,?_,?_,?_,aAo,?_,?_,?_⟩⟩
 ·intro h;have:=congrArg List.length h;rw[List.length_map]at this;simp at this;exact h0 this
 ·rw[List.length_map];omega
 ·intro r hr;obtain⟨e,-,rfl⟩:=List.mem_map.1 hr;rfl
 ·intro r hr v hv;obtain⟨e,-,rfl⟩:=List.mem_map.1 hr;simp only[nT,List.mem_cons,List.not_mem_nil,or_false]at hv;rcases hv with rfl|rfl<;>rfl
 ·rw[List.length_map]
 ·rw[a3L];exact hB
 ·intro r hr v hv;obtain⟨e,-,rfl⟩:=List.mem_map.1 hr;simp only[nT,List.mem_cons,List.not_mem_nil,or_false]at hv;exact BN (by rcases hv with rfl|rfl<;>rfl)
 ·intro v hv;simp at hv
 ·intro g hg;cases hg
 ·intro i j hi hj;rw[List.length_map]at hi hj;rw[List.getElem_map,List.getElem_map];have e4:∀x:Int×Int,elV true (nT x)=jQ x:=λx=>rfl
  rw[e4,e4];refine(a1a (UX _ _ _).1).trans ?_;simp[List.getD_eq_getElem?_getD,hi,hj]
 ·rw[List.length_map];exact hO
 ·rw[e3,a3L]
theorem RV(x:Int×Int)(pre post:List Value):aBJ (pre++(nT x++post)) pre.length x:=by
 have:∀i,(pre++(nT x++post))[pre.length+i]? =(nT x++post)[i]? :=λi=>by rw[List.getElem?_append_right (by omega),Nat.add_sub_cancel_left]
 exact⟨by have:=this 0;exact this,this 1⟩
theorem OO{W:AW}{B c:Nat}{l:List (Int×Int)}{rest:List Value}(hB:W.get B=some (.cells (l.flatMap nT++rest)))(hl:B<W.next):HoL W (.slice (some ⟨B,0,none⟩) l.length c) l:=by refine⟨_,c,rfl,.inr ⟨B,0,_,rfl,hl,bK hB,λi hi=>?_⟩⟩;obtain⟨e1,e2⟩:=gD jR (List.getElem?_eq_getElem hi);rw[e1,Nat.zero_add,<-e2,List.append_assoc,List.append_assoc];exact RV _ _ _
def pW{α:Type}(p:α->Bool)(l:List α):Int:=match l.findIdx? p with|some i=>(i:Int)|none=> -1
theorem O7{α:Type}{p:α->Bool}{l:List α}(h:∀x∈l,p x=false):pW p l= -1:=by unfold pW;rw[List.findIdx?_eq_none_iff.2 h]
theorem ZR{α:Type}{p:α->Bool}{l:List α}{i:Nat}(hi:i<l.length)(hp:p l[i]=true)(h:∀j (hj:j<i),p (l[j]'(by omega))=false):pW p l=(i:Int):=by unfold pW;rw[List.findIdx?_eq_some_iff_getElem.2 ⟨hi,hp,λj hj=>by rw[h j hj];decide⟩]
theorem UJ{α:Type}(p:α->Bool)(l:List α):((∀x∈l,p x=false)/\pW p l= -1)\/∃i,∃hi:i<l.length,pW p l=(i:Int)/\p l[i]=true/\∀j (hj:j<i),p (l[j]'(by omega))=false:=by
 cases h:l.findIdx? p with
 |none=>exact .inl ⟨List.findIdx?_eq_none_iff.1 h,by unfold pW;rw[h]⟩
 |some i=>obtain⟨h1,h2,h3⟩:=List.findIdx?_eq_some_iff_getElem.1 h;exact .inr ⟨i,h1,by unfold pW;rw[h],h2,λj hj=>by have:=h3 j hj;simpa using this⟩
theorem a0z{W:AW}{v fv:Value}{l:List (Int×Int)}{p:Int×Int->Bool}(h:HoL W v l)(hp:∀x,x∈l->aK fv [jQ x] W=some (.bool (p x),W))(hl:l.length<=10000):aK (.func (.func 196) #[] #[]) [v,fv] W=some (.int .i64 (pW p l),W):=by
 refine aN rfl ?_ jU;unfold fJ;simp only[SX,h.len wL];refine bD l.length (by omega) (λi R V=>V=W/\R 0=v/\R 1=fv/\R 7=.int .i64 (l.length:Int)/\R 8=.int .i64 (i:Int)/\∀j (hj:j<i) (hj2:j<l.length),p l[j]=false)
  (λr=>r.2.2=W/\((r.1=.exit 0/\pW p l= -1)\/(r.1=.ret/\r.2.1 4=.int .i64 (pW p l)))) ⟨rfl,rfl,rfl,rfl,rfl,λj hj=>by omega⟩ ?_ ?_ ?_
 ·rintro i R V hi ⟨rfl,r0,r1,r7,r8,ha⟩;unfold dC;have t1:((i:Int)<(l.length:Int)):=by omega
  have t2:=λW'=>aU (P:=Tryz.prog) (W:=W') (t:=3) (c:=false) (d:=true) (a:=(i:Int)) (b:=1) (by omega) (by omega)
  have e3:((i+1:Nat):Int)=(i:Int)+1:=by omega
  obtain⟨b,o,i1,i2,i3⟩:=HoL.get h hi;cases hc:p l[i]with
  |true=>simp only[SX,r0,r1,r7,r8,t1,decide_true,i1,(i3 _ rfl).1,hp _ (List.getElem_mem hi),hc,aB];exact .inr ⟨by simp,trivial,.inr ⟨trivial,by rw[ZR hi hc λj hj=>ha j hj (by omega)];rfl⟩⟩
  |false=>
   simp only[SX,r0,r1,r7,r8,t1,decide_true,i1,(i3 _ rfl).1,hp _ (List.getElem_mem hi),hc,t2,aB];refine .inl ⟨trivial,trivial,r0,r1,r7,by rw[e3];rfl,λj hj hj2=>?_⟩;by_cases c:j=i
   ·subst c;exact hc
   ·exact ha j (by omega) hj2
 ·rintro R V ⟨rfl,r0,r1,r7,r8,ha⟩;unfold dC;have t1:¬((l.length:Int)<(l.length:Int)):=by omega
  simp only[SX,r7,r8,t1,decide_false,aB];refine⟨by simp,trivial,.inl ⟨trivial,O7 λx hx=>?_⟩⟩;obtain⟨j,hj,rfl⟩:=List.mem_iff_getElem.1 hx;exact ha j hj hj
 ·rintro⟨q,R,V⟩ ⟨rfl,hq⟩;simp only at hq;rcases hq with⟨rfl,e⟩|⟨rfl,r4⟩
  ·simp only[SX,aB];exact⟨by rw[e],Le.refl _⟩
  ·simp only[SX,r4,aB];exact⟨trivial,Le.refl _⟩
theorem a4f{W:AW}{X:Nat}{now:Int}(hX:W.get X=some (.cells [.int .i64 now]))(hXl:X<W.next)(x:Int×Int):aK (.func (.func 141) #[] #[.pointer (some ⟨X,0,none⟩)]) [jQ x] W=some (.bool (decide (now<x.2)),W):=by
 refine aN rfl ?_ zG;unfold tY;have oB:bW (jQ x) W=some (.pointer (some ⟨W.next,0,none⟩),W.add (.cells [.int .i64 x.1,.int .i64 x.2])):=gF _;have g1:(W.add (.cells [.int .i64 x.1,.int .i64 x.2])).get W.next=some (.cells [.int .i64 x.1,.int .i64 x.2]):=AW.get_add _ _;have gX:(W.add (.cells [.int .i64 x.1,.int .i64 x.2])).get X=some (.cells [.int .i64 now]):=by rw[AW.get_add_ne _ _ (by omega)];exact hX
 simp only[SX,oB,Nat.zero_add,iJ (o:=1) (bT g1) rfl,iJ (o:=0) (bT gX) rfl,aB];exact⟨trivial,(Le.refl _).add _⟩
theorem a6p:qG Tryz.prog 32=some 2:=by kernel_rfl
theorem SA{b l h:Nat}{k:IntKind}(h1:h<=l)(W:AW):bU Tryz.prog 32 (.slice (some ⟨b,0,none⟩) l (dH+2)) (some (.int k (h:Int))) none none W=some (.slice (some ⟨b,h*2,none⟩) (l-h) (dH+2),W):=by
 obtain⟨e,he,hz⟩:=iD a6p;have h2:((⟨b,0,none⟩:Addr).add (h*2))=⟨b,h*2,none⟩:=by rw[dO];simp
 unfold bU iV;simp only[he,hz,dS,jD,h1,if_true,true_and,if_pos (show 0<2 by omega),Nat.le_refl,h2]
theorem a3y(n:Nat):(Builtin.zeroCells (jQ (0,0)).cells n).toList.length=n*2:=by unfold Builtin.zeroCells;simp[VA]
theorem a3h(n:Nat):(Builtin.zeroCells (jQ (0,0)).cells n).toList.all bZ=true:=by
 unfold Builtin.zeroCells;simp only[Array.toList_map,List.all_map,List.all_eq_true];intro i hi;show bZ ((jQ (0,0)).cells[i % (jQ (0,0)).cells.size]!)=true;have:i % (jQ (0,0)).cells.size=0\/i % (jQ (0,0)).cells.size=1:=by have:(jQ (0,0)).cells.size=2:=rfl;rw[this];omega
 rcases this with e|e<;>rw[e]<;>rfl
theorem e32:lC Tryz.prog 32=some 42:=by kernel_rfl
theorem t42:oH Tryz.prog 42=some 2:=by kernel_rfl
theorem z42:lZ Tryz.prog 42=some (jQ (0,0)):=by kernel_rfl
theorem a7z{W:AW}{B o n c:Nat}{cs:List Value}(hB:W.get B=some (.cells cs))(hl:cs.length=o+n*2):∃rest,aG Tryz.prog .clear #[32] 0 #[false] [.slice (some ⟨B,o,none⟩) n c] W=some (.tuple #[],W.put B (.cells (cs.take o++rest)))\/(n=0/\aG Tryz.prog .clear #[32] 0 #[false] [.slice (some ⟨B,o,none⟩) n c] W=some (.tuple #[],W)):=by
 by_cases h0:n=0
 ·subst h0;exact⟨[],.inr ⟨rfl,by unfold aG F9;simp only[e32,t42,z42,if_true];rfl⟩⟩
 ·refine⟨(Builtin.zeroCells (jQ (0,0)).cells n).toList,.inl ?_⟩;have e:F9 Tryz.prog W #[32] (.slice (some ⟨B,o,none⟩) n c)=some (W.put B (.cells (cs.take o++(Builtin.zeroCells (jQ (0,0)).cells n).toList))):=by
   unfold F9;simp only[e32,t42,z42,if_neg h0,if_pos (And.intro (a3h n) (show 0<2 by omega))];rw[O9,hB];simp only;have hall:(Builtin.zeroCells (jQ (0,0)).cells n).toList.all Eng.one=true:=by
    have:=a3h n;rw[List.all_eq_true]at this|-;intro x hx;have:=this x hx;unfold Builtin.zeroCells at hx;simp only[Array.toList_map,List.mem_map]at hx;obtain⟨i,-,rfl⟩:=hx;have h2:i % (jQ (0,0)).cells.size=0\/i % (jQ (0,0)).cells.size=1:=by have:(jQ (0,0)).cells.size=2:=rfl;rw[this];omega
    rcases h2 with e|e<;>rw[e]<;>rfl
   rw[if_pos ⟨by rw[a3y];omega,hall⟩];unfold jO;rw[List.drop_of_length_le (by rw[a3y];omega),List.append_nil]
  unfold aG;simp only[e,Option.map_some]
def dM(now:Int)(x:Int×Int):Bool:=decide (x.2<=now)
theorem a5e{α:Type}{z:Nat}{f:α->List Value}(hf:∀a,(f a).length=z)(ys:List α){m:Nat}(hm:m<=ys.length):(ys.flatMap f).take (m*z)=(ys.take m).flatMap f:=by
 have e:ys.flatMap f=(ys.take m).flatMap f++(ys.drop m).flatMap f:=by rw[<-List.flatMap_append,List.take_append_drop]
 have e2:((ys.take m).flatMap f).length=m*z:=by rw[aZ hf,List.length_take,Nat.min_eq_left hm]
 rw[e,<-e2,List.take_left]
theorem aAf(W:AW)(x:Int×Int):∃W1 W2,aW Tryz.prog 42 W=some (.pointer (some ⟨W.next,0,none⟩),W1)/\cO 2 (.pointer (some ⟨W.next,0,none⟩)) (jQ x) W1=some (undef,W2)/\Le W W2/\W2.next=W.next+1/\W2.get W.next=some (.cells [.int .i64 x.1,.int .i64 x.2]):=
 ⟨_,_,a2o W,NE x (AW.get_add _ _),((Le.refl _).add _).put (Nat.le_refl _) _,rfl,AW.get_put _ _ _⟩
theorem aA5{V:AW}{B X:Nat}{now:Int}{l:List (Int×Int)}(hB:V.get B=some (.cells (l.flatMap nT)))(hBl:B<V.next)(hX:V.get X=some (.cells [.int .i64 now]))(hXl:X<V.next)(hXB:X≠B)(hl:l.length<=5000):
 ∃V' rest,aK (.func (.func 139) #[] #[]) [.slice (some ⟨B,0,none⟩) l.length (dH+2),.func (.func 141) #[] #[.pointer (some ⟨X,0,none⟩)]] V=some (.slice (some ⟨B,0,none⟩) (l.filter (dM now)).length (dH+2),V')/\
  V.next<=V'.next/\(∀b,b<V.next->b≠B->V'.get b=V.get b)/\V'.get B=some (.cells ((l.filter (dM now)).flatMap nT++rest)):=by
 have hH:HoL V (.slice (some ⟨B,0,none⟩) l.length (dH+2)) l:=OO (rest:=[]) (by rw[List.append_nil];exact hB) hBl;have hidx:=a0z hH (λx _=>a4f hX hXl x) (by omega);have main:Ok (bL aK (.slice (some ⟨B,0,none⟩) l.length (dH+2)) (.func (.func 141) #[] #[.pointer (some ⟨X,0,none⟩)]) V) λr=>r.1=.slice (some ⟨B,0,none⟩) (l.filter (dM now)).length (dH+2)/\∃rest,V.next<=r.2.next/\(∀b,b<V.next->b≠B->r.2.get b=V.get b)/\r.2.get B=some (.cells ((l.filter (dM now)).flatMap nT++rest)):=by
  unfold bL;rcases UJ (λx:Int×Int=>decide (now<x.2)) l with⟨h1,h2⟩|⟨i,hi,h2,h3,h4⟩
  ·have d:decide ((-1:Int)= -1)=true:=rfl;have hf:l.filter (dM now)=l:=List.filter_eq_self.2 λx hx=>by have:=of_decide_eq_false (h1 x hx);unfold dM;exact decide_eq_true (by omega)
   simp only[SX,hidx,h2,d,aB];exact⟨by rw[hf],[],Nat.le_refl _,λ_ _ _=>trivial,by rw[hf,List.append_nil];exact hB⟩
  ·have d:decide ((i:Int)= -1)=false:=decide_eq_false (by omega);have t0:=λW'=>aU (P:=Tryz.prog) (W:=W') (t:=3) (c:=false) (d:=true) (a:=(i:Int)) (b:=1) (by omega) (by omega)
   have k0:∀x∈l.take i,dM now x=true:=λx hx=>by obtain⟨j,hj,rfl⟩:=List.mem_iff_getElem.1 hx;rw[List.length_take]at hj;rw[List.getElem_take];have:=of_decide_eq_false (h4 j (by omega));unfold dM;exact decide_eq_true (by omega)
   have e0:(l.take (i+1)).filter (dM now)=l.take i:=by rw[List.take_add_one,List.getElem?_eq_getElem hi,List.filter_append,List.filter_eq_self.2 k0];have:=of_decide_eq_true h3;have h5:dM now l[i]=false:=decide_eq_false (by omega);simp[h5]
   simp only[SX,hidx,h2,d,t0]
   refine bD (l.length-(i+1)) (by omega) (λq R U=>V.next<=U.next/\(∀b,b<V.next->b≠B->U.get b=V.get b)/\R 0=.slice (some ⟨B,0,none⟩) l.length (dH+2)/\R 1=.func (.func 141) #[] #[.pointer (some ⟨X,0,none⟩)]/\R 6=.int .i64 ((i+1+q:Nat):Int)/\
    ∃(ys:List (Int×Int)) (m:Nat),U.get B=some (.cells (ys.flatMap nT))/\ys.length=l.length/\R 5=.int .i64 (m:Int)/\m<=i+1+q/\m=((l.take (i+1+q)).filter (dM now)).length/\ys.take m=(l.take (i+1+q)).filter (dM now)/\ys.drop (i+1+q)=l.drop (i+1+q))
    (λr=>r.1=.exit 0/\V.next<=r.2.2.next/\(∀b,b<V.next->b≠B->r.2.2.get b=V.get b)/\r.2.1 0=.slice (some ⟨B,0,none⟩) l.length (dH+2)/\∃(ys:List (Int×Int)) (m:Nat),r.2.2.get B=some (.cells (ys.flatMap nT))/\ys.length=l.length/\r.2.1 5=.int .i64 (m:Int)/\m<=l.length/\m=(l.filter (dM now)).length/\ys.take m=l.filter (dM now))
    ⟨Nat.le_refl _,λ_ _ _=>rfl,rfl,rfl,by rw[Nat.add_zero];show _=Value.int .i64 ((i:Int)+1);rfl,l,i,hB,rfl,rfl,by omega,by rw[Nat.add_zero,e0,List.length_take];omega,by rw[Nat.add_zero,e0],rfl⟩ ?_ ?_ ?_
   ·rintro q R U hq ⟨u1,u2,r0,r1,r6,ys,m,u3,u4,r5,u5,u6,u7,u8⟩;unfold d9;generalize hj:i+1+q=j at *;have hjl:j<l.length:=by omega
    have t1:((j:Int)<(l.length:Int)):=by omega
    have t2:=λW'=>aU (P:=Tryz.prog) (W:=W') (t:=3) (c:=false) (d:=true) (a:=(j:Int)) (b:=1) (by omega) (by omega)
    have e3:((i+1+(q+1):Nat):Int)=(j:Int)+1:=by omega
    have e3':i+1+(q+1)=j+1:=by omega
    have yj:ys[j]? =some l[j]:=by have h5:=congrArg (λt=>t[0]?) u8;simp only[List.getElem?_drop,Nat.add_zero]at h5;rw[h5,List.getElem?_eq_getElem hjl]
    have hBU:B<U.next:=by omega
    have HU:HoL U (.slice (some ⟨B,0,none⟩) l.length (dH+2)) ys:=by rw[<-u4];exact OO (rest:=[]) (by rw[List.append_nil];exact u3) hBU
    obtain⟨yi,ye⟩:=List.getElem?_eq_some_iff.1 yj;obtain⟨b,o,i1,i2,i3⟩:=HoL.get HU yi;have i4:=(i3 U rfl).1;rw[ye]at i4;obtain⟨U1,U2,k1,k2,k3,k4,k5⟩:=aAf U l[j];have ld:=F7 (v:=l[j]) k5;have hX2:U2.get X=some (.cells [.int .i64 now]):=by rw[k3.get _ (by omega),u2 _ hXl hXB];exact hX
    have hd:=a4f hX2 (by omega) l[j];have hB2:U2.get B=some (.cells (ys.flatMap nT)):=by rw[k3.get _ hBU];exact u3
    have g2:∀b,b<V.next->b≠B->U2.get b=V.get b:=λb hb hne=>by rw[k3.get _ (by omega)];exact u2 b hb hne
    by_cases c:now<l[j].2
    ·have d1:=decide_eq_true c;rw[d1]at hd;have hk:dM now l[j]=false:=decide_eq_false (by omega);have e4:(l.take (j+1)).filter (dM now)=(l.take j).filter (dM now):=by rw[List.take_add_one,List.getElem?_eq_getElem hjl,List.filter_append];simp[hk]
     simp only[SX,r0,r1,r6,jH wL,t1,decide_true,i1,i4,k1,k2,ld,hd,t2,aB];refine .inl ⟨trivial,by omega,g2,r0,r1,by rw[e3];rfl,ys,m,hB2,u4,r5,by omega,by rw[e3',e4];exact u6,by rw[e3',e4];exact u7,?_⟩;rw[e3',<-List.drop_drop,<-List.drop_drop,u8]
    ·have d1:=decide_eq_false c;rw[d1]at hd;have hk:dM now l[j]=true:=decide_eq_true (by omega);have e4:(l.take (j+1)).filter (dM now)=(l.take j).filter (dM now)++[l[j]]:=by rw[List.take_add_one,List.getElem?_eq_getElem hjl,List.filter_append];simp[hk]
     have hml:m<ys.length:=by omega
     have ix:=λW' q=>mZ (W:=W') (z:=2) (b:=B) (o:=0) (l:=l.length) (c:=dH+2) (i:=m) (k:=q) (by omega)
     have hst:=zL (n:=2) (b:=B) (o:=m*2) (v:=jQ l[j]) hB2 rfl (by show m*2+2<=_;rw[aZ jR];omega) rfl;have e5:jO (ys.flatMap nT) (m*2) (jQ l[j]).cells.toList=(ys.set m l[j]).flatMap nT:=zK jR (List.getElem?_eq_getElem hml) l[j];rw[e5]at hst;have t3:=λW'=>aU (P:=Tryz.prog) (W:=W') (t:=3) (c:=false) (d:=true) (a:=(m:Int)) (b:=1) (by omega) (by omega)
     simp only[SX,r0,r1,r5,r6,jH wL,t1,decide_true,i1,i4,k1,k2,ld,hd,ix,Nat.zero_add,hst,t2,t3,aB];refine .inl ⟨trivial,by rw[AW.put_next];omega,λb hb hne=>by rw[AW.get_put_ne _ _ (λx=>hne x.symm)];exact g2 b hb hne,r0,r1,by rw[e3];rfl,ys.set m l[j],m+1,AW.get_put _ _ _,by rw[List.length_set];exact u4,by rw[show((m+1:Nat):Int)=(m:Int)+1 by omega];rfl,by omega,?_,?_,?_⟩
     ·rw[e3',e4,List.length_append,<-u6];rfl
     ·rw[e3',e4,List.take_add_one,List.take_set_of_le (Nat.le_refl _),u7,List.getElem?_set_self hml];rfl
     ·rw[e3',List.drop_set_of_lt (by omega),<-List.drop_drop,<-List.drop_drop,u8]
   ·rintro R U ⟨u1,u2,r0,r1,r6,ys,m,u3,u4,r5,u5,u6,u7,u8⟩;unfold d9;have ej:i+1+(l.length-(i+1))=l.length:=by omega
    rw[ej]at r6 u5 u6 u7 u8;rw[List.take_length]at u6 u7;have t1:¬((l.length:Int)<(l.length:Int)):=by omega
    simp only[SX,r0,r6,jH wL,t1,decide_false,aB];exact⟨by simp,trivial,u1,u2,r0,ys,m,u3,u4,r5,u5,u6,u7⟩
   ·rintro⟨q,R,U⟩ ⟨rfl,u1,u2,r0,ys,m,u3,u4,r5,u5,u6,u7⟩;simp only at u1 u2 r0 u3 r5;have hs1:=λW'=>SA (b:=B) (l:=l.length) (k:=.i64) u5 W'
    have hs2:=λW'=>uI (P:=Tryz.prog) (W:=W') a6p (by omega) (b:=B) (o:=0) (l:=l.length) (h:=m) (k:=.i64) u5
    obtain⟨rest,hc⟩:=a7z (o:=m*2) (n:=l.length-m) (c:=dH+2) u3 (by rw[aZ jR,u4];omega);have e5:(ys.flatMap nT).take (m*2)=(l.filter (dM now)).flatMap nT:=by rw[a5e jR ys (by omega),u7]
    rw[<-u6];rcases hc with hc|⟨h0,hc⟩
    ·simp only[SX,r0,r5,hs1,hs2,hc,aB];exact⟨trivial,rest,by rw[AW.put_next];exact u1,λb hb hne=>by rw[AW.get_put_ne _ _ (λx=>hne x.symm)];exact u2 b hb hne,by rw[AW.get_put,e5]⟩
    ·simp only[SX,r0,r5,hs1,hs2,hc,aB];refine⟨trivial,[],u1,u2,?_⟩;have em:m=ys.length:=by omega
     rw[em,List.take_length]at u7;rw[List.append_nil,<-u7];exact u3
 obtain⟨⟨r,V'⟩,h1,h2,rest,h3,h4,h5⟩:=main;simp only at h2 h3 h4 h5;subst h2;exact⟨V',rest,by rw[eU h1,eG rfl],h3,h4,h5⟩
theorem BO(W:AW):aK (.func (.func 79) #[] #[]) [] W=some (.func (.func 144) #[] #[],W):=by
 have:yC aK W=some (.func (.func 144) #[] #[],W):=by unfold yC;simp only[SX]
 rw[NF this,O3]
theorem a9n(fv:Value)(W:AW):aK (.func (.func 139) #[] #[]) [.slice none 0 0,fv] W=some (.slice none 0 0,W):=by
 have h0:HoL W (.slice none 0 0) []:=Row.nil;have hidx:=a0z (p:=λ_=>false) (fv:=fv) h0 (λx hx=>by simp at hx) (by simp);rw[O7 (by simp)]at hidx;have d:decide ((-1:Int)= -1)=true:=rfl;have:bL aK (.slice none 0 0) fv W=some (.slice none 0 0,W):=by unfold bL;simp only[SX,hidx,d]
 rw[eU this,O3]
theorem RD(p:Option Addr)(c:Nat)(fv:Value)(W:AW):aK (.func (.func 78) #[] #[]) [.slice p 0 c,fv] W=some (.tuple #[],W):=CU (.inl ⟨p,c,fv,rfl,rfl⟩)
def NewL(lo:Nat)(W:AW)(u:Value)(l:List (Int×Int)):Prop:=∃a c,u=.slice a l.length c/\(l=[]\/∃B rest,a=some ⟨B,0,none⟩/\lo<=B/\B<W.next/\W.get B=some (.cells (l.flatMap nT++rest)))
section
variable {lo:Nat} {W W':AW} {u:Value} {l:List (Int×Int)}
theorem NewL.row(h:NewL lo W u l):HoL W u l:=by
 obtain⟨a,c,rfl,h⟩:=h;rcases h with rfl|⟨B,rest,rfl,h1,h2,h3⟩
 ·exact⟨a,c,rfl,.inl rfl⟩
 ·exact OO h3 h2
theorem NewL.nil(p:Option Addr)(c:Nat):NewL lo W (.slice p 0 c) []:=⟨p,c,rfl,.inl rfl⟩
theorem NewL.gr{K:Nat->Prop}(h:NewL lo W u l)(g:Gr W W' K)(hk:∀b,lo<=b->b<W.next->¬K b):NewL lo W' u l:=by
 obtain⟨a,c,rfl,h⟩:=h;rcases h with h|⟨B,rest,h0,h1,h2,h3⟩
 ·exact⟨a,c,rfl,.inl h⟩
 ·exact⟨a,c,rfl,.inr ⟨B,rest,h0,h1,Nat.lt_of_lt_of_le h2 g.next,(g.get _ h2 (hk _ h1 h2)).trans h3⟩⟩
theorem NewL.gc1(hl:Le W W')(h:NewL lo W' u l):∃W2,gc W (u,W')=(u,W2)/\Le W W2/\NewL lo W2 u l:=by
 cases hp:(bB u&& !isU u)
 ·exact⟨W',eG hp,hl,h⟩
 ·refine⟨W,uR hp hl,.refl _,?_⟩;obtain⟨a,c,rfl,h⟩:=h;rcases h with h|⟨B,rest,rfl,-⟩
  ·exact⟨a,c,rfl,.inl h⟩
  ·exact absurd hp (by simp[bB,fV,bZ])
theorem NewL.gc2{k:IntKind}{e:Int}(hl:Le W W')(h:NewL lo W' u l):∃W2,gc W (.tuple #[u,.int k e],W')=(.tuple #[u,.int k e],W2)/\Le W W2/\NewL lo W2 u l:=by
 cases hp:(bB (.tuple #[u,.int k e])&& !isU (.tuple #[u,.int k e]))
 ·exact⟨W',eG hp,hl,h⟩
 ·refine⟨W,uR hp hl,.refl _,?_⟩;obtain⟨a,c,rfl,h⟩:=h;rcases h with h|⟨B,rest,rfl,-⟩
  ·exact⟨a,c,rfl,.inl h⟩
  ·exact absurd hp (by simp[bB,fV,bZ])
theorem a7B{o t:Option (Value×AW)}(h:Ok t λr=>Le W r.2/\NewL lo r.2 r.1 l)(hom:∀{r},t=some r->o=some (gc W r)):∃v W2,o=some (v,W2)/\Le W W2/\NewL lo W2 v l:=by obtain⟨⟨v,W'⟩,h1,h2,h3⟩:=h;obtain⟨W2,k1,k2,k3⟩:=NewL.gc1 h2 h3;exact⟨v,W2,by rw[hom h1,k1],k2,k3⟩
theorem C8{o t:Option (Value×AW)}{k:IntKind}{e:Int}(h:Ok t λr=>∃v,r.1=.tuple #[v,.int k e]/\Le W r.2/\NewL lo r.2 v l)(hom:∀{r},t=some r->o=some (gc W r)):∃v W2,o=some (.tuple #[v,.int k e],W2)/\Le W W2/\NewL lo W2 v l:=by obtain⟨⟨u,W'⟩,h1,v,h2,h3,h4⟩:=h;simp only at h2 h3 h4;subst h2;obtain⟨W2,k1,k2,k3⟩:=NewL.gc2 h3 h4;exact⟨v,W2,by rw[hom h1,k1],k2,k3⟩
end
def mE(h:List (Int×Int))(now:Int)(l:List (Int×Int)):Prop:=Asc l/\l.Perm (h.filter (dM now))
section
variable {K:Nat->Prop} {V:AW} {M k many:Nat} {v:Ven} {W0:AW} {N:Int} {l:List SeT}
theorem aB9{H B o:Nat}{In:Nat->Prop}{q:St}{es:List (Int×Int)}(hH:HT V In H many q)(hq:q.es.Perm es)(hn:es.length<=4096)(hB:B<V.next)(hl:aL (.pointer (some ⟨B,o,none⟩)) V=some (hP H,V))(hl2:∀W,Le V W->aL (.pointer (some ⟨B,o,none⟩)) W=some (hP H,W))(now:Int):
 ∃u V',∃l',aK (.func (.func 77) #[] #[]) [.pointer (some ⟨B,o,none⟩),.int .i64 now] V=some (u,V')/\Le V V'/\NewL V.next V' u l'/\mE es now l':=by
 have hqn:q.n=es.length:=by have:=hq.length_eq;rwa [QH]at this
 have main:∃l',Ok (qC aK (.pointer (some ⟨B,o,none⟩)) (.int .i64 now) V) (λr=>Le V r.2/\NewL V.next r.2 r.1 l')/\mE es now l':=by
  unfold qC;have l1:Le V (V.add (.cells [.int .i64 now])):=(Le.refl _).add _;have n1:(V.add (.cells [.int .i64 now])).next=V.next+1:=AW.add_next _ _;have g1:(V.add (.cells [.int .i64 now])).get V.next=some (.cells [.int .i64 now]):=AW.get_add _ _;simp only[SX,Nat.zero_add,Nat.add_zero,aH];generalize V.add (.cells [.int .i64 now])=V1 at *;have ld:=hl2 V1 l1;have h1:HT V1 In H many q:=hH.keep l1.next (λb hb _=>l1.get b hb) (λb _ hx=>hx);obtain⟨V2,u,l0,k1,k2,k3,k4,-⟩:=a6a h1 (by omega);have l2:=l1.trans k2;have p0:l0.Perm es:=k4.trans hq;rcases k3 with⟨rfl,rfl⟩|⟨hne,C,c1,c2,rfl,c3⟩
  ·refine⟨[],?_,List.Pairwise.nil,?_⟩
   ·simp only[SX,ld,k1,a9n,BO,RD,aB];exact⟨l2,NewL.nil _ _⟩
   ·rw[<-List.Perm.nil_eq p0];exact .refl _
  ·have hX:V2.get V.next=some (.cells [.int .i64 now]):=by rw[k2.get _ (by omega)];exact g1
   obtain⟨V3,rest,d1,d2,d3,d4⟩:=aA5 (now:=now) c3 c2 hX (by have:=k2.next;omega) (by omega) (by have:=p0.length_eq;omega);have l3:Le V V3:=⟨by have:=l2.next;omega,λb hb=>by rw[d3 b (by have:=l2.next;omega) (by omega)];exact l2.get b hb⟩;by_cases hf:l0.filter (dM now)=[]
   ·refine⟨[],?_,List.Pairwise.nil,?_⟩
    ·rw[hf]at d1;simp only[SX,ld,k1,d1,BO,List.length_nil,RD,aB];exact⟨l3,NewL.nil _ _⟩
    ·rw[<-hf];exact p0.filter _
   ·obtain⟨l',e1,e2,e3⟩:=a0R (c:=dH+2) hf (by have:=List.length_filter_le (dM now) l0;have:=p0.length_eq;omega) d4;refine⟨l',?_,e2,e1.trans (p0.filter _)⟩;simp only[SX,ld,k1,d1,BO,e3,aB];refine⟨l3.put (by omega) _,?_⟩;rw[<-e1.length_eq];exact⟨_,_,rfl,.inr ⟨C,rest,rfl,by omega,by rw[AW.put_next];omega,AW.get_put _ _ _⟩⟩
 obtain⟨l',m1,m2⟩:=main;obtain⟨u,V',r1,r2,r3⟩:=a7B m1 DK;exact⟨u,V',l',r1,r2,r3,m2⟩
theorem MapS.due(h:MapS K V M k many v W0 N l){i:Nat}(hi:i<k)(now:Int):∃B,(∀U,Le V U->aL (.pointer (some ⟨M,5,none⟩)) U=some (.slice (some ⟨B,0,none⟩) k k,U))/\∃u V',∃l',aK (.func (.func 77) #[] #[]) [.pointer (some ⟨B,i*2,none⟩),.int .i64 now] V=some (u,V')/\Le V V'/\NewL V.next V' u l'/\mE (bQ l (jX k i)) now l':=by obtain⟨d,rfl,rfl,rfl,-,-,-,hlen,-,p⟩:=h;have:=p.mn;exact⟨d.SB,λU hU=>(p.le hU).l5,aB9 (p.ho i hi) (p.es i hi) (Nat.le_trans (kV _ _) (by omega)) p.sl (p.h0 hi) (λW hW=>(p.le hW).h0 hi) now⟩
theorem a3F(h:MapS K V M k many v W0 N l)(i now:Int):∃u V',∃l',aK (.func (.func 19) #[] #[]) [mV M,.int .i64 i,.int .i64 now] V=some (.tuple #[u,.int .i64 (dQ i k now)],V')/\Le V V'/\NewL V.next V' u l'/\(dQ i k now≠0->l'=[])/\(dQ i k now=0->mE (bQ l (jX k i.toNat)) now l'):=by
 have hse:=C9 h i now;have main:∃l',Ok (uB aK (mV M) (.int .i64 i) (.int .i64 now) V) (λr=>∃u,r.1=.tuple #[u,.int .i64 (dQ i k now)]/\Le V r.2/\NewL V.next r.2 u l')/\(dQ i k now≠0->l'=[])/\(dQ i k now=0->mE (bQ l (jX k i.toNat)) now l'):=by
  unfold uB;by_cases c:dQ i k now=0
  ·obtain⟨s,rfl,hs,-⟩:=OX c;obtain⟨B,b1,u,V',l',r1,r2,r3,r4⟩:=h.due hs now;refine⟨l',?_,λx=>absurd c x,λ_=>r4⟩;have d0:decide ((0:Int)=0)=true:=rfl;simp only[SX,hse,c,d0,aH,Nat.zero_add,Nat.add_zero,b1 V (Le.refl _),PO hs,r1,aB];exact⟨u,rfl,r2,r3⟩
  ·have d1:=decide_eq_false c;refine⟨[],?_,λ_=>rfl,λx=>absurd x c⟩;simp only[SX,hse,d1,aB];exact⟨_,rfl,Le.refl _,NewL.nil _ _⟩
 obtain⟨l',m1,m2,m3⟩:=main;obtain⟨u,V',r1,r2,r3⟩:=C8 m1 FT;exact⟨u,V',l',r1,r2,r3,m2,m3⟩
end
section
variable {α:Type} {z:Nat} {f:α->List Value} {at_:List Value->Nat->α->Prop} {W:AW} {v u:Value} {l m:List α}
theorem Lst.cat{ts:Array TypeId}{bytes lo:Nat}(hk:nI Tryz.prog ts z bytes=true)(hf:∀a,(f a).length=z)(h1:∀a,(f a).all Eng.one=true)(h:Lst lo W z f v l)(hr:Row W z at_ u m)(hat:∀cs p a,at_ cs p a->(cs.drop p).take z=f a)
 (hb:l.length+m.length<1099511627776)(hb2:(2*(l.length+m.length)+192)*bytes<=281474976710656)(hlo:lo<=W.next):
 ∃v' W',bG Tryz.prog W ts v u=some (v',W')/\Lst lo W' z f v' (l++m)/\W.next<=W'.next/\∀A,Le A W->A.next<=lo->Le A W':=by
 obtain⟨a,c,rfl,hr⟩:=hr;by_cases hm:m=[]
 ·subst hm;rw[List.append_nil];have hb3:(2*l.length+192)*bytes<=281474976710656:=by simpa using hb2
  rcases h with⟨rfl,rfl⟩|⟨h0,B,i1,i2,rfl,i4⟩
  ·exact⟨_,W,AO hk (Nat.le_refl 0) (by omega) (by simpa using hb3),Lst.nil _ _ _ _,Nat.le_refl _,λA hA _=>hA⟩
  ·exact⟨_,W,AO hk (by have:l.length<dH:=by unfold dH;simp at hb;omega
                       omega) (by simp at hb;omega) hb3,.inr ⟨h0,B,i1,i2,rfl,i4⟩,Nat.le_refl _,λA hA _=>hA⟩
 ·rcases hr with hr|⟨C,o,cs,rfl,h2,h3,h4⟩
  ·exact absurd hr hm
  ·have e:m.flatMap f=(cs.drop o).take (m.length*z):=(GD hf m cs o λi hi=>hat _ _ _ (h4 i hi)).symm;have hall:(m.flatMap f).all Eng.one=true:=by rw[List.all_flatMap,List.all_eq_true];exactλa _=>h1 a
   have hmp:=List.length_pos_iff.2 hm;rcases h with⟨rfl,rfl⟩|⟨h0,B,i1,i2,rfl,i4⟩
   ·refine⟨_,_,H5 (b:=C) (o:=o) (n:=m.length) (c:=c) hk h3 e (aZ hf m) hmp hall (by simpa using hb) (by simpa using hb2),.inr ⟨by simpa using hm,W.next,hlo,by rw[AW.add_next];omega,by simp,by rw[AW.get_add];simp⟩,by rw[AW.add_next];omega,λA hA _=>hA.add _⟩
   ·have hpos:0<l.length:=List.length_pos_iff.2 h0;refine⟨_,_,YG (b:=C) (o:=o) (n:=m.length) (c:=c) hk h3 e (aZ hf m) hmp hall i4 (aZ hf l) (by omega) (by omega) hpos,.inr ⟨by simp[hm],W.next,hlo,by rw[AW.add_next,AW.kill_next];omega,by simp[AW.kill_next],?_⟩,by rw[AW.add_next,AW.kill_next];omega,λA hA hl=>(hA.kill (by omega)).add _⟩;have:=(W.kill B).get_add (.cells (l.flatMap f++m.flatMap f));rw[AW.kill_next]at this;rw[this,List.flatMap_append]
end
theorem hoT{cs:List Value}{p:Nat}{x:Int×Int}(h:aBJ cs p x):(cs.drop p).take 2=nT x:=by obtain⟨h0,h1⟩:=h;obtain⟨i0,e0⟩:=List.getElem?_eq_some_iff.1 h0;obtain⟨i1,e1⟩:=List.getElem?_eq_some_iff.1 h1;rw[List.drop_eq_getElem_cons i0,List.drop_eq_getElem_cons i1,e0,e1];rfl
theorem YX(l:List SeT){k:Nat}(hk:0<k):((List.range k).flatMap λi=>bQ l (jX k i)).Perm (bQ l λ_=>true):=by
 refine(List.perm_ext_iff_of_nodup ?_ (OM _ _)).2 λx=>?_
 ·unfold List.Nodup;rw[List.pairwise_flatMap];refine⟨λi _=>OM _ _,List.nodup_range.imp λ{a b} hab x hx y hy e=>?_⟩;subst e;obtain⟨j,j1,j2,j3,rfl⟩:=kS.1 hx;obtain⟨j',j1',j2',j3',e⟩:=kS.1 hy;have:(j:Int)=(j':Int):=congrArg (·.1) e;have:j=j':=by omega
  subst this;simp at j2 j2';omega
 ·rw[List.mem_flatMap];constructor
  ·rintro⟨i,-,hx⟩;obtain⟨j,j1,j2,j3,rfl⟩:=kS.1 hx;exact kS.2 ⟨j,j1,rfl,j3,rfl⟩
  ·intro hx;obtain⟨j,j1,j2,j3,rfl⟩:=kS.1 hx;exact⟨j % k,List.mem_range.2 (Nat.mod_lt _ hk),kS.2 ⟨j,j1,by simp,j3,rfl⟩⟩
section
variable {K:Nat->Prop} {V:AW} {M k many:Nat} {v:Ven} {W0:AW} {N:Int} {l:List SeT}
theorem a4l(h:MapS K V M k many v W0 N l)(now:Int):∃u V',∃l',aK (.func (.func 20) #[] #[]) [mV M,.int .i64 now] V=some (.tuple #[u,.int .i64 (if now<0 then 7 else 0)],V')/\Le V V'/\NewL V.next V' u l'/\(now<0->l'=[])/\(0<=now->mE (bQ l λ_=>true) now l'):=by
 have hse:=C9 h 0 now;have hkp:=h.kp;have hmn:=h.mn;have hlen:=h.len;have es0:dQ 0 k now=if now<0 then 7 else 0:=by unfold dQ;rw[if_neg (by omega)]
 rw[es0]at hse;by_cases c:now<0
 ·rw[if_pos c]at hse|-;have d1:decide ((7:Int)=0)=false:=rfl;have main:Ok (gZ aK (mV M) (.int .i64 now) V) (λr=>∃u,r.1=.tuple #[u,.int .i64 7]/\Le V r.2/\NewL V.next r.2 u []):=by unfold gZ;simp only[SX,hse,d1,aB];exact⟨_,rfl,Le.refl _,NewL.nil _ _⟩
  obtain⟨u,V',r1,r2,r3⟩:=C8 main sP;exact⟨u,V',[],r1,r2,r3,λ_=>rfl,λx=>by omega⟩
 ·rw[if_neg c]at hse|-;have d0:decide ((0:Int)=0)=true:=rfl;obtain⟨B,hB⟩:=sM5 h;have hlen':∀m i,i<=k->(m:List (Int×Int)).Perm (((List.range i).flatMap λi=>bQ l (jX k i)).filter (dM now))->m.length<=4096:=λm i hi hp=>by
   have h1:=hp.length_eq;have h2:=List.length_filter_le (dM now) ((List.range i).flatMap λi=>bQ l (jX k i));have h3:((List.range i).flatMap λi=>bQ l (jX k i)).length<=((List.range k).flatMap λi=>bQ l (jX k i)).length:=by
    have e:List.range k=List.range i++(List.range (k-i)).map (i+ ·):=by rw[<-List.range_add];congr 1;omega
    rw[e,List.flatMap_append,List.length_append];omega
   have h4:=(YX l hkp.1).length_eq;have h5:=kV l λ_=>true
   omega
  have main:∃l',Ok (gZ aK (mV M) (.int .i64 now) V) (λr=>∃u,r.1=.tuple #[u,.int .i64 0]/\Le V r.2/\NewL V.next r.2 u l')/\mE (bQ l λ_=>true) now l':=by
   have key:Ok (gZ aK (mV M) (.int .i64 now) V) (λr=>∃l',(∃u,r.1=.tuple #[u,.int .i64 0]/\Le V r.2/\NewL V.next r.2 u l')/\mE (bQ l λ_=>true) now l'):=by
    unfold gZ;simp only[SX,hse,d0,aH,Nat.zero_add,hB,zA];refine bD k (by omega) (λi R U=>Le V U/\R 0=mV M/\R 1=.int .i64 now/\R 19=.int .i64 (k:Int)/\R 20=.int .i64 (i:Int)/\∃m,Lst V.next U 2 nT (R 7) m/\m.Perm (((List.range i).flatMap λi=>bQ l (jX k i)).filter (dM now)))
     (λr=>r.1=.exit 0/\Le V r.2.2/\∃m,Lst V.next r.2.2 2 nT (r.2.1 7) m/\m.Perm (((List.range k).flatMap λi=>bQ l (jX k i)).filter (dM now))) ⟨Le.refl _,rfl,rfl,rfl,rfl,[],Lst.nil _ _ _ _,.refl _⟩ ?_ ?_ ?_
    ·rintro i R U hi ⟨u1,r0,r1,r19,r20,m,u2,u3⟩;unfold lT;have t1:((i:Int)<(k:Int)):=by omega
     have t2:=λW'=>aU (P:=Tryz.prog) (W:=W') (t:=3) (c:=false) (d:=true) (a:=(i:Int)) (b:=1) (by omega) (by omega)
     have e3:((i+1:Nat):Int)=(i:Int)+1:=by omega
     obtain⟨B',b1,x,U1,l',x1,x2,x3,x4⟩:=(h.le u1).due hi now;have hm4:=hlen' m i (by omega) u3;have hd4:l'.length<=4096:=by have h1:=x4.2.length_eq;have h2:=List.length_filter_le (dM now) (bQ l (jX k i));have h3:=kV l (jX k i);omega
     obtain⟨v',U2,y1,y2,y3,y4⟩:=Lst.cat a4L jR CL (u2.mono x2) x3.row (λ_ _ _=>hoT) (by omega) (by omega) (by have:=u1.next;have:=x2.next;omega);simp only[SX,r0,r1,r19,r20,t1,decide_true,aH,Nat.zero_add,Nat.add_zero,b1 U (Le.refl _),PO hi,x1,y1,t2,aB];refine .inl ⟨trivial,y4 V (u1.trans x2) (Nat.le_refl _),r0,r1,r19,by rw[e3];rfl,m++l',y2,?_⟩;rw[List.range_succ,List.flatMap_append,List.filter_append];simp only[List.flatMap_cons,List.flatMap_nil,List.append_nil];exact u3.append x4.2
    ·rintro R U ⟨u1,r0,r1,r19,r20,m,u2,u3⟩;unfold lT;have t1:¬((k:Int)<(k:Int)):=by omega
     simp only[SX,r19,r20,t1,decide_false,aB];exact⟨by simp,trivial,u1,m,u2,u3⟩
    ·rintro⟨q,R,U⟩ ⟨rfl,u1,m,u2,u3⟩;simp only at u1 u2;have hm4:=hlen' m k (Nat.le_refl _) u3;have u4:m.Perm ((bQ l λ_=>true).filter (dM now)):=u3.trans ((YX l hkp.1).filter _);rcases u2 with⟨rfl,r7⟩|⟨h0,C,c1,c2,r7,c4⟩
     ·simp only[SX,r7,BO,RD,aB];exact⟨[],⟨_,rfl,u1,NewL.nil _ _⟩,List.Pairwise.nil,u4⟩
     ·obtain⟨l',e1,e2,e3⟩:=a0R (c:=dH+2) (rest:=[]) h0 (by omega) (by rw[List.append_nil];exact c4);simp only[SX,r7,BO,e3,aB];refine⟨l',⟨_,rfl,u1.put c1 _,?_⟩,e2,e1.trans u4⟩;rw[<-e1.length_eq];exact⟨_,_,rfl,.inr ⟨C,[],rfl,c1,c2,AW.get_put _ _ _⟩⟩
   obtain⟨r,k1,l',k2,k3⟩:=key;exact⟨l',⟨r,k1,k2⟩,k3⟩
  obtain⟨l',m1,m2⟩:=main;obtain⟨u,V',r1,r2,r3⟩:=C8 m1 sP;exact⟨u,V',l',r1,r2,r3,λx=>by omega,λ_=>m2⟩
end
theorem aAu{x:SeT}(now:Int)(h:vY x=0):vY (rJ x now)=0:=by
 unfold rJ;split
 ·rfl
 ·exact h
def Z7(now:Int)(l:List SeT)(h:Int×Int):List SeT:=l.set h.1.toNat (rJ (mY l h.1.toNat) now)
def sM(l:List SeT)(now:Int)(d:List (Int×Int)):List SeT:=d.foldl (Z7 now) l
theorem wK(now:Int):∀(d:List (Int×Int)) (l:List SeT),(sM l now d).length=l.length
 |[],l=>rfl
 |h::d,l=>by show(sM (Z7 now l h) now d).length=l.length;rw[wK now d];unfold Z7;rw[List.length_set]
theorem VE(l:List SeT)(now:Int)(d:List (Int×Int))(h:Int×Int):sM l now (d++[h])=Z7 now (sM l now d) h:=by unfold sM;rw[List.foldl_append];rfl
theorem a7H{l:List SeT}{p:Nat->Bool}{now:Int}{d:List (Int×Int)}(hd:mE (bQ l p) now d){h:Int×Int}(hh:h∈d):∃s:Nat,h.1=(s:Int)/\s<l.length:=by have:=(List.mem_filter.1 (hd.2.mem_iff.1 hh)).1;obtain⟨j,h1,-,-,rfl⟩:=kS.1 this;exact⟨j,rfl,h1⟩
theorem a8t(W:AW)(x:SeT):∃W1 W2,aW Tryz.prog 38 W=some (.pointer (some ⟨W.next,0,none⟩),W1)/\cO 5 (.pointer (some ⟨W.next,0,none⟩)) (lY x) W1=some (undef,W2)/\Le W W2/\W2.next=W.next+1/\W2.get W.next=some (.cells (dP x)):=
 ⟨_,_,aBb W,a2M (AW.get_add _ _),((Le.refl _).add _).put (Nat.le_refl _) _,rfl,AW.get_put _ _ _⟩
section
variable {K:Nat->Prop} {V:AW} {M k many:Nat} {v:Ven} {W0:AW} {N:Int} {l:List SeT}
theorem a2B(h:MapS K V M k many v W0 N l)(i now:Int)(hN:N<100000000000000):∃u V',∃l',aK (.func (.func 21) #[] #[]) [mV M,.int .i64 i,.int .i64 now] V=some (.tuple #[u,.int .i64 (dQ i k now)],V')/\Gr V V' K/\HoL V' u l'/\(dQ i k now≠0->l'=[])/\(dQ i k now=0->mE (bQ l (jX k i.toNat)) now l')/\MapS K V' M k many v W0 (N+5000) (sM l now l'):=by
 obtain⟨u,V1,l',e1,e2,e3,e4,e5⟩:=a3F h i now;have hmn:=h.mn;have hlen:=h.len;have hl':l'.length<=4096:=by
  by_cases c:dQ i k now=0
  ·have h1:=(e5 c).2.length_eq;have h2:=List.length_filter_le (dM now) (bQ l (jX k i.toNat));have h3:=kV l (jX k i.toNat);omega
  ·rw[e4 c];simp
 by_cases c:dQ i k now=0;case neg=>
  have d1:=decide_eq_false c;have main:Ok (iT aK (mV M) (.int .i64 i) (.int .i64 now) V) (λr=>∃u,r.1=.tuple #[u,.int .i64 (dQ i k now)]/\Le V r.2/\NewL V.next r.2 u []):=by unfold iT;simp only[SX,e1,d1,aB];exact⟨_,rfl,e2,NewL.nil _ _⟩
  obtain⟨u',V',r1,r2,r3⟩:=C8 main kT;exact⟨u',V',[],r1,Le.gr r2 K,r3.row,λ_=>rfl,λx=>absurd x c,(h.le r2).grow (by omega)⟩
 have main:Ok (iT aK (mV M) (.int .i64 i) (.int .i64 now) V) (λr=>r.1=.tuple #[u,.int .i64 (dQ i k now)]/\Gr V r.2 K/\HoL r.2 u l'/\MapS K r.2 M k many v W0 (N+5000) (sM l now l')):=by
  unfold iT;have d0:decide ((0:Int)=0)=true:=rfl;have hd:=e5 c;rw[c]at e1|-;have hsh:=h.shift e2;obtain⟨K1,hK1⟩:∃K1:Nat->Prop,K1=λb=>K b/\b<V.next\/V1.next<=b:=⟨_,rfl⟩
  rw[<-hK1]at hsh;have hK:∀b,K1 b->K b:=λb hb=>by
   rw[hK1]at hb;rcases hb with hb|hb
   ·exact hb.1
   ·exact h.up (by have:=e2.next;omega)
  have hKn:∀b,V.next<=b->b<V1.next->¬K1 b:=λb h1 h2 hb=>by rw[hK1]at hb;rcases hb with hb|hb<;>omega
  have hlu:=λW'=>e3.row.len wL W' 3 #[false]
  simp only[SX,e1,d0,hlu];refine bD l'.length (by omega) (λj R U=>R 0=mV M/\R 2=.int .i64 now/\R 8=u/\R 24=u/\R 25=.int .i64 (l'.length:Int)/\R 26=.int .i64 (j:Int)/\Gr V1 U K1/\MapS K1 U M k many v W0 (N+(j:Int)) (sM l now (l'.take j)))
   (λr=>r.1=.exit 0/\r.2.1 8=u/\Gr V1 r.2.2 K1/\MapS K1 r.2.2 M k many v W0 (N+(l'.length:Int)) (sM l now l')) ⟨rfl,rfl,rfl,rfl,rfl,rfl,Gr.refl _ _,by rw[List.take_zero];exact hsh.grow (by omega)⟩ ?_ ?_ ?_
  ·rintro j R U hj ⟨r0,r2,r8,r24,r25,r26,u1,u2⟩;unfold kN;have t1:((j:Int)<(l'.length:Int)):=by omega
   have t2:=λW'=>aU (P:=Tryz.prog) (W:=W') (t:=3) (c:=false) (d:=true) (a:=(j:Int)) (b:=1) (by omega) (by omega)
   have e6:((j+1:Nat):Int)=(j:Int)+1:=by omega
   obtain⟨b,o,i1,i2,i3⟩:=HoL.get (NewL.row (NewL.gr e3 u1 hKn)) hj;obtain⟨s,s1,s2⟩:=a7H hd (List.getElem_mem hj);obtain⟨U1,U2,a1,a2,a3,a4,a5⟩:=aAf U l'[j];have ld0:=iJ (o:=0) (bT a5) rfl;have hs:(sM l now (l'.take j))[s]? =some (mY (sM l now (l'.take j)) s):=iK (by rw[wK];exact s2);generalize hx:mY (sM l now (l'.take j)) s=x at *;have m2:=u2.le a3;obtain⟨b2,o2,b3,b4,-⟩:=sAt m2 hs;have hxe:vY x=0:=u2.ok (List.mem_of_getElem? hs);obtain⟨U3,U4,c1,c2,c3,c4,c5⟩:=a8t U2 (rJ x now);have ld1:aL (.pointer (some ⟨U.next,0,none⟩)) U4=some (.int .i64 l'[j].1,U4):=iJ (o:=0) (bT ((c3.get _ (by omega)).trans a5)) rfl;have ld2:=bM c5;obtain⟨U5,f1,f2,f3⟩:=a9S (m2.le c3) hs (aAu now hxe) (by omega);rw[s1]at ld0 ld1;simp only[SX,r0,r2,r24,r25,r26,t1,decide_true,i1,(i3 U rfl).1,a1,a2,Nat.zero_add,ld0,b3,aH,b4,ZI,c1,c2,ld1,ld2,f1,t2,aB];refine .inl ⟨trivial,r0,r2,r8,r24,r25,by rw[e6];rfl,u1.trans ((Le.gr (a3.trans c3) K1).trans f3),?_⟩;rw[List.take_succ_eq_append_getElem hj,VE];unfold Z7;rw[s1,Int.toNat_natCast,hx];rw[e6,<-Int.add_assoc];exact f2
  ·rintro R U ⟨r0,r2,r8,r24,r25,r26,u1,u2⟩;unfold kN;have t1:¬((l'.length:Int)<(l'.length:Int)):=by omega
   rw[List.take_length]at u2;simp only[SX,r25,r26,t1,decide_false,aB];exact⟨by simp,trivial,r8,u1,u2⟩
  ·rintro⟨q,R,U⟩ ⟨rfl,r8,u1,u2⟩;simp only at r8 u1 u2;simp only[SX,r8,aB];exact⟨trivial,(Le.gr e2 K).trans (u1.mono hK),(NewL.gr e3 u1 hKn).row,(u2.weak hK λb hb=>h.wk hb).grow (by omega)⟩
 obtain⟨⟨r,V'⟩,h1,h2,h3,h4,h5⟩:=main;simp only at h2 h3 h4 h5;subst h2;rcases XH (W:=V) (W':=V') (.tuple #[u,.int .i64 (dQ i k now)])with hg|⟨hg,hle,hp⟩
 ·exact⟨u,V',l',by rw[kT h1,hg],h3,h4,e4,e5,h5⟩
 ·have hl0:l'=[]:=by
   obtain⟨a,c',rfl,hr⟩:=e3;rcases hr with hr|⟨B,rest,rfl,-⟩
   ·exact hr
   ·exact absurd hp (by simp[bB,fV,bZ])
  subst hl0;have hu:HoL V u []:=by obtain⟨a,c',rfl,hr⟩:=e3;exact⟨a,c',rfl,.inl rfl⟩
  exact⟨u,V,[],by rw[kT h1,hg],Gr.refl _ _,hu,e4,e5,h.grow (by omega)⟩
end
theorem xQ(v u x y:Value)(W:AW):aJ Tryz.prog [(v,none),(u,none),(x,none),(y,none)] W=some (.tuple #[v,u,x,y],W):=Eq.trans rfl rfl
theorem a4j{α:Type}(p:α->Bool):∀l:List α,l.findIdx p+(l.filter p).length<=l.length
 |[]=>by simp
 |a::l=>by
  rw[List.findIdx_cons,List.filter_cons];have:=a4j p l;cases p a
  ·simp;omega
  ·have h2:=List.length_filter_le p l;simp;omega
theorem BU{v:Ven}{sec:Int}(he:(CP v sec).2.2=0):∃F C:Nat,(CP v sec).1=(F:Int)/\(CP v sec).2.1=(C:Int)/\((F+C:Nat):Int)<=dA v.secs:=by
 rw[<-a8T]at he|-;unfold wC at he|-;by_cases h:(lW v).2=0
 ·rw[if_pos h]at he|-;by_cases h2:((lQ v.secs).filter (eX sec)).length=0
  ·rw[if_pos h2]at he;simp at he
  ·rw[if_neg h2];refine⟨_,_,rfl,rfl,?_⟩;have h3:=a4j (eX sec) (lQ v.secs);have h4:=xJ (fT h).1;unfold WZ;rw[if_neg h2];omega
 ·rw[if_neg h]at he;exact absurd he h
theorem aAZ:nI Tryz.prog #[69,69] 1 8=true:=by kernel_rfl
theorem aCL(x:Int)(W:AW):aR Tryz.prog 69 1 [(0,.int .i64 x)] W=some (.slice (some ⟨W.next,0,none⟩) 1 1,W.add (.cells (vO x))):=Eq.trans (by kernel_rfl) rfl
def MR(l:List SeT)(F C:Nat):List Int:=((List.range C).filter λj=>decide ((mY l (F+j)).st=0)).map λj=>((F+j:Nat):Int)
theorem D5(l:List SeT)(F C:Nat):MR l F (C+1)=MR l F C++(if(mY l (F+C)).st=0 then [((F+C:Nat):Int)]else []):=by
 unfold MR;rw[List.range_succ,List.filter_append,List.map_append];congr 1;by_cases c:(mY l (F+C)).st=0
 ·rw[if_pos c];simp[c]
 ·rw[if_neg c];simp[c]
theorem GN(l:List SeT)(F C:Nat):(MR l F C).length<=C:=by unfold MR;rw[List.length_map];have:=List.length_filter_le (λj=>decide ((mY l (F+j)).st=0)) (List.range C);rwa [List.length_range]at this
def eZ(l:List SeT)(F C:Nat)(t:Int):Nat:=((List.range C).filter λj=>decide ((mY l (F+j)).st=t)).length
theorem WP(l:List SeT)(F C:Nat)(t:Int):eZ l F (C+1) t=eZ l F C t+if(mY l (F+C)).st=t then 1 else 0:=by
 unfold eZ;rw[List.range_succ,List.filter_append,List.length_append];congr 1;by_cases c:(mY l (F+C)).st=t
 ·rw[if_pos c];simp[c]
 ·rw[if_neg c];simp[c]
theorem a3g(l:List SeT)(F C:Nat)(t:Int):eZ l F C t<=C:=by unfold eZ;have:=List.length_filter_le (λj=>decide ((mY l (F+j)).st=t)) (List.range C);rwa [List.length_range]at this
theorem a0e{x:SeT}(h:vY x=0):x.st=0\/x.st=1\/x.st=2:=by
 unfold vY at h;split at h
 ·omega
 ·split at h
  ·omega
  ·split at h<;>omega
section
variable {K:Nat->Prop} {V:AW} {M k many:Nat} {v:Ven} {W0:AW} {N:Int} {l:List SeT}
theorem a3M(h:MapS K V M k many v W0 N l)(hv:v.secs.length<1000)(sec:Int):aK (.func (.func 96) #[] #[]) [mV M,.int .i64 sec] V=some (.tuple #[.int .i64 (CP v sec).1,.int .i64 (CP v sec).2.1,.int .i64 (CP v sec).2.2],V):=by refine aN rfl ?_ zF;unfold uG;have hok:=TZ h;obtain⟨d,rfl,rfl,rfl,rfl,rfl,-,-,-,p⟩:=h;have ho:=aCH (sec:=sec) (p.secs.mono p.w0) hv;simp only[SX,hok,aH,Nat.zero_add,p.lv,ho,aB];exact⟨trivial,Le.refl _⟩
def SK(v:Ven)(l:List SeT)(sec:Int):List Int:=if(CP v sec).2.2=0 then MR l (CP v sec).1.toNat (CP v sec).2.1.toNat else []
theorem a8h(h:MapS K V M k many v W0 N l)(hv:v.secs.length<1000)(ht:(many:Int)=dA v.secs)(sec:Int):∃u V',aK (.func (.func 31) #[] #[]) [mV M,.int .i64 sec] V=some (.tuple #[u,.int .i64 (CP v sec).2.2],V')/\Le V V'/\Ints V' u (SK v l sec):=by
 have hse:=a3M h hv sec;have hmn:=h.mn;have hlen:=h.len;refine O5 ?_ F4;unfold z8;by_cases c:(CP v sec).2.2=0;case neg=>have d1:=decide_eq_false c;simp only[SX,hse,d1,aB];refine⟨_,rfl,Le.refl _,?_⟩;unfold SK;rw[if_neg c];exact Row.nil
 obtain⟨F,C,e1,e2,e3⟩:=BU c;have d0:decide ((0:Int)=0)=true:=rfl;have hfr:SK v l sec=MR l F C:=by unfold SK;rw[if_pos c,e1,e2,Int.toNat_natCast,Int.toNat_natCast]
 rw[e1,e2,c]at hse;rw[c,hfr];simp only[SX,hse,d0];refine bD C (by omega) (λi R U=>Le V U/\R 0=mV M/\R 6=.int .i64 (F:Int)/\R 7=.int .i64 (C:Int)/\R 10=.int .i64 ((F+i:Nat):Int)/\Lst V.next U 1 vO (R 9) (MR l F i))
  (λr=>r.1=.exit 0/\Le V r.2.2/\Lst V.next r.2.2 1 vO (r.2.1 9) (MR l F C)) ⟨Le.refl _,rfl,rfl,rfl,rfl,Lst.nil _ _ _ _⟩ ?_ ?_ ?_
 ·rintro i R U hi ⟨u1,r0,r6,r7,r10,u2⟩;unfold mP;have t0:=λW'=>aU (P:=Tryz.prog) (W:=W') (t:=3) (c:=false) (d:=false) (a:=(F:Int)) (b:=(C:Int)) (by omega) (by omega)
  have t1:(((F+i:Nat):Int)<(F:Int)+(C:Int)):=by omega
  have t2:=λW'=>aU (P:=Tryz.prog) (W:=W') (t:=3) (c:=false) (d:=true) (a:=((F+i:Nat):Int)) (b:=1) (by omega) (by omega)
  have e6:((F+(i+1):Nat):Int)=((F+i:Nat):Int)+1:=by omega
  obtain⟨b,o,a1,-,a3⟩:=sAt (h.le u1) (iK (l:=l) (j:=F+i) (by omega));have hfl:=GN l F i;by_cases c2:(mY l (F+i)).st=0
  ·have d2:=decide_eq_true c2;have hb:cellsAt (U.add (.cells (vO ((F+i:Nat):Int)))) U.next=some (vO ((F+i:Nat):Int)):=bR;obtain⟨v',U',p1,p2,p3,p4⟩:=(u2.mono ((Le.refl U).add (.cells (vO ((F+i:Nat):Int))))).push (c:=1) aAZ A7 RU hb (by omega) (by omega) (by rw[AW.add_next];have:=u1.next;omega);simp only[SX,r0,r6,r7,r10,t0,t1,decide_true,a1,aH,Nat.zero_add,Nat.add_zero,a3,d2,aCL,p1,t2,aB];refine .inl ⟨trivial,p4 V (u1.add _) (Nat.le_refl _),r0,r6,r7,by rw[e6];rfl,?_⟩;rw[D5,if_pos c2];exact p2
  ·have d2:=decide_eq_false c2;simp only[SX,r0,r6,r7,r10,t0,t1,decide_true,a1,aH,Nat.zero_add,Nat.add_zero,a3,d2,t2,aB];refine .inl ⟨trivial,u1,r0,r6,r7,by rw[e6];rfl,?_⟩;rw[D5,if_neg c2,List.append_nil];exact u2
 ·rintro R U ⟨u1,r0,r6,r7,r10,u2⟩;unfold mP;have t0:=λW'=>aU (P:=Tryz.prog) (W:=W') (t:=3) (c:=false) (d:=false) (a:=(F:Int)) (b:=(C:Int)) (by omega) (by omega)
  have t1:¬(((F+C:Nat):Int)<(F:Int)+(C:Int)):=by omega
  simp only[SX,r6,r7,r10,t0,t1,decide_false,aB];exact⟨by simp,trivial,u1,u2⟩
 ·rintro⟨q,R,U⟩ ⟨rfl,u1,u2⟩;simp only at u1 u2;simp only[SX,aB];exact⟨_,rfl,u1,u2.ints⟩
def D9(v:Ven)(l:List SeT)(sec t:Int):Int:=if(CP v sec).2.2=0 then(eZ l (CP v sec).1.toNat (CP v sec).2.1.toNat t:Int)else 0
theorem a4q(h:MapS K V M k many v W0 N l)(hv:v.secs.length<1000)(ht:(many:Int)=dA v.secs)(sec:Int):aK (.func (.func 32) #[] #[]) [mV M,.int .i64 sec] V=some (.tuple #[.int .i64 (D9 v l sec 0),.int .i64 (D9 v l sec 1),.int .i64 (D9 v l sec 2),.int .i64 (CP v sec).2.2],V):=by
 have hse:=a3M h hv sec;have hmn:=h.mn;have hlen:=h.len;refine aN rfl ?_ D8;unfold xG;by_cases c:(CP v sec).2.2=0;case neg=>
  have d1:=decide_eq_false c;have e:∀t,D9 v l sec t=0:=λt=>by unfold D9;rw[if_neg c]
  simp only[SX,hse,d1,xQ,aB];exact⟨by rw[e,e,e],Le.refl _⟩
 obtain⟨F,C,e1,e2,e3⟩:=BU c;have d0:decide ((0:Int)=0)=true:=rfl;have hco:∀t,D9 v l sec t=(eZ l F C t:Int):=λt=>by unfold D9;rw[if_pos c,e1,e2,Int.toNat_natCast,Int.toNat_natCast]
 rw[e1,e2,c]at hse;rw[c,hco,hco,hco];simp only[SX,hse,d0];refine bD C (by omega) (λi R U=>U=V/\R 0=mV M/\R 8=.int .i64 (F:Int)/\R 9=.int .i64 (C:Int)/\R 10=.int .i64 ((F+i:Nat):Int)/\R 4=.int .i64 (eZ l F i 0:Int)/\R 5=.int .i64 (eZ l F i 1:Int)/\R 6=.int .i64 (eZ l F i 2:Int))
  (λr=>r.1=.exit 0/\r.2.2=V/\r.2.1 4=.int .i64 (eZ l F C 0:Int)/\r.2.1 5=.int .i64 (eZ l F C 1:Int)/\r.2.1 6=.int .i64 (eZ l F C 2:Int)) ⟨rfl,rfl,rfl,rfl,rfl,rfl,rfl,rfl⟩ ?_ ?_ ?_
 ·rintro i R U hi ⟨rfl,r0,r8,r9,r10,r4,r5,r6⟩;unfold lS;have t0:=λW'=>aU (P:=Tryz.prog) (W:=W') (t:=3) (c:=false) (d:=false) (a:=(F:Int)) (b:=(C:Int)) (by omega) (by omega)
  have t1:(((F+i:Nat):Int)<(F:Int)+(C:Int)):=by omega
  have t2:=λW'=>aU (P:=Tryz.prog) (W:=W') (t:=3) (c:=false) (d:=true) (a:=((F+i:Nat):Int)) (b:=1) (by omega) (by omega)
  have e6:((F+(i+1):Nat):Int)=((F+i:Nat):Int)+1:=by omega
  have t3:=λt W'=>aU (P:=Tryz.prog) (W:=W') (t:=3) (c:=false) (d:=true) (a:=(eZ l F i t:Int)) (b:=1) (by omega) (by have:=a3g l F i t;omega)
  have hx:=iK (l:=l) (j:=F+i) (by omega);obtain⟨b,o,a1,-,a3⟩:=sAt h hx;have hst:=a0e (h.ok (List.mem_of_getElem? hx));have q:∀t,eZ l F (i+1) t=eZ l F i t+if(mY l (F+i)).st=t then 1 else 0:=WP l F i
  have qy:∀t,(mY l (F+i)).st=t->(eZ l F (i+1) t:Int)=(eZ l F i t:Int)+1:=λt ht=>by rw[q,if_pos ht];rfl
  have qn:∀t,(mY l (F+i)).st≠t->(eZ l F (i+1) t:Int)=(eZ l F i t:Int):=λt ht=>by rw[q,if_neg ht];rfl
  rcases hst with c2|c2|c2
  ·have d2:decide ((mY l (F+i)).st=0)=true:=decide_eq_true c2;simp only[SX,r0,r8,r9,r10,r4,t0,t1,decide_true,a1,aH,Nat.zero_add,Nat.add_zero,a3,d2,t2,t3,aB];exact .inl ⟨trivial,trivial,r0,r8,r9,by rw[e6];rfl,by rw[qy 0 c2];rfl,by rw[qn 1 (by omega)];exact r5,by rw[qn 2 (by omega)];exact r6⟩
  ·have d2:decide ((mY l (F+i)).st=0)=false:=decide_eq_false (by omega);have d3:decide ((mY l (F+i)).st=1)=true:=decide_eq_true c2;simp only[SX,r0,r8,r9,r10,r5,t0,t1,decide_true,a1,aH,Nat.zero_add,Nat.add_zero,a3,d2,d3,t2,t3,aB];exact .inl ⟨trivial,trivial,r0,r8,r9,by rw[e6];rfl,by rw[qn 0 (by omega)];exact r4,by rw[qy 1 c2];rfl,by rw[qn 2 (by omega)];exact r6⟩
  ·have d2:decide ((mY l (F+i)).st=0)=false:=decide_eq_false (by omega);have d3:decide ((mY l (F+i)).st=1)=false:=decide_eq_false (by omega);simp only[SX,r0,r8,r9,r10,r6,t0,t1,decide_true,a1,aH,Nat.zero_add,Nat.add_zero,a3,d2,d3,t2,t3,aB];exact .inl ⟨trivial,trivial,r0,r8,r9,by rw[e6];rfl,by rw[qn 0 (by omega)];exact r4,by rw[qn 1 (by omega)];exact r5,by rw[qy 2 c2];rfl⟩
 ·rintro R U ⟨rfl,r0,r8,r9,r10,r4,r5,r6⟩;unfold lS;have t0:=λW'=>aU (P:=Tryz.prog) (W:=W') (t:=3) (c:=false) (d:=false) (a:=(F:Int)) (b:=(C:Int)) (by omega) (by omega)
  have t1:¬(((F+C:Nat):Int)<(F:Int)+(C:Int)):=by omega
  simp only[SX,r8,r9,r10,t0,t1,decide_false,aB];exact⟨by simp,trivial,trivial,r4,r5,r6⟩
 ·rintro⟨q,R,U⟩ ⟨rfl,rfl,r4,r5,r6⟩;simp only at r4 r5 r6;simp only[SX,r4,r5,r6,xQ,aB];exact⟨trivial,Le.refl _⟩
end
theorem a3l{W:AW}{va vb:Value}{l m:List SeT}(ha:SeL W va l)(hb:SeL W vb m)(hl:l.length<=10000):aK (.func (.func 25) #[] #[]) [va,vb] W=some (.bool (decide (l=m)),W):=by
 refine aN rfl ?_ F6;unfold yP;simp only[SX,ha.len jT,hb.len jT];by_cases hlm:l.length=m.length;case neg=>
  have e1:¬((l.length:Int)=(m.length:Int)):=by omega
  have e2:¬l=m:=λh=>hlm (by rw[h])
  simp only[SX,e1,e2,decide_false,aB];exact⟨trivial,.refl _⟩
 have e1:((l.length:Int)=(m.length:Int)):=by omega
 simp only[SX,e1];refine bD l.length (by omega) (λk R W'=>W'=W/\R 0=va/\R 1=vb/\R 5=.int .i64 (k:Int)/\l.take k=m.take k)
  (λr=>(r.1=.exit 0/\r.2.2=W/\l=m)\/(r.1=.ret/\r.2.2=W/\r.2.1 4=.bool false/\¬l=m)) ⟨rfl,rfl,rfl,rfl,by simp⟩ ?_ ?_ ?_
 ·rintro k R W' hk ⟨rfl,r0,r1,r5,hE⟩;unfold nA;obtain⟨b,o,-,i1,i3,-⟩:=SeL.get ha (List.getElem?_eq_getElem hk);obtain⟨b',o',-,j1,j3,-⟩:=SeL.get hb (List.getElem?_eq_getElem (show k<m.length by omega));have t1:((k:Int)<(l.length:Int)):=by omega
  have t2:=λW'=>aU (P:=Tryz.prog) (W:=W') (t:=3) (c:=false) (d:=true) (a:=(k:Int)) (b:=1) (by omega) (by omega)
  simp only[SX,r0,r1,r5,ha.len jT,t1,i1,i3 _ (Le.refl _),j1,j3 _ (Le.refl _),aCX];by_cases h:l[k]=m[k]
  ·have dh:=decide_eq_true h;simp only[SX,dh,t2,aB];refine .inl ⟨trivial,trivial,r0,r1,by rw[show((k+1:Nat):Int)=(k:Int)+1 by omega];rfl,?_⟩;rw[List.take_succ_eq_append_getElem hk,List.take_succ_eq_append_getElem (show k<m.length by omega),hE,h]
  ·have dh:=decide_eq_false h;simp only[SX,dh,aB];exact .inr ⟨by simp,.inr ⟨trivial,trivial,rfl,λe=>h (by subst e;rfl)⟩⟩
 ·rintro R W' ⟨rfl,r0,r1,r5,hE⟩;unfold nA;have t1:¬((l.length:Int)<(l.length:Int)):=by omega
  simp only[SX,r0,r1,r5,ha.len jT,t1,aB];refine⟨by simp,.inl ⟨trivial,trivial,?_⟩⟩;rwa [List.take_length,hlm,List.take_length]at hE
 ·rintro⟨x,R,W'⟩ hq;simp only at hq;rcases hq with⟨rfl,rfl,hq⟩|⟨rfl,rfl,r4,hq⟩
  ·have dh:=decide_eq_true hq;simp only[SX,dh,aB];exact⟨trivial,.refl _⟩
  ·have dh:=decide_eq_false hq;simp only[SX,r4,dh,aB];exact⟨trivial,.refl _⟩
abbrev eF(v:Ven)(sv rv:Value):Value:=.agg #[.int .i64 v.sh,.int .i64 v.ttl,.int .i64 v.ses,sv,rv]
abbrev dJ(v:Ven)(sv rv:Value):List Value:=[.int .i64 v.sh,.int .i64 v.ttl,.int .i64 v.ses,sv,rv]
def Sl(v:Value):Prop:=Eng.one v=true/\SY v v=true
structure RefA (W:AW) (v:Ven) (sv rv:Value) (l:List SeT):Prop where
 s1:Sl sv
 r1:Sl rv
 row:SeL W rv l
 secs:Secs W sv v.secs
 sh:1<=v.sh/\v.sh<=16
 lb:l.length<=4096
theorem RefA.mono{W W':AW}{v:Ven}{sv rv:Value}{l:List SeT}(h:RefA W v sv rv l)(hl:Le W W'):RefA W' v sv rv l:={h with row:=h.row.mono hl,secs:=h.secs.mono hl}
theorem RefA.with{W W':AW}{v:Ven}{sv rv rv':Value}{l l':List SeT}(h:RefA W v sv rv l)(hl:Le W W')(h1:Sl rv')(h2:SeL W' rv' l')(h3:l'.length<=4096):RefA W' v sv rv' l':=⟨h.s1,h1,h2,h.secs.mono hl,h.sh,h3⟩
theorem tQ(v:Ven)(sv rv:Value)(W:AW):∃W1,bW (eF v sv rv) W=some (.pointer (some ⟨W.next,0,none⟩),W1)/\Le W W1/\W1.next=W.next+1/\W1.get W.next=some (.cells (dJ v sv rv)):=⟨_,gF _,(Le.refl _).add _,AW.add_next _ _,AW.get_add _ _⟩
theorem WJ(W:AW):∃W1,aW Tryz.prog 56 W=some (.pointer (some ⟨W.next,0,none⟩),W1)/\Le W W1/\W1.next=W.next+1/\W1.get W.next=some (.cells (dJ ⟨0,0,0,[]⟩ (.slice none 0 0) (.slice none 0 0))):=⟨_,Eq.trans (by kernel_rfl) rfl,(Le.refl _).add _,AW.add_next _ _,AW.get_add _ _⟩
theorem DF(x:Value)(W:AW):rH Tryz.prog 56 x W=bH 5 x W:=by kernel_rfl
theorem qZ{v v':Ven}{sv rv sv' rv':Value}{W:AW}{b:Nat}(h:W.get b=some (.cells (dJ v' sv' rv')))(h1:Eng.one sv=true)(h2:Eng.one rv=true):cO 5 (.pointer (some ⟨b,0,none⟩)) (eF v sv rv) W=some (undef,W.put b (.cells (dJ v sv rv))):=
 zL (n:=5) (o:=0) (v:=eF v sv rv) h rfl (Nat.le_refl _) (by show(true&&(true&&(true&&(Eng.one sv&&(Eng.one rv&&true)))))=true;rw[h1,h2];rfl)
theorem dN{v:Ven}{sv rv:Value}{W:AW}{b:Nat}(h:W.get b=some (.cells (dJ v sv rv))):bH 5 (.pointer (some ⟨b,0,none⟩)) W=some (eF v sv rv,W):=sS (bK h) rfl
theorem YO{v:Ven}{sv rv:Value}{W:AW}{b:Nat}(h:W.get b=some (.cells (dJ v sv rv))):bH 4 (.pointer (some ⟨b,0,none⟩)) W=some (kR v sv,W):=qD (bK h) rfl
theorem a1j{v:Ven}{sv rv:Value}(h1:SY sv sv=true)(h2:SY rv rv=true):vsame (eF v sv rv) (eF v sv rv)=true:=UY (by simp only[vsL,aAr,h1,h2,Bool.and_self])
section
variable {W:AW} {v:Ven} {sv rv:Value} {l:List SeT}
theorem a5x(h:RefA W v sv rv l)(n:Int):aK (.func (.func 87) #[] #[]) [eF v sv rv,.int .i64 n] W=some (.tuple #[lY (a1o l n),.int .i64 (K7 n l.length)],W):=by
 refine aN rfl ?_ XJ;unfold WR;obtain⟨W1,k1,k2,k3,k4⟩:=tQ v sv rv W;obtain⟨W2,a1,a2,a3,a4⟩:=aDJ W1;have hle:=k2.trans a2;have c4:aL (.pointer (some ⟨W.next,4,none⟩)) W2=some (rv,W2):=iJ (bT ((a2.get _ (by omega)).trans k4)) rfl;have st:=λy=>a2M (x:=y) a4
 have ld:=λy=>bM (x:=y) (W:=W2.put W1.next (.cells (dP y))) (b:=W1.next) (AW.get_put _ _ _)
 have fin:∀o,Le W (W2.put W1.next o):=λo=>hle.put (by omega) o
 unfold a1o;by_cases c1:n<0
 ·have d1:=decide_eq_true c1;have e:K7 n l.length=4:=by unfold K7;rw[if_pos (.inl c1)]
  have e':¬K7 n l.length=0:=by omega
  simp only[SX,nP,nQ,k1,a1,d1,a7C,st,bF,DV,ld,Option.bind_some,aB];exact⟨by rw[if_neg e',e],fin _⟩
 ·have d1:=decide_eq_false c1;by_cases c2:(l.length:Int)<=n
  ·have d2:=decide_eq_true c2;have e:K7 n l.length=4:=by unfold K7;rw[if_pos (.inr c2)]
   have e':¬K7 n l.length=0:=by omega
   simp only[SX,nP,nQ,k1,a1,d1,Nat.zero_add,c4,h.row.len jT,d2,a7C,st,bF,DV,ld,Option.bind_some,aB];exact⟨by rw[if_neg e',e],fin _⟩
  ·have d2:=decide_eq_false c2;have e:K7 n l.length=0:=by unfold K7;rw[if_neg (by omega)]
   obtain⟨s,rfl,hs⟩:=XM e;obtain⟨b,o,-,i1,i2,-⟩:=SeL.get h.row (iK hs);simp only[SX,nP,nQ,k1,a1,d1,Nat.zero_add,c4,h.row.len jT,d2,i1,i2 _ hle,st,bF,DV,ld,Option.bind_some,aB];exact⟨by rw[if_pos e,e];rfl,fin _⟩
theorem a5t(h:RefA W v sv rv l)(n:Int)(y:SeT):∃rv' W',aK (.func (.func 86) #[] #[]) [eF v sv rv,.int .i64 n,lY y] W=some (.tuple #[eF v sv rv',.int .i64 (BP l n y)],W')/\Le W W'/\RefA W' v sv rv' (jL l n y)/\((rv'=rv/\jL l n y=l)\/∃B c,W.next<=B/\B<W'.next/\rv'=.slice (some ⟨B,0,none⟩) (jL l n y).length c/\W'.get B=some (.cells ((jL l n y).flatMap dP))):=by
 obtain⟨W1,k1,k2,k3,k4⟩:=tQ v sv rv W;have main:Ok (JU aK (eF v sv rv) (.int .i64 n) (lY y) W) λr=>∃rv',r.1=.tuple #[eF v sv rv',.int .i64 (BP l n y)]/\Le W r.2/\RefA r.2 v sv rv' (jL l n y)/\((rv'=rv/\jL l n y=l)\/∃B c,W.next<=B/\B<r.2.next/\rv'=.slice (some ⟨B,0,none⟩) (jL l n y).length c/\r.2.get B=some (.cells ((jL l n y).flatMap dP))):=by
  unfold JU;simp only[SX,k1,BK];have l1:Le W1 (W1.add (.cells (dP y))):=(Le.refl _).add _;have n1:(W1.add (.cells (dP y))).next=W1.next+1:=AW.add_next _ _;have g1:(W1.add (.cells (dP y))).get W1.next=some (.cells (dP y)):=AW.get_add _ _;generalize W1.add (.cells (dP y))=W2 at *;obtain⟨W3,a1,a2,a3,a4⟩:=WJ W2;have l2:=k2.trans l1;have hle:=l2.trans a2;have x1:W3.get W.next=some (.cells (dJ v sv rv)):=by rw[a2.get _ (by omega),l1.get _ (by omega)];exact k4
  have x2:W3.get W1.next=some (.cells (dP y)):=by rw[a2.get _ (by omega)];exact g1
  have c4:aL (.pointer (some ⟨W.next,4,none⟩)) W3=some (rv,W3):=iJ (bT x1) rfl;have hs1:=h.s1.1;have hr1:=h.r1.1;have fin:∀o,Le W (W3.put W2.next o):=λo=>hle.put (by omega) o
  have ldp:=λx y=>dN (v:=v) (sv:=x) (rv:=y) (W:=W3.put W2.next (.cells (dJ v x y))) (b:=W2.next) (AW.get_put _ _ _)
  by_cases e:K7 n l.length=0;case neg=>
   have e4:K7 n l.length=4:=by
    unfold K7 at e|-;by_cases c:n<0\/(l.length:Int)<=n
    ·rw[if_pos c]
    ·rw[if_neg c]at e;exact absurd rfl e
   have ep:BP l n y=4:=by unfold BP;rw[if_pos e,e4]
   have eL:jL l n y=l:=by unfold jL;rw[if_neg (by omega)]
   rw[ep,eL];by_cases c1:n<0
   ·have d1:=decide_eq_true c1;simp only[SX,nP,nQ,a1,d1,dN x1,qZ (v:=v) a4 hs1 hr1,bF,DF,ldp,Option.bind_some,aB];exact⟨rv,rfl,fin _,h.mono (fin _),.inl ⟨rfl,trivial⟩⟩
   ·have d1:=decide_eq_false c1;have d2:decide ((l.length:Int)<=n)=true:=decide_eq_true (by unfold K7 at e;split at e<;>omega);simp only[SX,nP,nQ,a1,d1,Nat.zero_add,c4,h.row.len jT,d2,dN x1,qZ (v:=v) a4 hs1 hr1,bF,DF,ldp,Option.bind_some,aB];exact⟨rv,rfl,fin _,h.mono (fin _),.inl ⟨rfl,trivial⟩⟩
  obtain⟨s,rfl,hs⟩:=XM e;have d1:decide ((s:Int)<0)=false:=decide_eq_false (by omega);have d2:decide ((l.length:Int)<=(s:Int))=false:=decide_eq_false (by omega);by_cases c3:vY y=0;case neg=>
   have d3:=decide_eq_false c3;have ep:BP l (s:Int) y=6:=by unfold BP;rw[if_neg (λx=>x e),if_pos c3]
   have eL:jL l (s:Int) y=l:=by unfold jL;rw[if_neg (by omega)]
   rw[ep,eL];simp only[SX,nP,nQ,a1,d1,Nat.zero_add,c4,h.row.len jT,d2,bM x2,lX,d3,dN x1,qZ (v:=v) a4 hs1 hr1,bF,DF,ldp,Option.bind_some,aB];exact⟨rv,rfl,fin _,h.mono (fin _),.inl ⟨rfl,trivial⟩⟩
  have d3:=decide_eq_true c3;have ep:BP l (s:Int) y=0:=by unfold BP;rw[if_neg (λx=>x e),if_neg (λx=>x c3)]
  have eL:jL l (s:Int) y=l.set s y:=by unfold jL;rw[if_pos ep];rfl
  rw[ep,eL];have l4:Le W3 (W3.add (.cells [])):=(Le.refl _).add _;have n4:(W3.add (.cells [])).next=W3.next+1:=AW.add_next _ _;have c5:aL (.pointer (some ⟨W.next,4,none⟩)) (W3.add (.cells []))=some (rv,W3.add (.cells [])):=iJ (bT ((l4.get _ (by omega)).trans x1)) rfl;simp only[SX,nP,nQ,a1,d1,Nat.zero_add,c4,h.row.len jT,d2,bM x2,lX,d3,a7u,c5];generalize W3.add (.cells [])=W4 at *;obtain⟨u,W5,b1,b2,b3⟩:=IP a4F dX CB (h.row.mono (hle.trans l4)) (λ_ _ _=>a3Q) (by have:=h.lb;omega) (by have:=h.lb;omega) (b:=W3.next) (by omega);have hu:=b3.one;have x5:W5.get W.next=some (.cells (dJ v sv rv)):=by rw[b2.get _ (by omega),l4.get _ (by omega)];exact x1
  have x6:W5.get W1.next=some (.cells (dP y)):=by rw[b2.get _ (by omega),l4.get _ (by omega)];exact x2
  have x7:W5.get W2.next=some (.cells (dJ ⟨0,0,0,[]⟩ (.slice none 0 0) (.slice none 0 0))):=by rw[b2.get _ (by omega),l4.get _ (by omega)];exact a4
  obtain⟨B,c,q0,q1,rfl,q2⟩:=b3;have n5:=b2.next;have st4:=YM (b:=W.next) (o:=4) (v:=.slice (some ⟨B,0,none⟩) l.length c) x5 (by simp) rfl rfl;have st4':cO 1 (.pointer (some ⟨W.next,4,none⟩)) (.slice (some ⟨B,0,none⟩) l.length c) W5=some (undef,W5.put W.next (.cells (dJ v sv (.slice (some ⟨B,0,none⟩) l.length c)))):=st4;obtain⟨W6,hW6⟩:∃W6,W6=W5.put W.next (.cells (dJ v sv (.slice (some ⟨B,0,none⟩) l.length c))):=⟨_,rfl⟩;rw[<-hW6]at st4';have y1:W6.get W.next=some (.cells (dJ v sv (.slice (some ⟨B,0,none⟩) l.length c))):=by rw[hW6];exact AW.get_put _ _ _
  have y0:∀b,b≠W.next->W6.get b=W5.get b:=λb hb=>by rw[hW6];exact AW.get_put_ne _ _ λx=>hb x.symm
  have n6:W6.next=W5.next:=by rw[hW6];rfl
  have c6:aL (.pointer (some ⟨W.next,4,none⟩)) W6=some (.slice (some ⟨B,0,none⟩) l.length c,W6):=iJ (bT y1) rfl;have hne:l≠[]:=λx=>by rw[x]at hs;simp at hs
  have hBn:B≠W.next:=by omega
  have gB:W6.get B=some (.cells (l.flatMap dP)):=by rw[y0 B hBn];exact q2 hne
  have ix:=λW' q=>mZ (W:=W') (z:=5) (b:=B) (o:=0) (l:=l.length) (c:=c) (i:=s) (k:=q) hs
  have hst:=zL (n:=5) (b:=B) (o:=s*5) (v:=lY y) gB rfl (by show s*5+5<=_;rw[aZ dX];omega) rfl;have e5:jO (l.flatMap dP) (s*5) (lY y).cells.toList=(l.set s y).flatMap dP:=zK dX (iK hs) y;rw[e5]at hst;obtain⟨W7,hW7⟩:∃W7,W7=W6.put B (.cells ((l.set s y).flatMap dP)):=⟨_,rfl⟩;rw[<-hW7]at hst;have z0:∀b,b≠B->W7.get b=W6.get b:=λb hb=>by rw[hW7];exact AW.get_put_ne _ _ λx=>hb x.symm
  have z1:W7.get B=some (.cells ((l.set s y).flatMap dP)):=by rw[hW7];exact AW.get_put _ _ _
  have n7:W7.next=W6.next:=by rw[hW7];rfl
  have c7:=dN ((z0 W.next (λx=>hBn x.symm)).trans y1);have x8:W7.get W2.next=some (.cells (dJ ⟨0,0,0,[]⟩ (.slice none 0 0) (.slice none 0 0))):=by rw[z0 _ (by omega),y0 _ (by omega)];exact x7
  have c8:=bM ((y0 W1.next (by omega)).trans x6);have st8:=qZ (v:=v) (rv:=.slice (some ⟨B,0,none⟩) l.length c) x8 hs1 rfl;have ld8:=dN (v:=v) (sv:=sv) (rv:=.slice (some ⟨B,0,none⟩) l.length c) (W:=W7.put W2.next (.cells (dJ v sv (.slice (some ⟨B,0,none⟩) l.length c)))) (b:=W2.next) (AW.get_put _ _ _);simp only[SX,Nat.zero_add,b1,st4',c6,ix,c8,hst,c7,st8,bF,DF,ld8,Option.bind_some,aB];have lf:Le W (W7.put W2.next (.cells (dJ v sv (.slice (some ⟨B,0,none⟩) l.length c)))):=by refine Le.put ⟨by have:=hle.next;omega,λb hb=>?_⟩ (by omega) _;rw[z0 b (by omega),y0 b (by omega),b2.get b (by omega),l4.get b (by omega)];exact hle.get b hb
  refine⟨_,rfl,lf,h.with lf ⟨rfl,pY _ _ _ _⟩ ?_ (by rw[List.length_set];exact h.lb),.inr ⟨B,c,by have:=hle.next;omega,by rw[AW.put_next];omega,by rw[List.length_set],by rw[AW.get_put_ne _ _ (by omega)];exact z1⟩⟩;refine OwnL.row (lo:=0) dX ⟨B,c,Nat.zero_le _,by rw[AW.put_next];omega,by rw[List.length_set],λ_=>?_⟩ KE;rw[AW.get_put_ne _ _ (by omega)];exact z1
 obtain⟨⟨r,W'⟩,h1,rv',h2,h3,h4,h5⟩:=main;simp only at h2 h3 h4 h5;subst h2;rcases XH (W:=W) (W':=W') (.tuple #[eF v sv rv',.int .i64 (BP l n y)])with hg|⟨hg,hle,hp⟩
 ·exact⟨rv',W',by rw[FW h1,hg],h3,h4,h5⟩
 ·rcases h5 with h5|⟨B,c,-,-,rfl,-⟩
  ·refine⟨rv',W,by rw[FW h1,hg],Le.refl _,?_,.inl h5⟩;rw[h5.1,h5.2];exact h
  ·simp[bB,fV,bZ]at hp
end
end Go.Proofs.YtnigceddndemkaaGreatDoor.Ho
