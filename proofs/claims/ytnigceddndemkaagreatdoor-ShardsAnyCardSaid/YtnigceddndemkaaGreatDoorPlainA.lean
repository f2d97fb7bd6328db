/- Contracts of functions, and their laws. -/
import Derived.Test.YtnigceddndemkaaGreatDoorSDec
import Derived.Test.YtnigceddndemkaaGreatDoorOpnA
import Derived.Test.YtnigceddndemkaaGreatDoorHpA
import Derived.Test.YtnigceddndemkaaGreatDoorHpB
import Derived.Test.YtnigceddndemkaaGreatDoorOpzA
import Derived.KernelRfl
set_option linter.unusedVariables false
set_option linter.unusedSimpArgs false
set_option linter.unusedSectionVars false
namespace Go.Proofs.YtnigceddndemkaaGreatDoor
open Go Go.Eng Go.Hp
set_option maxRecDepth 100000
theorem jE{b o:Nat}{cs:List Value}{x:Value}{W:AW}(h:rwCells W b=some cs)(hv:cs[o]? =some x):aP (.pointer (some ⟨b,o,none⟩)) W=some (x,W):=d9 (eH h) hv
theorem bU{W:AW}{b:Nat}{cs:List Value}(h:W.get b=some (.cells cs)):rwCells W b=some cs:=by unfold rwCells;rw[h]
structure En where
 b:Nat
 h:Int
 v:Int
abbrev qK(e:En):Value:=.pointer (some ⟨e.b,0,none⟩)
abbrev OU(e:En)(i:Nat):List Value:=[.int .i64 e.h,.int .i64 e.v,.int .i64 (i:Int)]
def fA(n:Nat)(f:Nat->En):List Value:=(List.range n).map λi=>qK (f i)
theorem dC(n:Nat)(f:Nat->En):(fA n f).length=n:=by simp[fA]
theorem qC{n:Nat}(f:Nat->En){i:Nat}(h:i<n):(fA n f)[i]? =some (qK (f i)):=by unfold fA;rw[List.getElem?_map,List.getElem?_range h];rfl
inductive SlAt (W:AW) (n:Nat) (f:Nat->En):Value->Option Nat->Prop
 |nil:n=0->SlAt W n f (.slice none 0 0) none
 |row (bl:Nat) (junk:List Value):W.get bl=some (.cells (fA n f++junk))->bl<W.next->(∀i,i<n->(f i).b≠bl)->SlAt W n f (.slice (some ⟨bl,0,none⟩) n (bS+1)) (some bl)
structure Pile (W:AW) (n:Nat) (f:Nat->En) (lv:Value) (bl:Option Nat):Prop where
 sl:SlAt W n f lv bl
 en:∀i,i<n->W.get (f i).b=some (.cells (OU (f i) i))/\(f i).b<W.next
 inj:∀i j,i<n->j<n->(f i).b=(f j).b->i=j
theorem Pile.get{W:AW}{n:Nat}{f:Nat->En}{lv:Value}{bl:Option Nat}(h:Pile W n f lv bl){i:Nat}(hi:i<n):∃b,bl=some b/\(∀W' k,jI 1 lv (.int k (i:Int)) W'=some (.pointer (some ⟨b,i,none⟩),W'))/\aP (.pointer (some ⟨b,i,none⟩)) W=some (qK (f i),W):=by
 cases h.sl with
 |nil h0=>omega
 |row b junk h1 h2 h3=>refine⟨b,rfl,λW' k=>by rw[nC hi,Nat.zero_add,Nat.mul_one],jE (bU h1) ?_⟩;rw[List.getElem?_append_left (by rw[dC];exact hi),qC f hi]
def Own(n:Nat)(f:Nat->En)(bl:Option Nat)(b:Nat):Prop:=bl=some b\/∃i,i<n/\(f i).b=b
structure Fr (W W':AW) (S:Nat->Prop):Prop where
 next:W'.next=W.next
 get:∀b,¬S b->W'.get b=W.get b
theorem Fr.refl(W:AW)(S:Nat->Prop):Fr W W S:=⟨rfl,λ_ _=>rfl⟩
theorem Fr.trans{A B C:AW}{S:Nat->Prop}(h:Fr A B S)(k:Fr B C S):Fr A C S:=⟨k.next.trans h.next,λb hb=>(k.get b hb).trans (h.get b hb)⟩
section
variable {W:AW} {q:Nat} {lv less c2 c3:Value} {n:Nat} {f:Nat->En} {bl:Option Nat}
end
section
variable {W:AW} {q:Nat} {lv less c2 c3:Value} {n:Nat} {f:Nat->En} {bl:Option Nat}
theorem SlAt.lt{W:AW}{lv:Value}{bl:Option Nat}(h:SlAt W n f lv bl){b:Nat}(hb:bl=some b):b<W.next:=by
 cases h with
 |nil h0=>cases hb
 |row b junk h1 h2 h3=>cases hb;exact h2
end
theorem td2(i:Nat):((i:Int)-1).tdiv 2=(kE i:Int):=by
 unfold kE;rcases Nat.eq_zero_or_pos i with rfl|h
 ·rfl
 ·rw[Int.tdiv_eq_ediv_of_nonneg (by omega)];omega
theorem a4a(i:Nat):kE i<=i:=by unfold kE;omega
section
variable {W:AW} {q:Nat} {lv less c2 c3:Value} {n:Nat} {f:Nat->En} {bl:Option Nat} {ls:Int->Int->Bool}
end
theorem yN{W W':AW}(v:Value):gc W (v,W')=(v,W')\/(gc W (v,W')=(v,W)/\Le W W'):=by
 unfold gc;split
 ·rename_i h;exact .inr ⟨rfl,h.2⟩
 ·exact .inl rfl
section
variable {W:AW} {q:Nat} {lv less c2 c3:Value} {n:Nat} {f:Nat->En} {bl:Option Nat} {ls:Int->Int->Bool}
theorem DC{α:Type}{lt:α->α->Bool}(o:Ord lt)(a:α):lt a a=false:=by
 cases h:lt a a with
 |false=>rfl
 |true=>have:=o.asym _ _ h;rw[h]at this;exact this
def vZ(n:Nat)(f g:Nat->En):Prop:=∀i,n<=i->g i=f i
theorem Own.low{n N:Nat}{f g:Nat->En}{bl:Option Nat}(h:(all n g).Perm (all n f))(hs:vZ n f g){b:Nat}(ho:Own N g bl b)(hN:n<=N):Own N f bl b:=by
 rcases ho with ho|⟨i,hi,rfl⟩
 ·exact .inl ho
 ·by_cases hin:i<n
  ·obtain⟨k,hk,e⟩:=bP.1 (h.mem_iff.1 (bP.2 ⟨i,hin,rfl⟩));exact .inr ⟨k,by omega,by rw[e]⟩
  ·exact .inr ⟨i,hi,by rw[hs i (by omega)]⟩
end
section
variable {W:AW} {q:Nat} {lv less c2 c3:Value} {n:Nat} {f:Nat->En} {bl:Option Nat} {ls:Int->Int->Bool}
end
section
variable {W:AW} {q:Nat} {lv less c2 c3:Value} {n:Nat} {f:Nat->En} {bl:Option Nat} {ls:Int->Int->Bool}
end
structure Gr (W W':AW) (In:Nat->Prop):Prop where
 next:W.next<=W'.next
 get:∀b,b<W.next->¬In b->W'.get b=W.get b
theorem Gr.refl(W:AW)(In:Nat->Prop):Gr W W In:=⟨Nat.le_refl _,λ_ _ _=>rfl⟩
theorem Gr.trans{A B C:AW}{In:Nat->Prop}(h:Gr A B In)(k:Gr B C In):Gr A C In:=⟨Nat.le_trans h.next k.next,λb hb hi=>(k.get b (Nat.lt_of_lt_of_le hb h.next) hi).trans (h.get b hb hi)⟩
section
variable {W:AW} {In:Nat->Prop} {q mh:Nat} {less:Value} {ls:Int->Int->Bool} {nx:Int} {n:Nat} {f:Nat->En}
end
section
variable {W:AW} {In:Nat->Prop} {q mh:Nat} {less:Value} {ls:Int->Int->Bool} {nx:Int} {n:Nat} {f:Nat->En}
end
end Go.Proofs.YtnigceddndemkaaGreatDoor
namespace Go.Proofs.YtnigceddndemkaaGreatDoor.Ho
open Go Go.Eng Go.Hp
set_option maxRecDepth 100000
theorem jE{b o:Nat}{cs:List Value}{x:Value}{W:AW}(h:rwCells W b=some cs)(hv:cs[o]? =some x):aP (.pointer (some ⟨b,o,none⟩)) W=some (x,W):=d9 (eH h) hv
theorem bU{W:AW}{b:Nat}{cs:List Value}(h:W.get b=some (.cells cs)):rwCells W b=some cs:=by unfold rwCells;rw[h]
theorem ZP{W:AW}{b o:Nat}{cs:List Value}{v:Value}(h:W.get b=some (.cells cs))(ho:o<cs.length)(hv:v.cells=#[v])(h1:Eng.one v=true):fZ 1 (.pointer (some ⟨b,o,none⟩)) v W=some (undef,W.put b (.cells (cs.set o v))):=by rw[TL hv h1,bU h,Option.bind_some,if_pos ho]
theorem aBe:((#[279]:Array TypeId)[0]?).bind Tryz.prog.underlying=some (.slice 287):=by kernel_rfl
abbrev lU(v:Int×Int):Value:=.agg #[.int .i64 v.1,.int .i64 v.2]
structure En where
 b:Nat
 h:Int
 v:Int×Int
abbrev qK(e:En):Value:=.pointer (some ⟨e.b,0,none⟩)
abbrev OU(e:En)(i:Nat):List Value:=[.int .i64 e.h,.int .i64 e.v.1,.int .i64 e.v.2,.int .i64 (i:Int)]
def fA(n:Nat)(f:Nat->En):List Value:=(List.range n).map λi=>qK (f i)
theorem dC(n:Nat)(f:Nat->En):(fA n f).length=n:=by simp[fA]
theorem qC{n:Nat}(f:Nat->En){i:Nat}(h:i<n):(fA n f)[i]? =some (qK (f i)):=by unfold fA;rw[List.getElem?_map,List.getElem?_range h];rfl
theorem PZ(n:Nat)(f:Nat->En):fA (n+1) f=fA n f++[qK (f n)]:=by unfold fA;rw[List.range_succ,List.map_append];rfl
theorem ZY{n:Nat}{f g:Nat->En}(h:∀i,i<n->f i=g i):fA n f=fA n g:=by unfold fA;exact List.map_congr_left λi hi=>by rw[h i (List.mem_range.1 hi)]
theorem a5r{n:Nat}(f:Nat->En){i k:Nat}(hi:i<n)(hk:k<n)(j:List Value):((fA n f++j).set i (qK (f k))).set k (qK (f i))=fA n (vV f i k)++j:=by
 rw[List.set_append_left _ _ (by rw[dC];exact hi),List.set_append_left _ _ (by rw[List.length_set,dC];exact hk)];congr 1;apply List.ext_getElem?;intro m;by_cases hm:m<n
 ·rw[qC _ hm,List.getElem?_set,List.getElem?_set];simp only[List.length_set,dC];by_cases h1:k=m
  ·subst h1;rw[if_pos rfl,if_pos hk,y9]
  ·rw[if_neg h1];by_cases h2:i=m
   ·subst h2;rw[if_pos rfl,if_pos hi,tF]
   ·rw[if_neg h2,qC _ hm,iF _ (λe=>h2 e.symm) (λe=>h1 e.symm)]
 ·rw[List.getElem?_eq_none (by simp[dC];omega),List.getElem?_eq_none (by simp[dC];omega)]
inductive SlAt (W:AW) (n:Nat) (f:Nat->En):Value->Option Nat->Prop
 |nil:n=0->SlAt W n f (.slice none 0 0) none
 |row (bl:Nat) (junk:List Value):W.get bl=some (.cells (fA n f++junk))->bl<W.next->(∀i,i<n->(f i).b≠bl)->SlAt W n f (.slice (some ⟨bl,0,none⟩) n (bS+1)) (some bl)
structure Pile (W:AW) (n:Nat) (f:Nat->En) (lv:Value) (bl:Option Nat):Prop where
 sl:SlAt W n f lv bl
 en:∀i,i<n->W.get (f i).b=some (.cells (OU (f i) i))/\(f i).b<W.next
 inj:∀i j,i<n->j<n->(f i).b=(f j).b->i=j
theorem Pile.len{W:AW}{n:Nat}{f:Nat->En}{lv:Value}{bl:Option Nat}(h:Pile W n f lv bl)(W':AW):aG Tryz.prog .len #[279] 3 #[false] [lv] W'=some (.int .i64 (n:Int),W'):=by
 cases h.sl with
 |nil h0=>subst h0;exact iB aBe _ _ _
 |row bl junk=>exact iB aBe _ _ _
theorem Pile.get{W:AW}{n:Nat}{f:Nat->En}{lv:Value}{bl:Option Nat}(h:Pile W n f lv bl){i:Nat}(hi:i<n):∃b,bl=some b/\(∀W' k,jI 1 lv (.int k (i:Int)) W'=some (.pointer (some ⟨b,i,none⟩),W'))/\aP (.pointer (some ⟨b,i,none⟩)) W=some (qK (f i),W):=by
 cases h.sl with
 |nil h0=>omega
 |row b junk h1 h2 h3=>refine⟨b,rfl,λW' k=>by rw[nC hi,Nat.zero_add,Nat.mul_one],jE (bU h1) ?_⟩;rw[List.getElem?_append_left (by rw[dC];exact hi),qC f hi]
theorem Pile.cell{W:AW}{n:Nat}{f:Nat->En}{lv:Value}{bl:Option Nat}(h:Pile W n f lv bl){i:Nat}(hi:i<n):aP (.pointer (some ⟨(f i).b,0,none⟩)) W=some (.int .i64 (f i).h,W)/\eU 2 (.pointer (some ⟨(f i).b,1,none⟩)) W=some (lU (f i).v,W):=
 ⟨jE (bU (h.en i hi).1) rfl,qP (eH (bU (h.en i hi).1)) rfl⟩
def Own(n:Nat)(f:Nat->En)(bl:Option Nat)(b:Nat):Prop:=bl=some b\/∃i,i<n/\(f i).b=b
structure Fr (W W':AW) (S:Nat->Prop):Prop where
 next:W'.next=W.next
 get:∀b,¬S b->W'.get b=W.get b
theorem Fr.refl(W:AW)(S:Nat->Prop):Fr W W S:=⟨rfl,λ_ _=>rfl⟩
theorem Fr.trans{A B C:AW}{S:Nat->Prop}(h:Fr A B S)(k:Fr B C S):Fr A C S:=⟨k.next.trans h.next,λb hb=>(k.get b hb).trans (h.get b hb)⟩
theorem Fr.mono{A B:AW}{S T:Nat->Prop}(h:Fr A B S)(hst:∀b,S b->T b):Fr A B T:=⟨h.next,λb hb=>h.get b (λhs=>hb (hst b hs))⟩
structure QP (W:AW) (q:Nat) (lv less c2 c3:Value) (n:Nat) (f:Nat->En) (bl:Option Nat):Prop where
 qc:W.get q=some (.cells [lv,less,c2,c3])
 lt:q<W.next
 pile:Pile W n f lv bl
 bq:bl≠some q
 eq:∀i,i<n->(f i).b≠q
section
variable {W:AW} {q:Nat} {lv less c2 c3:Value} {n:Nat} {f:Nat->En} {bl:Option Nat}
theorem QP.l0(h:QP W q lv less c2 c3 n f bl):aP (.pointer (some ⟨q,0,none⟩)) W=some (lv,W):=jE (bU h.qc) rfl
theorem QP.l1(h:QP W q lv less c2 c3 n f bl):aP (.pointer (some ⟨q,1,none⟩)) W=some (less,W):=jE (bU h.qc) rfl
theorem QP.l2(h:QP W q lv less c2 c3 n f bl):aP (.pointer (some ⟨q,2,none⟩)) W=some (c2,W):=jE (bU h.qc) rfl
theorem QP.l3(h:QP W q lv less c2 c3 n f bl):aP (.pointer (some ⟨q,3,none⟩)) W=some (c3,W):=jE (bU h.qc) rfl
theorem JV(h:QP W q lv less c2 c3 n f bl):aL (.func (.func 385) #[] #[]) [.pointer (some ⟨q,0,none⟩)] W=some (.int .i64 (n:Int),W):=by refine aN rfl ?_ qH;unfold kG;simp only[SX,aD,Nat.zero_add,h.l0,h.pile.len,aB];exact⟨trivial,.refl _⟩
def jD(ls:Int×Int->Int×Int->Bool)(a b:En):Bool:=ls a.v b.v||(!ls b.v a.v&&decide (a.h<b.h))
def rQ(less:Value)(ls:Int×Int->Int×Int->Bool):Prop:=∀a b W,aL less [lU a,lU b] W=some (.bool (ls a b),W)
theorem a0f{ls:Int×Int->Int×Int->Bool}(hl:rQ less ls)(h:QP W q lv less c2 c3 n f bl){i k:Nat}(hi:i<n)(hk:k<n):aL (.func (.func 276) #[] #[]) [.pointer (some ⟨q,0,none⟩),qK (f i),qK (f k)] W=some (.bool (jD ls (f i) (f k)),W):=by
 refine aN rfl ?_ nR;unfold dD jD;obtain⟨a1,a2⟩:=h.pile.cell hi;obtain⟨b1,b2⟩:=h.pile.cell hk;simp only[SX,aD,Nat.zero_add,h.l1,a2,b2,hl (f i).v (f k).v];cases ls (f i).v (f k).v;case true=>simp only[SX,aB];exact⟨by simp,.refl _⟩
 simp only[SX,aD,Nat.zero_add,h.l1,a2,b2,hl (f k).v (f i).v];cases ls (f k).v (f i).v;case true=>simp only[SX,aB];exact⟨by simp,.refl _⟩
 simp only[SX,aD,Nat.zero_add,a1,b1,aB];exact⟨by simp,.refl _⟩
theorem uX{ls:Int×Int->Int×Int->Bool}(hl:rQ less ls)(h:QP W q lv less c2 c3 n f bl){i k:Nat}(hi:i<n)(hk:k<n):aL (.func (.func 386) #[] #[]) [.pointer (some ⟨q,0,none⟩),.int .i64 (i:Int),.int .i64 (k:Int)] W=some (.bool (jD ls (f i) (f k)),W):=by refine aN rfl ?_ pM;unfold jT;obtain⟨b,-,a1,a2⟩:=h.pile.get hi;obtain⟨b',-,b1,b2⟩:=h.pile.get hk;simp only[SX,aD,Nat.zero_add,h.l0,a1,a2,b1,b2,a0f hl h hi hk,aB];exact⟨trivial,.refl _⟩
theorem BZ(h:QP W q lv less c2 c3 n f bl){i k:Nat}(hi:i<n)(hk:k<n):∃W',aL (.func (.func 389) #[] #[]) [.pointer (some ⟨q,0,none⟩),.int .i64 (i:Int),.int .i64 (k:Int)] W=some (.tuple #[],W')/\QP W' q lv less c2 c3 n (vV f i k) bl/\Fr W W' (Own n f bl):=by
 have main:Ok (fP aL (.pointer (some ⟨q,0,none⟩)) (.int .i64 (i:Int)) (.int .i64 (k:Int)) W) λr=>r.1=.tuple #[]/\QP r.2 q lv less c2 c3 n (vV f i k) bl/\Fr W r.2 (Own n f bl):=by
  unfold fP;obtain⟨hq,hlt,⟨hsl,hen,hinj⟩,hbq,heq⟩:=h;cases hsl with
  |nil h0=>omega
  |row b junk h1 h2 h3=>
   have ix:∀{j:Nat} (hj:j<n) (W':AW) (kk:IntKind),jI 1 (.slice (some ⟨b,0,none⟩) n (bS+1)) (.int kk (j:Int)) W'=some (.pointer (some ⟨b,j,none⟩),W'):=λhj W' kk=>by rw[nC hj,Nat.zero_add,Nat.mul_one]
   have hbq':b≠q:=λe=>hbq (by rw[e])
   have hl0:∀{W':AW},W'.get q=W.get q->aP (.pointer (some ⟨q,0,none⟩)) W'=some (.slice (some ⟨b,0,none⟩) n (bS+1),W'):=λe=>jE (bU (e.trans hq)) rfl
   have g1:∀{j:Nat},j<n->(fA n f++junk)[j]? =some (qK (f j)):=λhj=>by rw[List.getElem?_append_left (by rw[dC];exact hj),qC f hj]
   have hlen:∀{j:Nat},j<n->j<(fA n f++junk).length:=λhj=>by rw[List.length_append,dC];omega
   have s1:=ZP (W:=W) (v:=qK (f k)) h1 (hlen hi) rfl rfl;have hA:(W.put b (.cells ((fA n f++junk).set i (qK (f k))))).get b=some (.cells ((fA n f++junk).set i (qK (f k)))):=AW.get_put _ _ _;have s2:=ZP (v:=qK (f i)) hA (by rw[List.length_set];exact hlen hk) rfl rfl;rw[a5r f hi hk]at s2;have hB:∀X:AW,(X.put b (.cells (fA n (vV f i k)++junk))).get b=some (.cells (fA n (vV f i k)++junk)):=λX=>AW.get_put _ _ _
   simp only[SX,aD,Nat.zero_add,hl0 rfl,ix hi,ix hk,jE (bU h1) (g1 hi),jE (bU h1) (g1 hk),s1,s2];generalize hW2:(W.put b (.cells ((fA n f++junk).set i (qK (f k))))).put b (.cells (fA n (vV f i k)++junk))=W2 at *;have e2:∀c,c≠b->W2.get c=W.get c:=λc hc=>by rw[<-hW2,AW.get_put_ne _ _ (Ne.symm hc),AW.get_put_ne _ _ (Ne.symm hc)]
   have n2:W2.next=W.next:=by rw[<-hW2,AW.put_next,AW.put_next]
   have b2:W2.get b=some (.cells (fA n (vV f i k)++junk)):=by rw[<-hW2];exact AW.get_put _ _ _
   have g2:∀{j:Nat},j<n->(fA n (vV f i k)++junk)[j]? =some (qK (vV f i k j)):=λhj=>by rw[List.getElem?_append_left (by rw[dC];exact hj),qC _ hj]
   have ei:=hen i hi;have ek:=hen k hk;have c1:W2.get (f k).b=some (.cells (OU (f k) k)):=(e2 _ (h3 k hk)).trans ek.1;have s3:=ZP (v:=.int .i64 (i:Int)) (o:=3) c1 (by simp) rfl rfl;have s3':((OU (f k) k).set 3 (.int .i64 (i:Int)))=OU (f k) i:=rfl;rw[s3']at s3;simp only[SX,aD,Nat.zero_add,hl0 (e2 _ (Ne.symm hbq')),ix hi,ix hk,jE (bU b2) (g2 hi),jE (bU b2) (g2 hk),tF,y9,s3];generalize hW3:W2.put (f k).b (.cells (OU (f k) i))=W3 at *;have c2':∃p,W3.get (f i).b=some (.cells (OU (f i) p))/\(i=k->p=i):=by
    by_cases hik:i=k
    ·subst hik;exact⟨i,by rw[<-hW3];exact AW.get_put _ _ _,λ_=>rfl⟩
    ·refine⟨i,?_,λe=>absurd e hik⟩;rw[<-hW3,AW.get_put_ne _ _ (λe=>hik (hinj k i hk hi e).symm),e2 _ (h3 i hi)];exact ei.1
   obtain⟨p,c2',-⟩:=c2';have s4:=ZP (v:=.int .i64 (k:Int)) (o:=3) c2' (by simp) rfl rfl;have s4':((OU (f i) p).set 3 (.int .i64 (k:Int)))=OU (f i) k:=rfl;rw[s4']at s4;simp only[SX,aD,Nat.zero_add,s4,aB];have e4:∀c,c≠b->c≠(f k).b->c≠(f i).b->(W3.put (f i).b (.cells (OU (f i) k))).get c=W.get c:=λc x1 x2 x3=>by rw[AW.get_put_ne _ _ (Ne.symm x3),<-hW3,AW.get_put_ne _ _ (Ne.symm x2),e2 _ x1]
   have n4:(W3.put (f i).b (.cells (OU (f i) k))).next=W.next:=by rw[AW.put_next,<-hW3,AW.put_next,n2]
   have b4:(W3.put (f i).b (.cells (OU (f i) k))).get b=some (.cells (fA n (vV f i k)++junk)):=by rw[AW.get_put_ne _ _ (h3 i hi),<-hW3,AW.get_put_ne _ _ (h3 k hk)];exact b2
   have hb:∀j,(vV f i k j).b=(f j).b\/(j=i/\(vV f i k j).b=(f k).b)\/(j=k/\(vV f i k j).b=(f i).b):=λj=>by
    by_cases x1:j=i
    ·subst x1;rw[tF];exact .inr (.inl ⟨rfl,rfl⟩)
    ·by_cases x2:j=k
     ·subst x2;rw[y9];exact .inr (.inr ⟨rfl,rfl⟩)
     ·rw[iF _ x1 x2];exact .inl rfl
   have hcomp:∀j,vV f i k j=f (UF i k j):=λj=>by rw[V9]
   refine⟨trivial,⟨?_,by rw[n4];exact hlt,⟨.row b junk b4 (by rw[n4];exact h2) (λj hj=>by rw[hcomp];exact h3 _ (BO hi hk hj)),λj hj=>?_,λj m hj hm e=>?_⟩,hbq,λj hj=>by rw[hcomp];exact heq _ (BO hi hk hj)⟩,n4,λc hc=>?_⟩
   ·rw[e4 q (Ne.symm hbq') (Ne.symm (heq k hk)) (Ne.symm (heq i hi))];exact hq
   ·rw[n4,hcomp];refine⟨?_,(hen _ (BO hi hk hj)).2⟩;by_cases x1:j=i
    ·subst x1;have:UF j k j=k:=tF id j k;rw[this];by_cases x2:j=k
     ·subst x2;exact AW.get_put _ _ _
     ·rw[AW.get_put_ne _ _ (λe=>x2 (hinj j k hi hk e)),<-hW3];exact AW.get_put _ _ _
    ·by_cases x2:j=k
     ·subst x2;have:UF i j j=i:=y9 id i j;rw[this];exact AW.get_put _ _ _
     ·have:UF i k j=j:=iF id x1 x2;rw[this,e4 _ (h3 j hj) (λe=>x2 (hinj j k hj hk e)) (λe=>x1 (hinj j i hj hi e))];exact(hen j hj).1
   ·rw[hcomp,hcomp]at e;have:=hinj _ _ (BO hi hk hj) (BO hi hk hm) e;have:=congrArg (UF i k) this;rwa [DN,DN]at this
   ·exact e4 c (λe=>hc (.inl (by rw[e]))) (λe=>hc (.inr ⟨k,hk,e.symm⟩)) (λe=>hc (.inr ⟨i,hi,e.symm⟩))
 obtain⟨⟨r,W'⟩,h1,h2,h3⟩:=main;simp only at h2 h3;subst h2;exact⟨W',by rw[pG h1,dV rfl],h3⟩
end
theorem a0K:mD Tryz.prog #[279,279] 1 8=true:=by kernel_rfl
theorem aBb(v:Option Addr)(W:AW):aV Tryz.prog 279 1 [(0,.pointer v)] W=some (.slice (some ⟨W.next,0,none⟩) 1 1,W.add (.cells [.pointer v])):=Eq.trans (by kernel_rfl) rfl
theorem aAx(v:Value)(W:AW):SC Tryz.prog (.iface 287 v) 287 false W=some (v,W):=Eq.trans (by kernel_rfl) rfl
theorem a7Y(v:Value)(W:AW):pF Tryz.prog 287 v W=some (.iface 287 v,W):=Eq.trans (by kernel_rfl) rfl
theorem a7Q(v:Value)(W:AW):pF Tryz.prog 291 v W=some (.iface 291 v,W):=Eq.trans (by kernel_rfl) rfl
def snoc(n:Nat)(f:Nat->En)(e:En):Nat->En:=λi=>if i=n then e else f i
theorem p8{n i:Nat}{f:Nat->En}{e:En}(h:i<n):snoc n f e i=f i:=if_neg (by omega)
theorem GV(n:Nat)(f:Nat->En)(e:En):snoc n f e n=e:=if_pos rfl
theorem a4Z(n:Nat)(f:Nat->En)(e:En):all (n+1) (snoc n f e)=all n f++[e]:=by rw[ML,GV];congr 1;unfold all;exact List.map_congr_left λi hi=>p8 (List.mem_range.1 hi)
theorem a2u(n:Nat)(f:Nat->En)(e:En):fA (n+1) (snoc n f e)=fA n f++[qK e]:=by rw[PZ,GV,ZY (g:=f) λi hi=>p8 hi]
section
variable {W:AW} {q:Nat} {lv less c2 c3:Value} {n:Nat} {f:Nat->En} {bl:Option Nat}
theorem aBJ{W:AW}{lv:Value}{bl:Option Nat}(h:SlAt W n f lv bl)(hn:n<=10000){b c:Nat}{x:Value}(hc:cellsAt W b=some [x])(hx:Eng.one x=true):∃W3,bJ Tryz.prog W #[279,279] lv (.slice (some ⟨b,0,none⟩) 1 c)=some (.slice (some ⟨W.next,0,none⟩) (n+1) (bS+1),W3)/\W3.next=W.next+1/\W3.get W.next=some (.cells (fA n f++[x]))/\∀b,b<W.next->bl≠some b->W3.get b=W.get b:=by
 cases h with
 |nil h0=>subst h0;exact⟨_,CE (new:=[x]) a0K hc rfl rfl (by omega) (by simp[hx]) (by omega) (by omega),rfl,AW.get_add _ _,λd hd _=>AW.get_add_ne _ _ (by omega)⟩
 |row B junk h1 h2 h3=>
  refine⟨_,a6x (new:=[x]) (n:=1) (m:=n) a0K hc rfl rfl (by omega) (by simp[hx]) h1 (by rw[List.length_append,dC];omega) (by omega) (by omega),rfl,?_,λd hd hne=>?_⟩
  ·have:=AW.get_add (W.kill B) (.cells ((fA n f++junk).take (n*1)++[x]));rw[AW.kill_next]at this;rw[this,Nat.mul_one,List.take_append_of_le_length (by rw[dC];omega),List.take_of_length_le (by rw[dC];omega)]
  ·rw[AW.get_add_ne _ _ (by rw[AW.kill_next];omega),AW.get_kill_ne _ (λe=>hne (by rw[e]))]
theorem SlAt.keep{W W':AW}{lv:Value}{bl:Option Nat}(h:SlAt W n f lv bl)(hn:W.next<=W'.next)(hg:∀b,bl=some b->W'.get b=W.get b):SlAt W' n f lv bl:=by
 cases h with
 |nil h0=>exact .nil h0
 |row b junk h1 h2 h3=>exact .row b junk ((hg b rfl).trans h1) (by omega) h3
theorem SlAt.lt{W:AW}{lv:Value}{bl:Option Nat}(h:SlAt W n f lv bl){b:Nat}(hb:bl=some b):b<W.next:=by
 cases h with
 |nil h0=>cases hb
 |row b junk h1 h2 h3=>cases hb;exact h2
theorem SlAt.ne{W:AW}{lv:Value}{bl:Option Nat}(h:SlAt W n f lv bl){i:Nat}(hi:i<n):bl≠some (f i).b:=by
 cases h with
 |nil h0=>omega
 |row b junk h1 h2 h3=>exactλe=>h3 i hi (by injection e with e;exact e.symm)
theorem a4U(h:QP W q lv less c2 c3 n f bl)(hn:n<=10000){e:En}{p:Value}(he:W.get e.b=some (.cells [.int .i64 e.h,.int .i64 e.v.1,.int .i64 e.v.2,p]))(hlt:e.b<W.next)(hq:e.b≠q)(hbl:bl≠some e.b)(hne:∀i,i<n->(f i).b≠e.b):
 ∃W' lv' b',aL (.func (.func 388) #[] #[]) [.pointer (some ⟨q,0,none⟩),.iface 287 (qK e)] W=some (.tuple #[],W')/\QP W' q lv' less c2 c3 (n+1) (snoc n f e) (some b')/\W.next<=b'/\W.next<=W'.next/\∀b,b<W.next->b≠q->b≠e.b->bl≠some b->W'.get b=W.get b:=by
 have main:Ok (fQ aL (.pointer (some ⟨q,0,none⟩)) (.iface 287 (qK e)) W) λr=>r.1=.tuple #[]/\∃lv' b',QP r.2 q lv' less c2 c3 (n+1) (snoc n f e) (some b')/\W.next<=b'/\W.next<=r.2.next/\∀b,b<W.next->b≠q->b≠e.b->bl≠some b->r.2.get b=W.get b:=by
  unfold fQ;have s1:=ZP (v:=.int .i64 (n:Int)) (o:=3) he (by simp) rfl rfl;have s1':([.int .i64 e.h,.int .i64 e.v.1,.int .i64 e.v.2,p]:List Value).set 3 (.int .i64 (n:Int))=OU e n:=rfl;rw[s1']at s1;simp only[SX,aAx,aD,Nat.zero_add,h.l0,h.pile.len,s1];obtain⟨hqc,hql,⟨hsl,hen,hinj⟩,hbq,heq⟩:=h;generalize hW1:W.put e.b (.cells (OU e n))=W1 at *;have g1:∀b,b≠e.b->W1.get b=W.get b:=λb hb=>by rw[<-hW1];exact AW.get_put_ne _ _ (Ne.symm hb)
  have n1:W1.next=W.next:=by rw[<-hW1,AW.put_next]
  have ge1:W1.get e.b=some (.cells (OU e n)):=by rw[<-hW1];exact AW.get_put _ _ _
  have q1:W1.get q=some (.cells [lv,less,c2,c3]):=(g1 q (Ne.symm hq)).trans hqc;have g2:∀b,b<W.next->(W1.add (.cells [qK e])).get b=W1.get b:=λb hb=>AW.get_add_ne _ _ (by omega)
  have hs2:SlAt (W1.add (.cells [qK e])) n f lv bl:=hsl.keep (by rw[AW.add_next,n1];omega) λb hb=>by rw[g2 b (hsl.lt hb),g1 b (λx=>hbl (by rw[hb,x]))]
  obtain⟨W3,a1,a2,a3,a4⟩:=aBJ (b:=W1.next) (c:=1) hs2 hn dI (x:=qK e) rfl;rw[AW.add_next,n1]at a2 a3 a4;simp only[SX,aD,Nat.zero_add,jE (o:=0) (bU q1) rfl,aBb,a1];rw[AW.add_next,n1];have g3:∀b,b<W.next->bl≠some b->W3.get b=W1.get b:=λb hb hne=>by rw[a4 b (by omega) hne,g2 b hb]
  have q3:=(g3 q hql hbq).trans q1;have s3:=ZP (v:=.slice (some ⟨W.next+1,0,none⟩) (n+1) (bS+1)) (o:=0) q3 (by simp) rfl rfl;simp only[SX,aD,Nat.zero_add,s3,aB];rw[show([lv,less,c2,c3]:List Value).set 0 (.slice (some ⟨W.next+1,0,none⟩) (n+1) (bS+1))=[.slice (some ⟨W.next+1,0,none⟩) (n+1) (bS+1),less,c2,c3]from rfl]at *;generalize hW4:W3.put q (.cells [.slice (some ⟨W.next+1,0,none⟩) (n+1) (bS+1),less,c2,c3])=W4 at *;have g4:∀b,b≠q->W4.get b=W3.get b:=λb hb=>by rw[<-hW4];exact AW.get_put_ne _ _ (Ne.symm hb)
  have n4:W4.next=W.next+1+1:=by rw[<-hW4,AW.put_next,a2]
  have hall:∀i,i<n+1->W4.get (snoc n f e i).b=some (.cells (OU (snoc n f e i) i))/\(snoc n f e i).b<W.next/\(snoc n f e i).b≠q:=λi hi=>by
   by_cases hin:i<n
   ·rw[p8 hin];refine⟨?_,(hen i hin).2,heq i hin⟩;rw[g4 _ (heq i hin),g3 _ (hen i hin).2 (hsl.ne hin),g1 _ (hne i hin)];exact(hen i hin).1
   ·have:i=n:=by omega
    subst this;rw[GV];exact⟨by rw[g4 _ hq,g3 _ hlt hbl];exact ge1,hlt,hq⟩
  refine⟨trivial,_,W.next+1,⟨by rw[<-hW4];exact AW.get_put _ _ _,by omega,⟨.row (W.next+1) [] ?_ (by omega) (λi hi=>by have:=(hall i hi).2.1;omega),λi hi=>⟨(hall i hi).1,by have:=(hall i hi).2.1;omega⟩,λi j hi hj hij=>?_⟩,λx=>by injection x with x;omega,λi hi=>(hall i hi).2.2⟩,by omega,by omega,λb hb hbq' hbe hbb=>by rw[g4 _ hbq',g3 _ hb hbb,g1 _ hbe]⟩
  ·rw[g4 _ (by omega),a3,a2u,List.append_nil]
  ·by_cases hin:i<n
   ·by_cases hjn:j<n
    ·rw[p8 hin,p8 hjn]at hij;exact hinj i j hin hjn hij
    ·have:j=n:=by omega
     subst this;rw[p8 hin,GV]at hij;exact absurd hij (hne i hin)
   ·have:i=n:=by omega
    subst this;by_cases hjn:j<i
    ·rw[p8 hjn,GV]at hij;exact absurd hij.symm (hne j hjn)
    ·omega
 obtain⟨⟨r,W'⟩,h1,h2,lv',b',h3⟩:=main;simp only at h2 h3;subst h2;exact⟨W',lv',b',by rw[pK h1,dV rfl],h3⟩
theorem a96:o8 Tryz.prog 279=some 1:=by kernel_rfl
theorem a4O(n:Nat)(hn:n<4611686018427387904)(W:AW):aH Tryz.prog .sub 3 false true (.int .i64 ((n+1:Nat):Int)) (.int .i64 1) W=some (.int .i64 (n:Int),W):=by rw[uL (by omega) (by omega)];congr 3;omega
theorem a0Z(h:QP W q lv less c2 c3 (n+1) f bl)(hn:n<=10000):
 ∃W' lv',aL (.func (.func 387) #[] #[]) [.pointer (some ⟨q,0,none⟩)] W=some (.iface 287 (qK (f n)),W')/\QP W' q lv' less c2 c3 n f bl/\W'.next=W.next/\(∀b,b≠q->bl≠some b->W'.get b=W.get b):=by
 have main:Ok (gH aL (.pointer (some ⟨q,0,none⟩)) W) λr=>r.1=.iface 287 (qK (f n))/\∃lv',QP r.2 q lv' less c2 c3 n f bl/\r.2.next=W.next/\(∀b,b≠q->bl≠some b->r.2.get b=W.get b):=by
  unfold gH;simp only[SX,aD,Nat.zero_add,h.l0,h.pile.len,a4O n (by omega)];obtain⟨hqc,hql,⟨hsl,hen,hinj⟩,hbq,heq⟩:=h;cases hsl with
  |nil h0=>omega
  |row b junk h1 h2 h3=>
   have ix:∀{j:Nat} (hj:j<n+1) (W':AW) (kk:IntKind),jI 1 (.slice (some ⟨b,0,none⟩) (n+1) (bS+1)) (.int kk (j:Int)) W'=some (.pointer (some ⟨b,j,none⟩),W'):=λhj W' kk=>by rw[nC hj,Nat.zero_add,Nat.mul_one]
   have hbq':b≠q:=λe=>hbq (by rw[e])
   have g0:(fA (n+1) f++junk)[n]? =some (qK (f n)):=by rw[List.getElem?_append_left (by rw[dC];omega),qC f (by omega)]
   have s1:=ZP (W:=W) (v:=.pointer none) h1 (o:=n) (by rw[List.length_append,dC];omega) rfl rfl;have hrow:(fA (n+1) f++junk).set n (.pointer none)=fA n f++(.pointer none::junk):=by rw[PZ,List.append_assoc,List.set_append_right _ _ (by rw[dC];omega),dC,Nat.sub_self];rfl
   rw[hrow]at s1;simp only[SX,aD,Nat.zero_add,jE (o:=0) (bU hqc) rfl,ix (Nat.lt_succ_self n),jE (bU h1) g0,s1];generalize hW2:W.put b (.cells (fA n f++(.pointer none::junk)))=W2 at *;have e2:∀c,c≠b->W2.get c=W.get c:=λc hc=>by rw[<-hW2,AW.get_put_ne _ _ (Ne.symm hc)]
   have n2:W2.next=W.next:=by rw[<-hW2,AW.put_next]
   have b2:W2.get b=some (.cells (fA n f++(.pointer none::junk))):=by rw[<-hW2];exact AW.get_put _ _ _
   have q2:=(e2 q (Ne.symm hbq')).trans hqc;have s3:=ZP (v:=.slice (some ⟨b,0,none⟩) n (bS+1)) (o:=0) q2 (by simp) rfl rfl;rw[show([.slice (some ⟨b,0,none⟩) (n+1) (bS+1),less,c2,c3]:List Value).set 0 (.slice (some ⟨b,0,none⟩) n (bS+1))=[.slice (some ⟨b,0,none⟩) n (bS+1),less,c2,c3]from rfl]at s3;simp only[SX,aD,Nat.zero_add,jE (o:=0) (bU q2) rfl,vI a96 (by omega) (show n<=n+1 by omega),s3,a7Y,aB];generalize hW4:W2.put q (.cells [.slice (some ⟨b,0,none⟩) n (bS+1),less,c2,c3])=W4 at *;have g4:∀c,c≠q->W4.get c=W2.get c:=λc hc=>by rw[<-hW4];exact AW.get_put_ne _ _ (Ne.symm hc)
   have n4:W4.next=W.next:=by rw[<-hW4,AW.put_next,n2]
   refine⟨trivial,_,⟨by rw[<-hW4];exact AW.get_put _ _ _,by omega,⟨.row b (.pointer none::junk) ((g4 b hbq').trans b2) (by omega) (λi hi=>h3 i (by omega)),λi hi=>⟨?_,by have:=(hen i (by omega)).2;omega⟩,λi j hi hj=>hinj i j (by omega) (by omega)⟩,hbq,λi hi=>heq i (by omega)⟩,n4,λc hc hcb=>?_⟩
   ·rw[g4 _ (heq i (by omega)),e2 _ (h3 i (by omega))];exact(hen i (by omega)).1
   ·rw[g4 c hc,e2 c (λe=>hcb (by rw[e]))]
 obtain⟨⟨r,W'⟩,h1,h2,lv',h3⟩:=main;simp only at h2 h3;subst h2;exact⟨W',lv',by rw[qM h1,dV rfl],h3⟩
end
theorem QN(v:Value)(xs:List Value)(W:AW):dU Tryz.prog aL (.iface 291 v) "Less" xs W=aL (.func (.func 386) #[] #[]) (v::xs) W:=MH (by kernel_rfl) _ _
theorem LZ(v:Value)(xs:List Value)(W:AW):dU Tryz.prog aL (.iface 291 v) "Swap" xs W=aL (.func (.func 389) #[] #[]) (v::xs) W:=MH (by kernel_rfl) _ _
theorem a6w(v:Value)(xs:List Value)(W:AW):dU Tryz.prog aL (.iface 291 v) "Len" xs W=aL (.func (.func 385) #[] #[]) (v::xs) W:=MH (by kernel_rfl) _ _
theorem aAF(v:Value)(xs:List Value)(W:AW):dU Tryz.prog aL (.iface 291 v) "Push" xs W=aL (.func (.func 388) #[] #[]) (v::xs) W:=MH (by kernel_rfl) _ _
theorem a8O(v:Value)(xs:List Value)(W:AW):dU Tryz.prog aL (.iface 291 v) "Pop" xs W=aL (.func (.func 387) #[] #[]) (v::xs) W:=MH (by kernel_rfl) _ _
abbrev RH(q:Nat):Value:=.iface 291 (.pointer (some ⟨q,0,none⟩))
theorem Own.perm{n:Nat}{f g:Nat->En}{bl:Option Nat}(h:(all n g).Perm (all n f)){b:Nat}(ho:Own n g bl b):Own n f bl b:=by
 rcases ho with ho|⟨i,hi,rfl⟩
 ·exact .inl ho
 ·obtain⟨k,hk,e⟩:=bP.1 (h.mem_iff.1 (bP.2 ⟨i,hi,rfl⟩));exact .inr ⟨k,hk,by rw[e]⟩
section
variable {W:AW} {q:Nat} {lv less c2 c3:Value} {n:Nat} {f:Nat->En} {bl:Option Nat} {ls:Int×Int->Int×Int->Bool}
theorem aAO(o:Ord (jD ls))(hl:rQ less ls)(h:QP W q lv less c2 c3 n f bl)(hn:n<=10001){j:Nat}(hj:j<n)(hup:Up (jD ls) n f j):
 ∃W' g,aL (.func (.func 237) #[] #[]) [RH q,.int .i64 (j:Int)] W=some (.tuple #[],W')/\QP W' q lv less c2 c3 n g bl/\Fr W W' (Own n f bl)/\Heap (jD ls) n g/\(all n g).Perm (all n f):=by
 have main:Ok (iG aL (RH q) (.int .i64 (j:Int)) W) λr=>r.1=.tuple #[]/\∃g,QP r.2 q lv less c2 c3 n g bl/\Fr W r.2 (Own n f bl)/\Heap (jD ls) n g/\(all n g).Perm (all n f):=by
  unfold iG;have key:∀(i:Nat) (R:PlanTab.Fr) (W':AW) (g:Nat->En),i<n->R 0=RH q->R 1=.int .i64 (i:Int)->QP W' q lv less c2 c3 n g bl->Fr W W' (Own n f bl)->Up (jD ls) n g i->(all n g).Perm (all n f)->
   Ok (eY aL R W') λr=>(r.1=.exit 0/\∃g',QP r.2.2 q lv less c2 c3 n g' bl/\Fr W r.2.2 (Own n f bl)/\Heap (jD ls) n g'/\(all n g').Perm (all n f))\/(r.1=.normal/\0<i/\∃g',r.2.1 0=RH q/\r.2.1 1=.int .i64 (kE i:Int)/\QP r.2.2 q lv less c2 c3 n g' bl/\Fr W r.2.2 (Own n f bl)/\Up (jD ls) n g' (kE i)/\(all n g').Perm (all n f)):=by
   intro i R W' g hi h0 h1 hQ hF hU hP;unfold eY;have e1:=uL (P:=Tryz.prog) (W:=W') (t:=3) (c:=false) (d:=true) (a:=(i:Int)) (b:=1) (by omega) (by omega);have e2:aH Tryz.prog .quo 3 false true (.int .i64 ((i:Int)-1)) (.int .i64 2) W'=some (.int .i64 (kE i:Int),W'):=by rw[MX (by omega),td2,rR (by omega) (by have:=a4a i;omega)]
   by_cases hi0:i=0
   ·subst hi0;have e3:((kE 0:Nat):Int)=((0:Nat):Int):=rfl;simp only[SX,h0,h1,e1,e2,e3,aB];exact .inl ⟨trivial,g,hQ,hF,hU.done (.inl rfl),hP⟩
   ·have hpi:=kL (k:=i) (by omega);have e3:¬((kE i:Int)=(i:Int)):=by omega
    simp only[SX,h0,h1,e1,e2,e3,QN,uX hl hQ hi (show kE i<n by omega)];cases hb:jD ls (g i) (g (kE i))
    ·simp only[SX,aB];exact .inl ⟨trivial,g,hQ,hF,hU.done (.inr hb),hP⟩
    ·obtain⟨W2,s1,s2,s3⟩:=BZ hQ (show kE i<n by omega) hi;simp only[SX,h0,h1,LZ,s1,aB];refine .inr ⟨trivial,by omega,_,h0,rfl,s2,hF.trans (s3.mono λb hb=>Own.perm hP hb),hU.step o (by omega) hi hb,(JN g (show kE i<n by omega) hi).trans hP⟩
  refine bF j (by omega) (λk R W'=>∃i g,i+k<=j/\i<n/\R 0=RH q/\R 1=.int .i64 (i:Int)/\QP W' q lv less c2 c3 n g bl/\Fr W W' (Own n f bl)/\Up (jD ls) n g i/\(all n g).Perm (all n f))
   (λr=>r.1=.exit 0/\∃g',QP r.2.2 q lv less c2 c3 n g' bl/\Fr W r.2.2 (Own n f bl)/\Heap (jD ls) n g'/\(all n g').Perm (all n f)) ⟨j,f,by omega,hj,rfl,rfl,h,.refl _ _,hup,.refl _⟩ ?_ ?_ ?_
  ·rintro k R W' hk ⟨i,g,h1,h2,h3,h4,h5,h6,h7,h8⟩;refine(key i R W' g h2 h3 h4 h5 h6 h7 h8).mono λr hr=>?_
   rcases hr with hr|⟨r1,r2,g',r3,r4,r5,r6,r7,r8⟩
   ·exact .inr ⟨by rw[hr.1];simp,hr⟩
   ·have:=kL r2;exact .inl ⟨r1,kE i,g',by omega,by omega,r3,r4,r5,r6,r7,r8⟩
  ·rintro R W' ⟨i,g,h1,h2,h3,h4,h5,h6,h7,h8⟩;refine(key i R W' g h2 h3 h4 h5 h6 h7 h8).mono λr hr=>?_
   rcases hr with hr|⟨r1,r2,-⟩
   ·exact⟨by rw[hr.1];simp,hr⟩
   ·omega
  ·rintro⟨x,R,W'⟩ ⟨hx,hq⟩;simp only at hx hq;subst hx;simp only[SX,aB];exact⟨trivial,hq⟩
 obtain⟨⟨r,W'⟩,h1,h2,g,h3⟩:=main;simp only at h2 h3;subst h2;exact⟨W',g,by rw[qR h1,dV rfl],h3⟩
end
section
variable {W:AW} {q:Nat} {lv less c2 c3:Value} {n:Nat} {f:Nat->En} {bl:Option Nat} {ls:Int×Int->Int×Int->Bool}
theorem QP.back{W W':AW}(h:QP W' q lv less c2 c3 n f bl)(hn:W'.next=W.next)(hle:Le W W'):QP W q lv less c2 c3 n f bl:=by obtain⟨hqc,hql,⟨hsl,hen,hinj⟩,hbq,heq⟩:=h;rw[hn]at hql;refine⟨by rw[<-hle.get q hql];exact hqc,hql,⟨hsl.keep (by omega) λb hb=>(hle.get b (by have:=hsl.lt hb;omega)).symm,λi hi=>?_,hinj⟩,hbq,heq⟩;have:=(hen i hi).2;exact⟨by rw[<-hle.get _ (by omega)];exact(hen i hi).1,by omega⟩
def vZ(n:Nat)(f g:Nat->En):Prop:=∀i,n<=i->g i=f i
theorem Own.low{n N:Nat}{f g:Nat->En}{bl:Option Nat}(h:(all n g).Perm (all n f))(hs:vZ n f g){b:Nat}(ho:Own N g bl b)(hN:n<=N):Own N f bl b:=by
 rcases ho with ho|⟨i,hi,rfl⟩
 ·exact .inl ho
 ·by_cases hin:i<n
  ·obtain⟨k,hk,e⟩:=bP.1 (h.mem_iff.1 (bP.2 ⟨i,hin,rfl⟩));exact .inr ⟨k,by omega,by rw[e]⟩
  ·exact .inr ⟨i,hi,by rw[hs i (by omega)]⟩
end
section
variable {W:AW} {q:Nat} {lv less c2 c3:Value} {n:Nat} {f:Nat->En} {bl:Option Nat} {ls:Int×Int->Int×Int->Bool}
theorem a6A{lt:En->En->Bool}{e:En}(h:Heap lt n f):Up lt (n+1) (snoc n f e) n:=by
 refine⟨λk h0 h1 h2=>?_,λk h0 h1 h2 h3=>?_⟩
 ·have:=kL h0;rw[p8 (by omega),p8 (by omega)];exact h k h0 (by omega)
 ·have:=kL h0;omega
theorem a4w(o:Ord (jD ls))(hl:rQ less ls)(h:QP W q lv less c2 c3 n f bl)(hh:Heap (jD ls) n f)(hn:n<=10000){e:En}{p:Value}(he:W.get e.b=some (.cells [.int .i64 e.h,.int .i64 e.v.1,.int .i64 e.v.2,p]))(hlt:e.b<W.next)(hq:e.b≠q)(hbl:bl≠some e.b)(hne:∀i,i<n->(f i).b≠e.b):
 ∃W' lv' b' g,aL (.func (.func 195) #[] #[]) [RH q,.iface 287 (qK e)] W=some (.tuple #[],W')/\QP W' q lv' less c2 c3 (n+1) g (some b')/\Heap (jD ls) (n+1) g/\(all (n+1) g).Perm (e::all n f)/\W.next<=b'/\W.next<=W'.next/\∀b,b<W.next->b≠q->b≠e.b->¬Own n f bl b->W'.get b=W.get b:=by
 obtain⟨W1,lv',b',p1,p2,p3,p4,p5⟩:=a4U h hn he hlt hq hbl hne;obtain⟨W2,g,u1,u2,u3,u4,u5⟩:=aAO o hl p2 (by omega) (Nat.lt_succ_self n) (a6A hh);have main:Ok (kW aL (RH q) (.iface 287 (qK e)) W) λr=>r.1=.tuple #[]/\r.2=W2:=by unfold kW;simp only[SX,aAF,p1,a6w,JV p2,a4O n (by omega),u1,aB];exact⟨trivial,trivial⟩
 obtain⟨⟨r,W'⟩,h1,h2,h3⟩:=main;simp only at h2 h3;subst h2;subst h3;refine⟨_,lv',b',g,by rw[xA h1,dV rfl],u2,u4,u5.trans (by rw[a4Z];exact List.perm_append_singleton _ _),p3,by rw[u3.next];exact p4,λb hb hbq hbe ho=>?_⟩;rw[u3.get b λho2=>?_,p5 b hb hbq hbe λhx=>ho (.inl hx)];rcases ho2 with ho2|⟨i,hi,ho2⟩
 ·injection ho2 with ho2;omega
 ·by_cases hin:i<n
  ·rw[p8 hin]at ho2;exact ho (.inr ⟨i,hin,ho2⟩)
  ·have:i=n:=by omega
   subst this;rw[GV]at ho2;exact hbe ho2.symm
end
section
variable {W:AW} {q:Nat} {lv less c2 c3:Value} {n:Nat} {f:Nat->En} {bl:Option Nat} {ls:Int×Int->Int×Int->Bool}
theorem a5g(o:Ord (jD ls))(hl:rQ less ls){N:Nat}(h:QP W q lv less c2 c3 N f bl)(hN:N<=10001)(hn:n<=N){i0:Nat}(hi0:i0<=n)(hd:Odd (jD ls) n f i0):
 ∃W' g b,aL (.func (.func 278) #[] #[]) [RH q,.int .i64 (i0:Int),.int .i64 (n:Int)] W=some (.bool b,W')/\QP W' q lv less c2 c3 N g bl/\Fr W W' (Own N f bl)/\((b=true/\Heap (jD ls) n g)\/(b=false/\g=f/\Up (jD ls) n f i0))/\(all n g).Perm (all n f)/\vZ n f g:=by
 have main:Ok (kZ aL (RH q) (.int .i64 (i0:Int)) (.int .i64 (n:Int)) W) λr=>∃b,r.1=.bool b/\∃g,QP r.2 q lv less c2 c3 N g bl/\Fr W r.2 (Own N f bl)/\((b=true/\Heap (jD ls) n g)\/(b=false/\g=f/\Up (jD ls) n f i0))/\(all n g).Perm (all n f)/\vZ n f g:=by
  unfold kZ;have key:∀(i:Nat) (R:PlanTab.Fr) (W':AW) (g:Nat->En),i<=n->R 0=RH q->R 2=.int .i64 (n:Int)->R 7=.int .i64 (i:Int)->QP W' q lv less c2 c3 N g bl->Fr W W' (Own N f bl)->St (jD ls) i0 n f g i->(all n g).Perm (all n f)->vZ n f g->
   Ok (jB aL R W') λr=>(r.1=.exit 0/\r.2.1 1=R 1/\r.2.1 7=R 7/\∃g',QP r.2.2 q lv less c2 c3 N g' bl/\Fr W r.2.2 (Own N f bl)/\Fin (jD ls) i0 n f g' i/\(all n g').Perm (all n f)/\vZ n f g')\/(r.1=.normal/\i<n/\r.2.1 1=R 1/\∃g' j,i<j/\j<n/\r.2.1 0=RH q/\r.2.1 2=.int .i64 (n:Int)/\r.2.1 7=.int .i64 (j:Int)/\QP r.2.2 q lv less c2 c3 N g' bl/\Fr W r.2.2 (Own N f bl)/\St (jD ls) i0 n f g' j/\(all n g').Perm (all n f)/\vZ n f g'):=by
   intro i R W' g hi h0 h2 h7 hQ hF hD hP hS;unfold jB;have e1:aH Tryz.prog .mul 3 true false (.int .i64 2) (.int .i64 (i:Int)) W'=some (.int .i64 (2*(i:Int)),W'):=a4J (by omega) (by omega);have e2:=aQ (P:=Tryz.prog) (W:=W') (t:=3) (c:=false) (d:=true) (a:=2*(i:Int)) (b:=1) (by omega) (by omega);have e3:=aQ (P:=Tryz.prog) (W:=W') (t:=3) (c:=false) (d:=true) (a:=2*(i:Int)+1) (b:=1) (by omega) (by omega);have e4:¬(2*(i:Int)+1<0):=by omega
   by_cases hj:n<=2*i+1
   ·have e5:(n:Int)<=2*(i:Int)+1:=by omega
    simp only[SX,h0,h2,h7,e1,e2,e5,aB];exact .inl ⟨trivial,rfl,h7,g,hQ,hF,hD.done o (λk hk hkn=>by omega),hP,hS⟩
   ·have e5:¬((n:Int)<=2*(i:Int)+1):=by omega
    have c1:((2*i+1:Nat):Int)=2*(i:Int)+1:=by omega
    have c2':((2*i+2:Nat):Int)=2*(i:Int)+1+1:=by omega
    have fin:∀j,(j=2*i+1\/j=2*i+2)->j<n->(∀k,(k=2*i+1\/k=2*i+2)->k<n->jD ls (g k) (g j)=false)->
     (jD ls (g j) (g i)=false->Fin (jD ls) i0 n f g i)/\(jD ls (g j) (g i)=true->∃W2,aL (.func (.func 389) #[] #[]) [.pointer (some ⟨q,0,none⟩),.int .i64 (i:Int),.int .i64 (j:Int)] W'=some (.tuple #[],W2)/\QP W2 q lv less c2 c3 N (vV g i j) bl/\Fr W W2 (Own N f bl)/\St (jD ls) i0 n f (vV g i j) j/\(all n (vV g i j)).Perm (all n f)/\vZ n f (vV g i j)):=by
     intro j hj1 hj2 hmin;refine⟨λhb=>hD.done o λk hk hkn=>o.neg _ _ _ hb (hmin k hk hkn),λhb=>?_⟩;obtain⟨W2,s1,s2,s3⟩:=BZ hQ (show i<N by omega) (show j<N by omega);refine⟨W2,s1,s2,hF.trans (s3.mono λb hb=>Own.low hP hS hb hn),hD.step o hj1 hj2 hb hmin,(JN g (by omega) hj2).trans hP,λk hk=>?_⟩;rw[iF _ (by omega) (by omega)];exact hS k hk
    by_cases hj2:2*i+2<n
    ·have e6:(2*(i:Int)+1+1<(n:Int)):=by omega
     have l1:=uX hl hQ (show 2*i+2<N by omega) (show 2*i+1<N by omega);rw[c1,c2']at l1;simp only[SX,h0,h2,h7,e1,e2,e3,e4,e5,e6,QN,l1];cases hb:jD ls (g (2*i+2)) (g (2*i+1))
     ·obtain⟨f1,f2⟩:=fin (2*i+1) (.inl rfl) (by omega) λk hk hkn=>by
       rcases hk with rfl|rfl
       ·exact DC o _
       ·exact hb
      have l2:=uX hl hQ (show 2*i+1<N by omega) (show i<N by omega);rw[c1]at l2 f2;simp only[SX,h0,h7,QN,l2];cases hb2:jD ls (g (2*i+1)) (g i)
      ·simp only[SX,aB];exact .inl ⟨trivial,rfl,h7,g,hQ,hF,f1 hb2,hP,hS⟩
      ·obtain⟨W2,s1,s2,s3,s4,s5,s6⟩:=f2 hb2;simp only[SX,h0,h7,LZ,s1,aB];exact .inr ⟨trivial,by omega,rfl,_,2*i+1,by omega,by omega,h0,h2,by rw[c1];rfl,s2,s3,s4,s5,s6⟩
     ·obtain⟨f1,f2⟩:=fin (2*i+2) (.inr rfl) (by omega) λk hk hkn=>by
       rcases hk with rfl|rfl
       ·exact o.asym _ _ hb
       ·exact DC o _
      have l2:=uX hl hQ (show 2*i+2<N by omega) (show i<N by omega);rw[c2']at l2 f2;simp only[SX,h0,h7,QN,l2];cases hb2:jD ls (g (2*i+2)) (g i)
      ·simp only[SX,aB];exact .inl ⟨trivial,rfl,h7,g,hQ,hF,f1 hb2,hP,hS⟩
      ·obtain⟨W2,s1,s2,s3,s4,s5,s6⟩:=f2 hb2;simp only[SX,h0,h7,LZ,s1,aB];exact .inr ⟨trivial,by omega,rfl,_,2*i+2,by omega,by omega,h0,h2,by rw[c2'];rfl,s2,s3,s4,s5,s6⟩
    ·have e6:¬(2*(i:Int)+1+1<(n:Int)):=by omega
     obtain⟨f1,f2⟩:=fin (2*i+1) (.inl rfl) (by omega) λk hk hkn=>by
      rcases hk with rfl|rfl
      ·exact DC o _
      ·omega
     have l2:=uX hl hQ (show 2*i+1<N by omega) (show i<N by omega);rw[c1]at l2 f2;simp only[SX,h0,h2,h7,e1,e2,e3,e4,e5,e6,QN,l2];cases hb2:jD ls (g (2*i+1)) (g i)
     ·simp only[SX,aB];exact .inl ⟨trivial,rfl,h7,g,hQ,hF,f1 hb2,hP,hS⟩
     ·obtain⟨W2,s1,s2,s3,s4,s5,s6⟩:=f2 hb2;simp only[SX,h0,h7,LZ,s1,aB];exact .inr ⟨trivial,by omega,rfl,_,2*i+1,by omega,by omega,h0,h2,by rw[c1];rfl,s2,s3,s4,s5,s6⟩
  simp only[SX];refine bF n (by omega) (λk R W'=>∃i g,k<=i/\i<=n/\R 0=RH q/\R 1=.int .i64 (i0:Int)/\R 2=.int .i64 (n:Int)/\R 7=.int .i64 (i:Int)/\QP W' q lv less c2 c3 N g bl/\Fr W W' (Own N f bl)/\St (jD ls) i0 n f g i/\(all n g).Perm (all n f)/\vZ n f g)
   (λr=>r.1=.exit 0/\∃i:Nat,r.2.1 7=.int .i64 (i:Int)/\r.2.1 1=.int .i64 (i0:Int)/\∃g',QP r.2.2 q lv less c2 c3 N g' bl/\Fr W r.2.2 (Own N f bl)/\Fin (jD ls) i0 n f g' i/\(all n g').Perm (all n f)/\vZ n f g') ⟨i0,f,by omega,hi0,rfl,rfl,rfl,rfl,h,.refl _ _,.inl ⟨rfl,rfl,hd⟩,.refl _,λ_ _=>rfl⟩ ?_ ?_ ?_
  ·rintro k R W' hk ⟨i,g,h1,h2,h3,h3',h4,h5,h6,h7,h8,h9,h10⟩;refine(key i R W' g h2 h3 h4 h5 h6 h7 h8 h9 h10).mono λr hr=>?_
   rcases hr with⟨r1,r2,r3,r4⟩|⟨r1,r2,r3,g',j,j1,j2,r5,r6,r7,r8⟩
   ·exact .inr ⟨by rw[r1];simp,r1,i,by rw[r3,h5],by rw[r2,h3'],r4⟩
   ·exact .inl ⟨r1,j,g',by omega,by omega,r5,by rw[r3,h3'],r6,r7,r8⟩
  ·rintro R W' ⟨i,g,h1,h2,h3,h3',h4,h5,h6,h7,h8,h9,h10⟩;refine(key i R W' g h2 h3 h4 h5 h6 h7 h8 h9 h10).mono λr hr=>?_
   rcases hr with⟨r1,r2,r3,r4⟩|⟨r1,r2,-⟩
   ·exact⟨by rw[r1];simp,r1,i,by rw[r3,h5],by rw[r2,h3'],r4⟩
   ·omega
  ·rintro⟨x,R,W'⟩ ⟨hx,i,h7,h1,g',q1,q2,q3,q4⟩;simp only at hx h7 h1 q1 q2 q3 q4;subst hx;simp only[SX,h7,h1,aB];refine⟨_,rfl,g',q1,q2,?_,q4⟩;rcases q3 with⟨rfl,rfl,q3⟩|⟨q3,q5⟩
   ·exact .inr ⟨by simp,rfl,q3⟩
   ·exact .inl ⟨by simp;omega,q5⟩
 obtain⟨⟨r,W'⟩,h1,b,h2,g,h3⟩:=main;simp only at h2 h3;subst h2;rcases yN (W:=W) (W':=W') (.bool b)with hg|⟨hg,hle⟩
 ·exact⟨W',g,b,by rw[nU h1,hg],h3⟩
 ·exact⟨W,g,b,by rw[nU h1,hg],h3.1.back h3.2.1.next hle,.refl _ _,h3.2.2⟩
theorem a8g(o:Ord (jD ls))(hl:rQ less ls){N:Nat}(h:QP W q lv less c2 c3 N f bl)(hN:N<=10001)(hn:n<=N){j:Nat}(hj:j<n)(hup:Up (jD ls) n f j):
 ∃W' g,aL (.func (.func 237) #[] #[]) [RH q,.int .i64 (j:Int)] W=some (.tuple #[],W')/\QP W' q lv less c2 c3 N g bl/\Fr W W' (Own N f bl)/\Heap (jD ls) n g/\(all n g).Perm (all n f)/\vZ n f g:=by
 have main:Ok (iG aL (RH q) (.int .i64 (j:Int)) W) λr=>r.1=.tuple #[]/\∃g,QP r.2 q lv less c2 c3 N g bl/\Fr W r.2 (Own N f bl)/\Heap (jD ls) n g/\(all n g).Perm (all n f)/\vZ n f g:=by
  unfold iG;have key:∀(i:Nat) (R:PlanTab.Fr) (W':AW) (g:Nat->En),i<n->R 0=RH q->R 1=.int .i64 (i:Int)->QP W' q lv less c2 c3 N g bl->Fr W W' (Own N f bl)->Up (jD ls) n g i->(all n g).Perm (all n f)->vZ n f g->
   Ok (eY aL R W') λr=>(r.1=.exit 0/\∃g',QP r.2.2 q lv less c2 c3 N g' bl/\Fr W r.2.2 (Own N f bl)/\Heap (jD ls) n g'/\(all n g').Perm (all n f)/\vZ n f g')\/(r.1=.normal/\0<i/\∃g',r.2.1 0=RH q/\r.2.1 1=.int .i64 (kE i:Int)/\QP r.2.2 q lv less c2 c3 N g' bl/\Fr W r.2.2 (Own N f bl)/\Up (jD ls) n g' (kE i)/\(all n g').Perm (all n f)/\vZ n f g'):=by
   intro i R W' g hi h0 h1 hQ hF hU hP hS;unfold eY;have e1:=uL (P:=Tryz.prog) (W:=W') (t:=3) (c:=false) (d:=true) (a:=(i:Int)) (b:=1) (by omega) (by omega);have e2:aH Tryz.prog .quo 3 false true (.int .i64 ((i:Int)-1)) (.int .i64 2) W'=some (.int .i64 (kE i:Int),W'):=by rw[MX (by omega),td2,rR (by omega) (by have:=a4a i;omega)]
   by_cases hi0:i=0
   ·subst hi0;have e3:((kE 0:Nat):Int)=((0:Nat):Int):=rfl;simp only[SX,h0,h1,e1,e2,e3,aB];exact .inl ⟨trivial,g,hQ,hF,hU.done (.inl rfl),hP,hS⟩
   ·have hpi:=kL (k:=i) (by omega);have e3:¬((kE i:Int)=(i:Int)):=by omega
    simp only[SX,h0,h1,e1,e2,e3,QN,uX hl hQ (Nat.lt_of_lt_of_le hi hn) (show kE i<N by omega)];cases hb:jD ls (g i) (g (kE i))
    ·simp only[SX,aB];exact .inl ⟨trivial,g,hQ,hF,hU.done (.inr hb),hP,hS⟩
    ·obtain⟨W2,s1,s2,s3⟩:=BZ hQ (show kE i<N by omega) (Nat.lt_of_lt_of_le hi hn);simp only[SX,h0,h1,LZ,s1,aB];refine .inr ⟨trivial,by omega,_,h0,rfl,s2,hF.trans (s3.mono λb hb=>Own.low hP hS hb hn),hU.step o (by omega) hi hb,(JN g (show kE i<n by omega) hi).trans hP,λk hk=>by rw[iF _ (by omega) (by omega)];exact hS k hk⟩
  refine bF j (by omega) (λk R W'=>∃i g,i+k<=j/\i<n/\R 0=RH q/\R 1=.int .i64 (i:Int)/\QP W' q lv less c2 c3 N g bl/\Fr W W' (Own N f bl)/\Up (jD ls) n g i/\(all n g).Perm (all n f)/\vZ n f g)
   (λr=>r.1=.exit 0/\∃g',QP r.2.2 q lv less c2 c3 N g' bl/\Fr W r.2.2 (Own N f bl)/\Heap (jD ls) n g'/\(all n g').Perm (all n f)/\vZ n f g') ⟨j,f,by omega,hj,rfl,rfl,h,.refl _ _,hup,.refl _,λ_ _=>rfl⟩ ?_ ?_ ?_
  ·rintro k R W' hk ⟨i,g,h1,h2,h3,h4,h5,h6,h7,h8,h9⟩;refine(key i R W' g h2 h3 h4 h5 h6 h7 h8 h9).mono λr hr=>?_
   rcases hr with hr|⟨r1,r2,g',r3,r4,r5,r6,r7,r8⟩
   ·exact .inr ⟨by rw[hr.1];simp,hr⟩
   ·have:=kL r2;exact .inl ⟨r1,kE i,g',by omega,by omega,r3,r4,r5,r6,r7,r8⟩
  ·rintro R W' ⟨i,g,h1,h2,h3,h4,h5,h6,h7,h8,h9⟩;refine(key i R W' g h2 h3 h4 h5 h6 h7 h8 h9).mono λr hr=>?_
   rcases hr with hr|⟨r1,r2,-⟩
   ·exact⟨by rw[hr.1];simp,hr⟩
   ·omega
  ·rintro⟨x,R,W'⟩ ⟨hx,hq⟩;simp only at hx hq;subst hx;simp only[SX,aB];exact⟨trivial,hq⟩
 obtain⟨⟨r,W'⟩,h1,h2,g,h3⟩:=main;simp only at h2 h3;subst h2;exact⟨W',g,by rw[qR h1,dV rfl],h3⟩
end
end Go.Proofs.YtnigceddndemkaaGreatDoor.Ho
namespace Go.Proofs.YtnigceddndemkaaGreatDoor
open Go Go.Eng Go.Hp
set_option maxRecDepth 100000
section
variable {W:AW} {q:Nat} {lv less c2 c3:Value} {n:Nat} {f:Nat->En} {bl:Option Nat} {ls:Int->Int->Bool}
end
section
variable {W:AW} {q:Nat} {lv less c2 c3:Value} {n:Nat} {f:Nat->En} {bl:Option Nat} {ls:Int->Int->Bool}
end
end Go.Proofs.YtnigceddndemkaaGreatDoor
namespace Go.Proofs.YtnigceddndemkaaGreatDoor.Ho
open Go Go.Eng Go.Hp
set_option maxRecDepth 100000
section
variable {W:AW} {q:Nat} {lv less c2 c3:Value} {n:Nat} {f:Nat->En} {bl:Option Nat} {ls:Int×Int->Int×Int->Bool}
theorem a0z(o:Ord (jD ls))(hl:rQ less ls)(h:QP W q lv less c2 c3 (n+1) f bl)(hh:Heap (jD ls) (n+1) f)(hn:n<=10000){i:Nat}(hi:i<n+1):
 ∃W' lv' g,aL (.func (.func 247) #[] #[]) [RH q,.int .i64 (i:Int)] W=some (.iface 287 (qK (f i)),W')/\QP W' q lv' less c2 c3 n g bl/\Heap (jD ls) n g/\(f i::all n g).Perm (all (n+1) f)/\(∃p,W'.get (f i).b=some (.cells [.int .i64 (f i).h,.int .i64 (f i).v.1,.int .i64 (f i).v.2,p]))/\W'.next=W.next/\∀b,b≠q->¬Own (n+1) f bl b->W'.get b=W.get b:=by
 have main:Ok (jN aL (RH q) (.int .i64 (i:Int)) W) λr=>r.1=.iface 287 (qK (f i))/\∃lv' g,QP r.2 q lv' less c2 c3 n g bl/\Heap (jD ls) n g/\(f i::all n g).Perm (all (n+1) f)/\(∃p,r.2.get (f i).b=some (.cells [.int .i64 (f i).h,.int .i64 (f i).v.1,.int .i64 (f i).v.2,p]))/\r.2.next=W.next/\∀b,b≠q->¬Own (n+1) f bl b->r.2.get b=W.get b:=by
  unfold jN;by_cases hin:i=n
  ·subst hin;obtain⟨W3,lv',p1,p2,p3,p4⟩:=a0Z h hn;simp only[SX,a6w,JV h,a4O i (by omega),a8O,p1,aB];refine⟨trivial,lv',f,p2,hh.less (by omega),?_,⟨_,by rw[p4 _ (h.eq i hi) (h.pile.sl.ne hi)];exact(h.pile.en i hi).1⟩,p3,λb hb ho=>p4 b hb λe=>ho (.inl e)⟩;rw[ML];exact(List.perm_append_singleton _ _).symm
  ·have e1:¬((n:Int)=(i:Int)):=by omega
   obtain⟨W1,s1,s2,s3⟩:=BZ h hi (show n<n+1 by omega);have hodd:Odd (jD ls) n (vV f i n) i:=(hh.less (Nat.le_succ n)).change o λj hj hji=>iF _ hji (by omega)
   obtain⟨W2,g,b,d1,d2,d3,d4,d5,d6⟩:=a5g o hl s2 (by omega) (Nat.le_succ n) (show i<=n by omega) hodd;have hp1:(all (n+1) (vV f i n)).Perm (all (n+1) f):=JN f hi (by omega);have fin:∀W3 g3,QP W3 q lv less c2 c3 (n+1) g3 bl->Fr W2 W3 (Own (n+1) (vV f i n) bl)->Heap (jD ls) n g3->(all n g3).Perm (all n (vV f i n))->vZ n (vV f i n) g3->
    ∃W4 lv',aL (.func (.func 387) #[] #[]) [.pointer (some ⟨q,0,none⟩)] W3=some (.iface 287 (qK (f i)),W4)/\QP W4 q lv' less c2 c3 n g3 bl/\(f i::all n g3).Perm (all (n+1) f)/\(∃p,W4.get (f i).b=some (.cells [.int .i64 (f i).h,.int .i64 (f i).v.1,.int .i64 (f i).v.2,p]))/\W4.next=W.next/\∀b,b≠q->¬Own (n+1) f bl b->W4.get b=W.get b:=by
    intro W3 g3 a1 a2 a3 a4 a5;have hg:g3 n=f i:=by rw[a5 n (Nat.le_refl n),y9]
    obtain⟨W4,lv',p1,p2,p3,p4⟩:=a0Z a1 hn;rw[hg]at p1;refine⟨W4,lv',p1,p2,?_,⟨_,by have x:=(a1.pile.en n (Nat.lt_succ_self n)).1;have y:=a1.pile.sl.ne (Nat.lt_succ_self n);have z:=a1.eq n (Nat.lt_succ_self n);rw[hg]at x y z;rw[p4 _ z y];exact x⟩,by rw[p3,a2.next,d3.next,s3.next],λb hb ho=>?_⟩
    ·refine .trans ?_ hp1;rw[ML,y9];exact(List.perm_append_singleton _ _).symm.trans (a4.append (.refl _))
    ·have ho2:¬Own (n+1) (vV f i n) bl b:=λx=>ho (Own.perm hp1 x)
     rw[p4 b hb λhx=>ho (.inl hx),a2.get b ho2,d3.get b ho2,s3.get b ho]
   rcases d4 with⟨rfl,d4⟩|⟨rfl,rfl,d4⟩
   ·obtain⟨W4,lv',p1,p2,p3,p4,p5⟩:=fin W2 g d2 (.refl _ _) d4 d5 d6;simp only[SX,a6w,JV h,a4O n (by omega),e1,LZ,s1,d1,a8O,p1,aB];exact⟨trivial,lv',g,p2,d4,p3,p4,p5⟩
   ·obtain⟨W3,g3,u1,u2,u3,u4,u5,u6⟩:=a8g o hl d2 (by omega) (Nat.le_succ n) (show i<n by omega) d4;obtain⟨W4,lv',p1,p2,p3,p4,p5⟩:=fin W3 g3 u2 u3 u4 u5 u6;simp only[SX,a6w,JV h,a4O n (by omega),e1,LZ,s1,d1,u1,a8O,p1,aB];exact⟨trivial,lv',g3,p2,u4,p3,p4,p5⟩
 obtain⟨⟨r,W'⟩,h1,h2,lv',g,h3⟩:=main;simp only at h2 h3;subst h2;exact⟨W',lv',g,by rw[uV h1,dV rfl],h3⟩
end
theorem u24:Tryz.prog.underlying 216=some (.pointer 284):=by kernel_rfl
theorem a6h:Tryz.prog.underlying 282=some (.map 2 287):=by kernel_rfl
theorem u2:Tryz.prog.underlying 2=some (.int .i64):=by kernel_rfl
theorem pNe(a:Addr)(c d:Bool)(W:AW):aH Tryz.prog .neq 216 c d (.pointer (some a)) (.pointer none) W=some (.bool true,W):=by unfold aH lY jY;simp only[u24];rfl
theorem mNe(m:Nat)(c d:Bool)(W:AW):aH Tryz.prog .neq 282 c d (.map (some m)) (.map none) W=some (.bool true,W):=by unfold aH lY jY;simp only[a6h];rfl
theorem aAQ(h:Int)(v:Int×Int)(W:AW):gK Tryz.prog 289 [(0,.int .i64 h),(1,lU v)] W=some (.agg #[.int .i64 h,.int .i64 v.1,.int .i64 v.2,.int .i64 0],W):=Eq.trans (by kernel_rfl) rfl
theorem a9D(W:AW):bE Tryz.prog 42 W=some (.pointer (some ⟨W.next,0,none⟩),W.add (.cells [.int .i64 0,.int .i64 0])):=Eq.trans (by kernel_rfl) rfl
theorem aCt(x:Value)(W:AW):wV Tryz.prog 42 x W=eU 2 x W:=by kernel_rfl
theorem a7w{W:AW}{b:Nat}{x y:Value}(v:Int×Int)(h:W.get b=some (.cells [x,y])):fZ 2 (.pointer (some ⟨b,0,none⟩)) (lU v) W=some (undef,W.put b (.cells [.int .i64 v.1,.int .i64 v.2])):=by rw[DF,bU h,Option.bind_some,if_pos ⟨rfl,by simp,rfl⟩];rfl
theorem a7B{W:AW}{b:Nat}{v:Int×Int}(h:W.get b=some (.cells [.int .i64 v.1,.int .i64 v.2])):eU 2 (.pointer (some ⟨b,0,none⟩)) W=some (lU v,W):=zA (bC h) rfl
theorem SlAt.ne_succ{W W':AW}{n:Nat}{f g:Nat->En}{lv lv':Value}{bl bl':Option Nat}(h:SlAt W (n+1) f lv bl)(h':SlAt W' n g lv' bl'):lv'≠lv:=by
 cases h with
 |nil h0=>omega
 |row b junk h1 h2 h3=>
  cases h' with
  |nil h0=>simp
  |row b' junk' h1' h2' h3'=>intro e;injection e with _ e;omega
section
variable {W:AW} {q:Nat} {lv less c2 c3:Value} {n:Nat} {f:Nat->En} {bl:Option Nat} {ls:Int×Int->Int×Int->Bool}
theorem QP.keep{W W':AW}(h:QP W q lv less c2 c3 n f bl)(hn:W.next<=W'.next)(hg:∀b,b<W.next->b=q\/Own n f bl b->W'.get b=W.get b):QP W' q lv less c2 c3 n f bl:=by obtain⟨hqc,hql,⟨hsl,hen,hinj⟩,hbq,heq⟩:=h;refine⟨by rw[hg q hql (.inl rfl)];exact hqc,by omega,⟨hsl.keep hn λb hb=>hg b (hsl.lt hb) (.inr (.inl hb)),λi hi=>?_,hinj⟩,hbq,heq⟩;have:=(hen i hi).2;exact⟨by rw[hg _ this (.inr (.inr ⟨i,hi,rfl⟩))];exact(hen i hi).1,by omega⟩
theorem QP.turn{c3':Value}(h:QP W q lv less c2 c3 n f bl):QP (W.put q (.cells [lv,less,c2,c3'])) q lv less c2 c3' n f bl:=by obtain⟨hqc,hql,⟨hsl,hen,hinj⟩,hbq,heq⟩:=h;refine⟨AW.get_put _ _ _,by rw[AW.put_next];exact hql,⟨hsl.keep (by rw[AW.put_next];omega) λb hb=>AW.get_put_ne _ _ (λe=>hbq (by rw[hb,e])),λi hi=>?_,hinj⟩,hbq,heq⟩;rw[AW.get_put_ne _ _ (Ne.symm (heq i hi)),AW.put_next];exact hen i hi
end
structure QS (W:AW) (In:Nat->Prop) (q mh:Nat) (less:Value) (ls:Int×Int->Int×Int->Bool) (nx:Int) (n:Nat) (f:Nat->En):Prop where
 ex:∃lv bl,QP W q lv less (.map (some mh)) (.int .i64 nx) n f bl/\bl≠some mh/\∀b,Own n f bl b->In b
 ml:mh<W.next
 mq:mh≠q
 me:∀i,i<n->(f i).b≠mh
 iq:In q
 im:In mh
 hp:Heap (jD ls) n f
 mp:∃m,MapV W mh m n/\(∀i,i<n->m (f i).h=some (qK (f i)))/\∀k v,m k=some v->∃i,i<n/\(f i).h=k/\v=qK (f i)
 hd:∀i,i<n->1<=(f i).h/\(f i).h<nx
 nx1:1<=nx
structure Gr (W W':AW) (In:Nat->Prop):Prop where
 next:W.next<=W'.next
 get:∀b,b<W.next->¬In b->W'.get b=W.get b
theorem Gr.refl(W:AW)(In:Nat->Prop):Gr W W In:=⟨Nat.le_refl _,λ_ _ _=>rfl⟩
theorem Gr.trans{A B C:AW}{In:Nat->Prop}(h:Gr A B In)(k:Gr B C In):Gr A C In:=⟨Nat.le_trans h.next k.next,λb hb hi=>(k.get b (Nat.lt_of_lt_of_le hb h.next) hi).trans (h.get b hb hi)⟩
section
variable {W:AW} {In:Nat->Prop} {q mh:Nat} {less:Value} {ls:Int×Int->Int×Int->Bool} {nx:Int} {n:Nat} {f:Nat->En}
theorem QS.keep{W W':AW}{In':Nat->Prop}(h:QS W In q mh less ls nx n f)(hn:W.next<=W'.next)(hg:∀b,b<W.next->In b->W'.get b=W.get b)(hi:∀b,b<W.next->In b->In' b):QS W' In' q mh less ls nx n f:=by
 obtain⟨⟨lv,bl,h1,h2,h3⟩,ml,mq,me,iq,im,hp,⟨m,m1,m2⟩,hd,nx1⟩:=h;refine⟨⟨lv,bl,h1.keep hn λb hb ho=>hg b hb ?_,h2,λb hb=>hi b ?_ (h3 b hb)⟩,by omega,mq,me,hi q h1.lt iq,hi mh ml im,hp,⟨m,m1.keep (hg mh ml im),m2⟩,hd,nx1⟩
 ·rcases ho with rfl|ho
  ·exact iq
  ·exact h3 b ho
 ·rcases hb with hb|⟨i,hi',rfl⟩
  ·exact h1.pile.sl.lt hb
  ·exact(h1.pile.en i hi').2
theorem QS.back{W W':AW}(h:QS W' In q mh less ls nx n f)(hn:W'.next=W.next)(hle:Le W W'):QS W In q mh less ls nx n f:=
 h.keep (by omega) (λb hb _=>(hle.get b (by omega)).symm) λ_ _ hb=>hb
abbrev qV(q:Nat):Value:=.pointer (some ⟨q,0,none⟩)
theorem TP(h:QS W In q mh less ls nx n f):aL (.func (.func 194) #[] #[]) [qV q] W=some (.bool true,W):=by obtain⟨⟨lv,bl,h1,h2,h3⟩,-⟩:=h;refine aN rfl ?_ o6;unfold jG;simp only[SX,pNe,aD,Nat.zero_add,h1.l2,mNe,aB];exact⟨trivial,.refl _⟩
end
theorem aCz:(match Tryz.prog.underlying 215 with|some (.func _ _ _)=>true|_=>false)=true:=by kernel_rfl
theorem u26:∃a b c,Tryz.prog.underlying 215=some (.func a b c):=by
 have h:=aCz;split at h
 ·rename_i a b c e;exact⟨a,b,c,e⟩
 ·cases h
theorem aBR(k:Nat)(W:AW):aH Tryz.prog .eql 215 false true (.func (.func k) #[] #[]) .nilFunc W=some (.bool false,W):=by obtain⟨a,b,c,h⟩:=u26;unfold aH lY jY;simp only[h]
theorem aAq(k:Nat)(W:AW):gK Tryz.prog 281 [(1,.func (.func k) #[] #[])] W=some (.agg #[.slice none 0 0,.func (.func k) #[] #[]],W):=Eq.trans (by kernel_rfl) rfl
theorem aAW(k m:Nat)(W:AW):gK Tryz.prog 284 [(0,.agg #[.slice none 0 0,.func (.func k) #[] #[]]),(1,.map (some m)),(2,.int .i64 1)] W=some (.agg #[.slice none 0 0,.func (.func k) #[] #[],.map (some m),.int .i64 1],W):=Eq.trans (by kernel_rfl) rfl
theorem VT(a b c d:Value)(W:AW):dK (.agg #[a,b,c,d]) W=some (.pointer (some ⟨W.next,0,none⟩),W.add (.cells [a,b,c,d])):=fU _
theorem mkM(W:AW):wB Tryz.prog 282 none W=some (.map (some W.next),W.add (.map [] 0)):=rfl
theorem a8u{In:Nat->Prop}{W:AW}(hi:∀b,W.next<=b->In b)(k:Nat)(ls:Int×Int->Int×Int->Bool)(f:Nat->En):∃W' q mh,aL (.func (.func 136) #[] #[]) [.func (.func k) #[] #[]] W=some (qV q,W')/\QS W' In q mh (.func (.func k) #[] #[]) ls 1 0 f/\Gr W W' In:=by
 have main:jV aL (.func (.func k) #[] #[]) W=some (qV (W.next+1),(W.add (.map [] 0)).add (.cells [.slice none 0 0,.func (.func k) #[] #[],.map (some W.next),.int .i64 1])):=by unfold jV;simp only[SX,aBR,aAq,mkM,aAW,VT];rfl
 have e:=uH main;rw[dV rfl]at e;refine⟨_,W.next+1,W.next,e,⟨⟨.slice none 0 0,none,⟨by rw[<-AW.add_next W (.map [] 0)];exact AW.get_add _ _,by simp only[AW.add_next];omega,⟨.nil rfl,λi hi=>by omega,λi j hi=>by omega⟩,by simp,λi hi=>by omega⟩,by simp,λb hb=>?_⟩,by simp only[AW.add_next];omega,by omega,λi hi=>by omega,hi _ (by omega),hi _ (by omega),λk _ hk=>by omega,⟨_,mapV_new.keep (AW.get_add_ne _ _ (by rw[AW.add_next];omega)),λi hi=>by omega,λk v hk=>by cases hk⟩,λi hi=>by omega,by omega⟩,by simp only[AW.add_next];omega,λb hb _=>?_⟩
 ·rcases hb with hb|⟨i,hi,-⟩
  ·cases hb
  ·omega
 ·rw[AW.get_add_ne _ _ (by rw[AW.add_next];omega),AW.get_add_ne _ _ (by omega)]
section
variable {W:AW} {In:Nat->Prop} {q mh:Nat} {less:Value} {ls:Int×Int->Int×Int->Bool} {nx:Int} {n:Nat} {f:Nat->En}
theorem a5L(o:Ord (jD ls))(hl:rQ less ls)(h:QS W In q mh less ls nx n f)(hn:n<5000)(hnx:nx<1000000000000000)(hi:∀b,W.next<=b->In b)(v:Int×Int):
 ∃W' g,aL (.func (.func 138) #[] #[]) [qV q,lU v] W=some (.tuple #[.int .i64 nx,.int .i64 0],W')/\QS W' In q mh less ls (nx+1) (n+1) g/\(all (n+1) g).Perm (⟨W.next+1,nx,v⟩::all n f)/\Gr W W' In:=by
 generalize hV:W.add (.cells [.int .i64 v.1,.int .i64 v.2])=V;have lV:Le W V:=by rw[<-hV];exact(Le.refl _).add _
 have nV:V.next=W.next+1:=by rw[<-hV,AW.add_next]
 have xV:V.get W.next=some (.cells [.int .i64 v.1,.int .i64 v.2]):=by rw[<-hV];exact AW.get_add _ _
 have oBh:dK (lU v) W=some (.pointer (some ⟨W.next,0,none⟩),V):=by rw[<-hV];exact fU _
 have hW:=h;replace h:QS V In q mh less ls nx n f:=h.keep lV.next (λb hb _=>lV.get b hb) (λb _ hi=>hi);replace hi:∀b,V.next<=b->In b:=λb hb=>hi b (by omega)
 rw[<-nV];have hm:=TP h;have main:Ok (fB aL (qV q) (lU v) W) λr=>r.1=.tuple #[.int .i64 nx,.int .i64 0]/\(∃g,QS r.2 In q mh less ls (nx+1) (n+1) g/\(all (n+1) g).Perm (⟨V.next,nx,v⟩::all n f)/\Gr V r.2 In)/\r.2.get q≠V.get q/\q<V.next:=by
  obtain⟨⟨lv,bl,h1,h2,h3⟩,ml,mq,me,iq,im,hp,⟨m,m1,m2,m3⟩,hd,nx1⟩:=h;have e1:¬(5000<=(n:Int)):=by omega
  have e2:¬(1000000000000000<=nx):=by omega
  have e3:=λW'=>aQ (P:=Tryz.prog) (W:=W') (t:=2) (c:=false) (d:=true) (a:=nx) (b:=1) (by omega) (by omega)
  unfold fB;generalize hW1:V.add (.cells [.int .i64 nx,.int .i64 v.1,.int .i64 v.2,.int .i64 0])=W1;have g1:∀b,b<V.next->W1.get b=V.get b:=λb hb=>by rw[<-hW1];exact AW.get_add_ne _ _ (by omega)
  have n1:W1.next=V.next+1:=by rw[<-hW1,AW.add_next]
  have ge1:W1.get V.next=some (.cells [.int .i64 nx,.int .i64 v.1,.int .i64 v.2,.int .i64 0]):=by rw[<-hW1];exact AW.get_add _ _
  have q1:QP W1 q lv less (.map (some mh)) (.int .i64 nx) n f bl:=h1.keep (by omega) λb hb _=>g1 b hb
  have s1:=ZP (v:=.int .i64 (nx+1)) (o:=3) q1.qc (by simp) rfl rfl;rw[show([lv,less,.map (some mh),.int .i64 nx]:List Value).set 3 (.int .i64 (nx+1))=[lv,less,.map (some mh),.int .i64 (nx+1)]from rfl]at s1;have q2:=q1.turn (c3':=.int .i64 (nx+1));generalize hW2:W1.put q (.cells [lv,less,.map (some mh),.int .i64 (nx+1)])=W2 at s1 q2;have g2:∀b,b≠q->W2.get b=W1.get b:=λb hb=>by rw[<-hW2];exact AW.get_put_ne _ _ (Ne.symm hb)
  have n2:W2.next=V.next+1:=by rw[<-hW2,AW.put_next,n1]
  have hqn:V.next≠q:=by have:=h1.lt;omega
  have ge2:W2.get V.next=some (.cells [.int .i64 nx,.int .i64 v.1,.int .i64 v.2,.int .i64 0]):=(g2 _ hqn).trans ge1;have m1':MapV W2 mh m n:=m1.keep (by rw[g2 _ mq,g1 _ ml]);obtain⟨es,c,d1,d2⟩:=XR m1' a6h u2 nx (.pointer (some ⟨V.next,0,none⟩));have hmn:m nx=none:=by
   cases hx:m nx with
   |none=>rfl
   |some v=>obtain⟨i,hi,e,-⟩:=m3 nx v hx;have:=(hd i hi).2;omega
  rw[hmn]at d2;simp only[Option.isSome_none,Bool.false_eq_true,if_false]at d2;generalize hW3:W2.put mh (.map es c)=W3 at d1 d2;have g3:∀b,b≠mh->W3.get b=W2.get b:=λb hb=>by rw[<-hW3];exact AW.get_put_ne _ _ (Ne.symm hb)
  have n3:W3.next=V.next+1:=by rw[<-hW3,AW.put_next,n2]
  have hown:∀b,Own n f bl b->b<V.next:=λb hb=>by
   rcases hb with hb|⟨i,hi,rfl⟩
   ·exact h1.pile.sl.lt hb
   ·exact(h1.pile.en i hi).2
  have q3:QP W3 q lv less (.map (some mh)) (.int .i64 (nx+1)) n f bl:=q2.keep (by omega) λb hb ho=>g3 b λe=>by
   subst e;rcases ho with ho|ho|⟨i,hi,ho⟩
   ·exact mq ho
   ·exact h2 ho
   ·exact me i hi ho
  have ge3:W3.get V.next=some (.cells [.int .i64 nx,.int .i64 v.1,.int .i64 v.2,.int .i64 0]):=(g3 _ (by omega)).trans ge2;obtain⟨W4,lv',b',g,p1,p2,p3,p4,p5,p6,p7⟩:=a4w (e:=⟨V.next,nx,v⟩) o hl q3 hp (by omega) ge3 (by rw[n3];exact Nat.lt_succ_self _) hqn (λe=>by have:=hown _ (.inl e);simp at this) (λi hi e=>by have:=(h1.pile.en i hi).2;simp only at e;omega);obtain⟨j,hj,ej⟩:=bP.1 (p4.mem_iff.2 (List.mem_cons_self ..));have l4:aP (.pointer (some ⟨V.next,0,none⟩)) W4=some (.int .i64 nx,W4):=by have:=(p2.pile.cell hj).1;rw[ej]at this;exact this
  simp only[SX,hm,aD,Nat.zero_add,h1.l0,h1.l3,h1.pile.len,e1,e2,oBh,a7B xV,aAQ,VT,hW1,q1.l3,e3,s1,q2.l2,jE (o:=0) (bU ge2) rfl,d1,a7Q,a7Y,p1,l4,aB];have hmem:∀i,i<n+1->g i=⟨V.next,nx,v⟩\/∃k,k<n/\f k=g i:=λi hi=>by
   rcases List.mem_cons.1 (p4.mem_iff.1 (bP.2 ⟨i,hi,rfl⟩))with e|e
   ·exact .inl e
   ·exact .inr (bP.1 e)
  have q4:W4.get q=some (.cells [lv',less,.map (some mh),.int .i64 (nx+1)]):=p2.qc;refine⟨trivial,⟨g,⟨⟨lv',some b',p2,λe=>by injection e with e;omega,λb hb=>?_⟩,by omega,mq,λi hi'=>?_,iq,im,p3,⟨_,d2.keep (p7 mh (by omega) mq (by simp only;omega) λho=>?_),λi hi'=>?_,λk v' hk=>?_⟩,λi hi'=>?_,by omega⟩,p4,by omega,λb hb hni=>?_⟩,?_,h1.lt⟩
  ·rcases hb with hb|⟨i,hi',rfl⟩
   ·injection hb with hb;exact hi b (by omega)
   ·rcases hmem i hi' with e|⟨k,hk,e⟩
    ·rw[e];exact hi _ (Nat.le_refl _)
    ·rw[<-e];exact h3 _ (.inr ⟨k,hk,rfl⟩)
  ·rcases hmem i hi' with e|⟨k,hk,e⟩
   ·rw[e];simp only;omega
   ·rw[<-e];exact me k hk
  ·rcases ho with ho|⟨i,hi',ho⟩
   ·exact h2 ho
   ·exact me i hi' ho
  ·rcases hmem i hi' with e|⟨k,hk,e⟩
   ·rw[e,if_pos rfl]
   ·have:=(hd k hk).2;rw[<-e,if_neg (by omega)];exact m2 k hk
  ·by_cases hk0:k=nx
   ·rw[if_pos hk0]at hk;injection hk with hk;exact⟨j,hj,by rw[ej,hk0],by rw[ej,<-hk]⟩
   ·rw[if_neg hk0]at hk;obtain⟨i,hi',x1,x2⟩:=m3 k v' hk;obtain⟨i2,hi2,x3⟩:=bP.1 (p4.mem_iff.2 (List.mem_cons_of_mem _ (bP.2 ⟨i,hi',rfl⟩)));exact⟨i2,hi2,by rw[x3];exact x1,by rw[x3];exact x2⟩
  ·rcases hmem i hi' with e|⟨k,hk,e⟩
   ·rw[e];simp only;omega
   ·have:=hd k hk;rw[<-e];omega
  ·rw[p7 b (by omega) (λe=>hni (by rw[e];exact iq)) (by simp only;omega) (λho=>hni (h3 b ho)),g3 b (λe=>hni (by rw[e];exact im)),g2 b (λe=>hni (by rw[e];exact iq)),g1 b hb]
  ·rw[q4,h1.qc];intro e;injection e with e;injection e with e;injection e with _ e;injection e with _ e;injection e with _ e;injection e with e _;injection e with _ e;omega
 obtain⟨⟨r,W'⟩,h1,h2,⟨g,h3,h3',h3''⟩,h4,h5⟩:=main;simp only at h2 h3 h3' h3'' h4 h5;subst h2;have hql:q<W.next:=by obtain⟨⟨lv,bl,k1,-⟩,-⟩:=hW;exact k1.lt
 have hG:Gr W W' In:=⟨Nat.le_trans lV.next h3''.next,λb hb hn=>(h3''.get b (by omega) hn).trans (lV.get b hb)⟩;rcases yN (W:=W) (W':=W') (.tuple #[.int .i64 nx,.int .i64 0])with hg|⟨hg,hle⟩
 ·exact⟨W',g,by rw[oM h1,hg],h3,h3',hG⟩
 ·exact absurd ((hle.get q hql).trans (lV.get q hql).symm) h4
end
theorem QS.fresh{W:AW}{In:Nat->Prop}{q mh:Nat}{less:Value}{ls:Int×Int->Int×Int->Bool}{nx:Int}{n:Nat}{f:Nat->En}(h:QS W In q mh less ls nx n f){i j:Nat}(hi:i<n)(hj:j<n)(e:(f i).h=(f j).h):i=j:=by obtain⟨⟨lv,bl,h1,h2,h3⟩,ml,mq,me,iq,im,hp,⟨m,m1,m2,m3⟩,hd,nx1⟩:=h;have a1:=m2 i hi;rw[e,m2 j hj]at a1;injection a1 with a1;injection a1 with a1;injection a1 with a1;injection a1 with a1;exact h1.pile.inj i j hi hj a1.symm
def hv(e:En):Int×(Int×Int):=(e.h,e.v)
end Go.Proofs.YtnigceddndemkaaGreatDoor.Ho
namespace Go.Proofs.YtnigceddndemkaaGreatDoor
open Go Go.Eng Go.Hp
set_option maxRecDepth 100000
section
variable {W:AW} {In:Nat->Prop} {q mh:Nat} {less:Value} {ls:Int->Int->Bool} {nx:Int} {n:Nat} {f:Nat->En}
theorem JX(v:Value)(W:AW):gc W (v,W)=(v,W):=by rcases yN (W:=W) (W':=W) v with h|⟨h,-⟩<;>exact h
end
end Go.Proofs.YtnigceddndemkaaGreatDoor
namespace Go.Proofs.YtnigceddndemkaaGreatDoor.Ho
open Go Go.Eng Go.Hp
set_option maxRecDepth 100000
theorem aCw:kR Tryz.prog 287=some (.pointer none):=by kernel_rfl
section
variable {W:AW} {In:Nat->Prop} {q mh:Nat} {less:Value} {ls:Int×Int->Int×Int->Bool} {nx:Int} {n:Nat} {f:Nat->En}
theorem a7h(h:QS W In q mh less ls nx n f){i:Nat}(hi:i<n):aL (.func (.func 246) #[] #[]) [qV q,.int .i64 (f i).h] W=some (.tuple #[qK (f i),.int .i64 0],W):=by
 have hm:=TP h;obtain⟨⟨lv,bl,h1,h2,h3⟩,ml,mq,me,iq,im,hp,⟨m,m1,m2,m3⟩,hd,nx1⟩:=h;have g:=FP m1 a6h u2 aCw (f i).h;rw[m2 i hi]at g;have main:fE aL (qV q) (.int .i64 (f i).h) W=some (.tuple #[qK (f i),.int .i64 0],W):=by unfold fE;simp only[SX,hm,aD,Nat.zero_add,h1.l2,g,Option.getD_some,Option.isSome_some]
 rw[oD main,JX]
theorem a7I(W:AW):∃V,bE Tryz.prog 42 W=some (.pointer (some ⟨W.next,0,none⟩),V)/\Le W V/\V.next=W.next+1/\V.get W.next=some (.cells [.int .i64 0,.int .i64 0]):=⟨_,a9D W,(Le.refl _).add _,AW.add_next _ _,AW.get_add _ _⟩
theorem YQ(o:Ord (jD ls))(hl:rQ less ls)(h:QS W In q mh less ls nx (n+1) f)(hn:n<=10000){i:Nat}(hi:i<n+1):
 ∃W' g,aL (.func (.func 210) #[] #[]) [qV q,.int .i64 (f i).h] W=some (.tuple #[lU (f i).v,.int .i64 0],W')/\QS W' In q mh less ls nx n g/\(f i::all n g).Perm (all (n+1) f)/\Gr W W' In:=by
 obtain⟨V,a1,lV,nV,xV⟩:=a7I W;have hW:=h;replace h:QS V In q mh less ls nx (n+1) f:=h.keep lV.next (λb hb _=>lV.get b hb) (λb _ hi=>hi);have hf:=a7h h hi;have main:Ok (dY aL (qV q) (.int .i64 (f i).h) W) λr=>r.1=.tuple #[lU (f i).v,.int .i64 0]/\(∃g,QS r.2 In q mh less ls nx n g/\(f i::all n g).Perm (all (n+1) f)/\Gr W r.2 In)/\r.2.get q≠W.get q/\q<W.next:=by
  obtain⟨⟨lw,bw,w1,w2,w3⟩,wm,-⟩:=hW;obtain⟨⟨lv,bl,h1,h2,h3⟩,ml,mq,me,iq,im,hp,⟨m,m1,m2,m3⟩,hd,nx1⟩:=h;obtain⟨W1,lv',g,p1,p2,p3,p4,⟨pp,p0⟩,p5,p6⟩:=a0z o hl h1 hp hn hi;have hmem:∀j,j<n->∃k,k<n+1/\f k=g j:=λj hj=>bP.1 (p4.mem_iff.1 (List.mem_cons_of_mem _ (bP.2 ⟨j,hj,rfl⟩)))
  have hown:∀b,Own n g bl b->Own (n+1) f bl b:=λb hb=>by
   rcases hb with hb|⟨i,hi,rfl⟩
   ·exact .inl hb
   ·obtain⟨k,hk,e⟩:=hmem i hi;exact .inr ⟨k,hk,by rw[e]⟩
  have hmo:¬Own (n+1) f bl mh:=λho=>by
   rcases ho with ho|⟨i,hi,ho⟩
   ·exact h2 ho
   ·exact me i hi ho
  have m1':=m1.keep (p6 mh mq hmo);obtain⟨es,c,d1,d2⟩:=XM m1' a6h u2 [2] (f i).h;rw[m2 i hi]at d2;simp only[Option.isSome_some,if_true,Nat.add_sub_cancel]at d2;have dd:aG Tryz.prog .delete #[282,2] 0 #[false,false] [.map (some mh),.int .i64 (f i).h] W1=some (.tuple #[],W1.put mh (.map es c)):=by show(rA Tryz.prog W1 #[282,2] (.map (some mh)) (.int .i64 (f i).h)).map _=_;have:(#[282,2]:Array TypeId)=(282::[2]).toArray:=rfl;rw[this,d1];rfl
  have p0':(W1.put mh (.map es c)).get (f i).b=some (.cells [.int .i64 (f i).h,.int .i64 (f i).v.1,.int .i64 (f i).v.2,pp]):=by rw[AW.get_put_ne _ _ (λe=>me i hi e.symm)];exact p0
  have hqn:W.next≠q:=by have:=w1.lt;omega
  have hmn:W.next≠mh:=by omega
  have hwo:¬Own (n+1) f bl W.next:=λho=>by
   rcases ho with ho|⟨i,hi,ho⟩
   ·have x:=h1.qc;rw[lV.get q w1.lt,w1.qc]at x;injection x with x;injection x with x;injection x with x _;have y:=w1.pile.sl;rw[x]at y;have z:=h1.pile.sl;rw[ho]at z;cases z with
    |row b junk z1 z2 z3=>
     cases y with
     |row b' junk' y1 y2 y3=>omega
   ·have x:=(w1.pile.en i hi).2;omega
  have xW1:W1.get W.next=some (.cells [.int .i64 0,.int .i64 0]):=(p6 _ hqn hwo).trans xV;have xW2:(W1.put mh (.map es c)).get W.next=some (.cells [.int .i64 0,.int .i64 0]):=by rw[AW.get_put_ne _ _ (Ne.symm hmn)];exact xW1
  generalize hW2:W1.put mh (.map es c)=W2 at d2 dd xW2 p0';have g2:∀b,b≠mh->W2.get b=W1.get b:=λb hb=>by rw[<-hW2];exact AW.get_put_ne _ _ (Ne.symm hb)
  have n2:W2.next=W.next+1:=by rw[<-hW2,AW.put_next,p5,nV]
  have st:=a7w (f i).v xW2;have xW3:(W2.put W.next (.cells [.int .i64 (f i).v.1,.int .i64 (f i).v.2])).get W.next=some (.cells [.int .i64 (f i).v.1,.int .i64 (f i).v.2]):=AW.get_put _ _ _;generalize hW3:W2.put W.next (.cells [.int .i64 (f i).v.1,.int .i64 (f i).v.2])=W3 at st xW3;have g3:∀b,b≠W.next->W3.get b=W2.get b:=λb hb=>by rw[<-hW3];exact AW.get_put_ne _ _ (Ne.symm hb)
  have n3:W3.next=W.next+1:=by rw[<-hW3,AW.put_next,n2]
  have hbw:∀b,Own n g bl b->b≠W.next:=λb hb e=>hwo (by rw[<-e];exact hown b hb)
  have ldp:eU 2 (.pointer (some ⟨(f i).b,1,none⟩)) W2=some (lU (f i).v,W2):=qP (eH (bU p0')) rfl;unfold dY;simp only[SX,a1,hf,aD,Nat.zero_add,a7Q,jE (o:=3) (bU (h1.pile.en i hi).1) rfl,p1,p2.l2,dd,ldp,st,kP,aCt,a7B xW3,Option.bind_some,aB];have q3:QP W3 q lv' less (.map (some mh)) (.int .i64 nx) n g bl:=p2.keep (by omega) λb hb ho=>by
   have e1:b≠W.next:=by
    rcases ho with rfl|ho
    ·exact Ne.symm hqn
    ·exact hbw b ho
   rw[g3 b e1,g2 b];intro e;subst e;rcases ho with ho|ho
   ·exact mq ho
   ·exact hmo (hown _ ho)
  refine⟨trivial,⟨g,⟨⟨lv',bl,q3,h2,λb hb=>h3 b (hown b hb)⟩,by omega,mq,λi hi=>?_,iq,im,p3,⟨_,d2.keep (g3 mh (Ne.symm hmn)),λj hj=>?_,λk v hk=>?_⟩,λi hi=>?_,nx1⟩,p4,by omega,λb hb hi=>?_⟩,?_,w1.lt⟩
  ·obtain⟨k,hk,e⟩:=hmem i hi;rw[<-e];exact me k hk
  ·have hne:¬(g j).h=(f i).h:=λe=>by
    obtain⟨k,hk,ek⟩:=hmem j hj;have a1:=m2 k hk;rw[ek,e,m2 i hi]at a1;injection a1 with a1;have a2:(f i).b=(g j).b:=by injection a1 with a1;injection a1 with a1;injection a1
    have hnd:((f i).b::(all n g).map (·.b)).Nodup:=by
     have:=(p4.map (·.b)).nodup_iff.2 ?_
     ·exact this
     ·unfold all;rw[List.map_map,List.nodup_iff_pairwise_ne,List.pairwise_map];refine List.nodup_range.imp_of_mem λ{a b} ha hb hab e=>hab (h1.pile.inj a b (List.mem_range.1 ha) (List.mem_range.1 hb) e)
    exact(List.nodup_cons.1 hnd).1 (List.mem_map.2 ⟨g j,bP.2 ⟨j,hj,rfl⟩,a2.symm⟩)
   obtain⟨k,hk,ek⟩:=hmem j hj;rw[if_neg hne,<-ek];exact m2 k hk
  ·by_cases hk0:k=(f i).h
   ·rw[if_pos hk0]at hk;cases hk
   ·rw[if_neg hk0]at hk;obtain⟨i',hi',e1,e2⟩:=m3 k v hk;have:=p4.mem_iff.2 (bP.2 ⟨i',hi',rfl⟩);rcases List.mem_cons.1 this with e|hm
    ·rw[e]at e1;exact absurd e1.symm hk0
    ·obtain⟨j,hj,e⟩:=bP.1 hm;exact⟨j,hj,by rw[e];exact e1,by rw[e];exact e2⟩
  ·obtain⟨k,hk,e⟩:=hmem i hi;rw[<-e];exact hd k hk
  ·rw[g3 b (by omega),g2 b (λe=>hi (by rw[e];exact im)),p6 b (λe=>hi (by rw[e];exact iq)) λho=>hi (h3 b ho)];exact lV.get b hb
  ·rw[q3.qc,w1.qc];intro e;injection e with e;injection e with e;injection e with e _;exact SlAt.ne_succ w1.pile.sl p2.pile.sl e
 obtain⟨⟨r,W'⟩,h1,h2,⟨g,h3⟩,h4,h5⟩:=main;simp only at h2 h3 h4 h5;subst h2;rcases yN (W:=W) (W':=W') (.tuple #[lU (f i).v,.int .i64 0])with hg|⟨hg,hle⟩
 ·exact⟨W',g,by rw[mK h1,hg],h3⟩
 ·exact absurd (hle.get q h5) h4
end
end Go.Proofs.YtnigceddndemkaaGreatDoor.Ho
namespace Go.Proofs.YtnigceddndemkaaGreatDoor
open Go Go.Eng Go.Hp
set_option maxRecDepth 100000
def hv(e:En):Int×Int:=(e.h,e.v)
theorem FC:((#[69]:Array TypeId)[0]?).bind Tryz.prog.underlying=some (.slice 3):=by kernel_rfl
theorem s4:nI Tryz.prog 4=some 1:=by kernel_rfl
theorem b4:(Tryz.prog.info? 4).map (·.bytes)=some 1:=by kernel_rfl
section
variable {P:Program} {W:AW}
end
end Go.Proofs.YtnigceddndemkaaGreatDoor
namespace Go.Proofs.YtnigceddndemkaaGreatDoor.Ho
open Go Go.Eng Go.Hp
set_option maxRecDepth 100000
def IsLess1(less:Value)(ls:Int×Int->Int×Int->Bool):Prop:=∀a b W,nQ less [lU a,lU b] W=some (.bool (ls a b),W)
theorem IsLess1.up{less:Value}{ls:Int×Int->Int×Int->Bool}(h:IsLess1 less ls):rQ less ls:=λa b W=>a8C _ _ _ _ (h a b W)
theorem V5{V:AW}{q:Nat}{lv less:Value}{ls:Int×Int->Int×Int->Bool}{rq ra rb:List Value}(hl:IsLess1 less ls){a b:En}(hq:cellsAt V q=some (lv::less::rq))(ha:cellsAt V a.b=some (.int .i64 a.h::.int .i64 a.v.1::.int .i64 a.v.2::ra))(hb:cellsAt V b.b=some (.int .i64 b.h::.int .i64 b.v.1::.int .i64 b.v.2::rb)):
 nQ (.func (.func 276) #[] #[]) [.pointer (some ⟨q,0,none⟩),qK a,qK b] V=some (.bool (jD ls a b),V):=by
 refine aN rfl ?_ nO;unfold dD jD;have q1:aP (.pointer (some ⟨q,1,none⟩)) V=some (less,V):=d9 hq rfl;have a1:aP (.pointer (some ⟨a.b,0,none⟩)) V=some (.int .i64 a.h,V):=d9 ha rfl;have a2:eU 2 (.pointer (some ⟨a.b,1,none⟩)) V=some (lU a.v,V):=qP ha rfl;have b1:aP (.pointer (some ⟨b.b,0,none⟩)) V=some (.int .i64 b.h,V):=d9 hb rfl;have b2:eU 2 (.pointer (some ⟨b.b,1,none⟩)) V=some (lU b.v,V):=qP hb rfl;simp only[SX,aD,Nat.zero_add,q1,a2,b2,hl a.v b.v];cases ls a.v b.v;case true=>simp only[SX,aB];exact⟨by simp,.refl _⟩
 simp only[SX,aD,Nat.zero_add,q1,a2,b2,hl b.v a.v];cases ls b.v a.v;case true=>simp only[SX,aB];exact⟨by simp,.refl _⟩
 simp only[SX,aD,Nat.zero_add,a1,b1,aB];exact⟨by simp,.refl _⟩
theorem aA8:Tryz.prog.underlying 279=some (.slice 287):=by kernel_rfl
theorem aCa(c d:Bool)(l k:Nat)(W:AW):aH Tryz.prog .eql 279 c d (.slice none l k) (.slice none 0 0) W=some (.bool true,W):=by unfold aH lY jY;simp only[aA8];rfl
theorem a7H(c d:Bool)(a:Addr)(l k:Nat)(W:AW):aH Tryz.prog .eql 279 c d (.slice (some a) l k) (.slice none 0 0) W=some (.bool false,W):=by unfold aH lY jY;simp only[aA8]
theorem a01(W:AW):aV Tryz.prog 279 0 [] W=some (.slice (some ⟨W.next,0,none⟩) 0 0,W.add (.cells [])):=Eq.trans (by kernel_rfl) rfl
section
variable {P:Program} {W:AW}
theorem EG{ts:Array TypeId}{z bytes:Nat}(hk:mD P ts z bytes=true){b o n c:Nat}{cs new:List Value}(hc:cellsAt W b=some cs)(hn:new=(cs.drop o).take (n*z))(hl:new.length=n*z)(h0:0<n)(h1:new.all Eng.one=true)
 {a:Addr}(hb:n<1099511627776)(hb2:(2*n+192)*bytes<=281474976710656):
 bJ P W ts (.slice (some a) 0 0) (.slice (some ⟨b,o,none⟩) n c)=some (.slice (some ⟨W.next,0,none⟩) n (bS+z),W.add (.cells new)):=by
 obtain⟨t,e,zv,k1,k2,k3,k4,k5,k6⟩:=uW hk;have hr:pX W b o (n*z)=some new:=by rw[j5,hc];simp only;rw[if_pos (by rw[<-hn];exact hl),hn]
 have hr1:bA W (.slice (some ⟨b,o,none⟩) n c) (n*z)=some new:=by unfold bA;simp only;rw[if_neg (by have:=Nat.mul_pos h0 k5;omega),if_neg (by omega)];exact hr
 have hr2:bA W (.slice (some a) 0 0) (0*z)=some []:=by unfold bA;simp
 have hB:0<bS:=by unfold bS;omega
 have hB2:¬0=bS+z:=by unfold bS;omega
 unfold bJ;simp only[k1,k2,k3,k4,if_true,Nat.zero_add,if_pos (And.intro k5 (And.intro k6 (And.intro hb hb2))),if_neg (show¬n=0 by omega),hr1,hr2,h1,if_neg hB2,if_pos hB,if_neg (show¬n<=0 by omega),AW.new_eq,List.nil_append]
theorem yE{ts:Array TypeId}{z bytes:Nat}(hk:mD P ts z bytes=true){a a2:Option Addr}{l c c2:Nat}(h:l<=c)(hb:l<1099511627776)(hb2:(2*l+192)*bytes<=281474976710656):
 bJ P W ts (.slice a l c) (.slice a2 0 c2)=some (.slice a l c,W):=by
 obtain⟨t,e,zv,k1,k2,k3,k4,k5,k6⟩:=uW hk;unfold bJ;simp only[k1,k2,k3,k4,if_true,Nat.add_zero,if_pos (And.intro k5 (And.intro k6 (And.intro hb hb2))),if_pos h]
end
theorem a3j(n:Nat)(f:Nat->En):(fA n f).all Eng.one=true:=by unfold fA;rw[List.all_map,List.all_eq_true];intro i _;rfl
theorem a4s{W:AW}{n:Nat}{f:Nat->En}{lv:Value}{bl:Option Nat}(h:SlAt W n f lv bl)(hn:n<=10000):
 ∃v W',aL (.func (.func 273) #[] #[]) [lv] W=some (v,W')/\Le W W'/\((n=0/\∃a c,v=.slice a 0 c)\/(0<n/\∃b,W.next<=b/\b<W'.next/\v=.slice (some ⟨b,0,none⟩) n (bS+1)/\W'.get b=some (.cells (fA n f)))):=by
 cases h with
 |nil h0=>
  have main:aK aL (.slice none 0 0) W=some (.slice none 0 0,W):=by unfold aK;simp only[SX,aCa]
  exact⟨_,W,by rw[aY main,JX],.refl _,.inl ⟨h0,_,_,rfl⟩⟩
 |row bl junk h1 h2 h3=>
  have hc:cellsAt (W.add (.cells [])) bl=some (fA n f++junk):=by rw[Y0 _ h2];exact bC h1
  by_cases h0:n=0
  ·subst h0;have e:=yE (P:=Tryz.prog) (W:=W.add (.cells [])) (ts:=#[279,279]) a0K (a:=some ⟨W.next,0,none⟩) (a2:=some ⟨bl,0,none⟩) (l:=0) (c:=0) (c2:=bS+1) (by omega) (by omega) (by omega);have main:aK aL (.slice (some ⟨bl,0,none⟩) 0 (bS+1)) W=some (.slice (some ⟨W.next,0,none⟩) 0 0,W.add (.cells [])):=by unfold aK;simp only[SX,a7H,a01,e]
   refine⟨_,W.add (.cells []),by rw[aY main,dV rfl],(Le.refl _).add _,.inl ⟨rfl,_,_,rfl⟩⟩
  ·have e:=EG (P:=Tryz.prog) (W:=W.add (.cells [])) (ts:=#[279,279]) a0K (b:=bl) (o:=0) (n:=n) (c:=bS+1) (new:=fA n f) hc (by rw[List.drop_zero,Nat.mul_one,List.take_append_of_le_length (by rw[dC];omega),List.take_of_length_le (by rw[dC];omega)]) (by rw[dC];omega) (by omega) (a3j n f) (a:=⟨W.next,0,none⟩) (by omega) (by omega);have main:aK aL (.slice (some ⟨bl,0,none⟩) n (bS+1)) W=some (.slice (some ⟨W.next+1,0,none⟩) n (bS+1),(W.add (.cells [])).add (.cells (fA n f))):=by unfold aK;simp only[SX,a7H,a01,e,AW.add_next]
   refine⟨_,_,by rw[aY main,dV rfl],((Le.refl _).add _).add _,.inr ⟨by omega,W.next+1,by omega,by simp only[AW.add_next];omega,rfl,?_⟩⟩;have:=(W.add (.cells [])).get_add (.cells (fA n f));rw[AW.add_next]at this;exact this
def vR(a b:Int):Int:=if a<b then -1 else if b<a then 1 else 0
theorem NI(a:Int)(W:AW):nQ (.func (.func 191) #[] #[]) [.int .i64 a] W=some (.bool false,W):=by refine aN rfl ?_ AQ;unfold rU;simp only[SX,decide_true,Bool.not_true,aB];exact⟨trivial,.refl _⟩
theorem YN(a:Int)(W:AW):nQ (.func (.func 192) #[] #[]) [.int .i64 a] W=some (.bool false,W):=by refine aN rfl ?_ FT;unfold vJ;simp only[SX,decide_true,Bool.not_true,aB];exact⟨trivial,.refl _⟩
theorem X3(a b:Int)(W:AW):nQ (.func (.func 134) #[] #[]) [.int .i64 a,.int .i64 b] W=some (.int .i64 (vR a b),W):=by
 refine aN rfl ?_ yD;unfold oP vR;by_cases h1:a<b
 ·simp only[SX,NI,h1,if_true,aB];exact⟨trivial,.refl _⟩
 ·by_cases h2:b<a
  ·simp only[SX,NI,h1,h2,if_true,if_false,aB];exact⟨trivial,.refl _⟩
  ·simp only[SX,NI,h1,h2,if_false,aB];exact⟨trivial,.refl _⟩
theorem a0p(a b:Int)(W:AW):nQ (.func (.func 135) #[] #[]) [.int .i64 a,.int .i64 b] W=some (.int .i64 (vR a b),W):=by
 refine aN rfl ?_ AZ;unfold sJ vR;by_cases h1:a<b
 ·simp only[SX,YN,h1,if_true,aB];exact⟨trivial,.refl _⟩
 ·by_cases h2:b<a
  ·simp only[SX,YN,h1,h2,if_true,if_false,aB];exact⟨trivial,.refl _⟩
  ·simp only[SX,YN,h1,h2,if_false,aB];exact⟨trivial,.refl _⟩
theorem a7W{W:AW}{v:Value}{a b:Int}(h:Ints W v [a,b]):nQ (.func (.func 133) #[] #[]) [v] W=some (.int .i64 (if a=0 then b else a),W):=by
 refine aN rfl ?_ OH;unfold FN;simp only[SX,h.len FC];refine bF 2 (by omega) (λk R W'=>W'=W/\R 6=v/\R 7=.int .i64 2/\R 8=.int .i64 (k:Int)/\R 3=.int .i64 0/\(0<k->a=0)/\(1<k->b=0))
  (λr=>(r.1=.exit 0/\r.2.2=W/\r.2.1 3=.int .i64 0/\a=0/\b=0)\/(r.1=.ret/\r.2.2=W/\r.2.1 2=.int .i64 (if a=0 then b else a))) ⟨rfl,rfl,rfl,rfl,rfl,by omega,by omega⟩ ?_ ?_ ?_
 ·rintro k R W' hk ⟨rfl,r6,r7,r8,r3,h0,h1⟩;unfold vW;obtain⟨p,i1,i2⟩:=h.get (i:=k) (by simpa using hk);have t1:((k:Int)<2):=by omega
  have t2:=λW'=>aQ (P:=Tryz.prog) (W:=W') (t:=3) (c:=false) (d:=true) (a:=(k:Int)) (b:=1) (by omega) (by omega)
  have e3:((k+1:Nat):Int)=(k:Int)+1:=by omega
  have hk2:k=0\/k=1:=by omega
  have hel:([a,b]:List Int)[k]'(by simpa using hk)=if k=0 then a else b:=by rcases hk2 with rfl|rfl<;>rfl
  rw[hel]at i2;by_cases hz:(if k=0 then a else b)=0
  ·simp only[SX,r6,r7,r8,r3,t1,i1,i2 _ (.refl _),hz,t2,aB];refine .inl ⟨trivial,trivial,r6,r7,by rw[e3];rfl,r3,λ_=>?_,λ_=>?_⟩
   ·rcases hk2 with rfl|rfl
    ·simpa using hz
    ·exact h0 (by omega)
   ·have:k=1:=by omega
    subst this;simpa using hz
  ·simp only[SX,r6,r7,r8,r3,t1,i1,i2 _ (.refl _),hz,aB];refine .inr ⟨by simp,.inr ⟨trivial,trivial,?_⟩⟩;show Value.int .i64 (if k=0 then a else b)=_;rcases hk2 with rfl|rfl
   ·have hz':¬a=0:=by simpa using hz
    rw[if_pos rfl,if_neg hz']
   ·rw[if_neg (by omega),if_pos (h0 (by omega))]
 ·rintro R W' ⟨rfl,r6,r7,r8,r3,h0,h1⟩;unfold vW;have t1:¬(((2:Nat):Int)<2):=by omega
  simp only[SX,r6,r7,r8,t1,decide_false,aB];exact⟨by simp,.inl ⟨trivial,trivial,r3,h0 (by omega),h1 (by omega)⟩⟩
 ·rintro⟨x,R,W'⟩ hq;simp only at hq;rcases hq with⟨rfl,rfl,r3,rfl,rfl⟩|⟨rfl,rfl,r2⟩
  ·simp only[SX,r3,aB];exact⟨by simp,.refl _⟩
  ·simp only[SX,r2,aB];exact⟨trivial,.refl _⟩
def lX(a b:Int×Int):Bool:=decide (a.2<b.2)||(decide (a.2=b.2)&&decide (a.1<b.1))
theorem DJ:Ord (jD lX):=by
 refine⟨λa b h=>?_,λa b c h1 h2=>?_⟩
 ·simp only[jD,lX,Bool.or_eq_true,Bool.and_eq_true,Bool.not_eq_true',decide_eq_true_eq,decide_eq_false_iff_not,Bool.or_eq_false_iff,Bool.and_eq_false_imp]at *;omega
 ·simp only[jD,lX,Bool.or_eq_true,Bool.and_eq_true,Bool.not_eq_true',decide_eq_true_eq,decide_eq_false_iff_not,Bool.or_eq_false_iff,Bool.and_eq_false_imp]at *;omega
theorem aAf(a b:Int)(W:AW):aV Tryz.prog 69 2 [(0,.int .i64 a),(1,.int .i64 b)] W=some (.slice (some ⟨W.next,0,none⟩) 2 2,W.add (.cells [.int .i64 a,.int .i64 b])):=Eq.trans (by kernel_rfl) rfl
theorem hoLess1_ok:IsLess1 (.func (.func 132) #[] #[]) lX:=λa b W=>by
 refine aN rfl ?_ JA;unfold yI;have oB:∀(v:Int×Int) W,dK (lU v) W=some (.pointer (some ⟨W.next,0,none⟩),W.add (.cells [.int .i64 v.1,.int .i64 v.2])):=λv W=>fU _
 generalize hW2:(W.add (.cells [.int .i64 a.1,.int .i64 a.2])).add (.cells [.int .i64 b.1,.int .i64 b.2])=W2;have n1:(W.add (.cells [.int .i64 a.1,.int .i64 a.2])).next=W.next+1:=AW.add_next _ _;have xa:W2.get W.next=some (.cells [.int .i64 a.1,.int .i64 a.2]):=by rw[<-hW2,AW.get_add_ne _ _ (by rw[n1];omega)];exact AW.get_add _ _
 have xb:W2.get (W.next+1)=some (.cells [.int .i64 b.1,.int .i64 b.2]):=by rw[<-hW2];have:=(W.add (.cells [.int .i64 a.1,.int .i64 a.2])).get_add (.cells [.int .i64 b.1,.int .i64 b.2]);rwa [n1]at this
 have l2:Le W W2:=by rw[<-hW2];exact((Le.refl _).add _).add _
 have hI:∀x y:Int,Ints (W2.add (.cells [.int .i64 x,.int .i64 y])) (.slice (some ⟨W2.next,0,none⟩) 2 2) [x,y]:=λx y=>LA [x,y] 2 W2
 have ho:=a7W (hI (vR a.2 b.2) (vR a.1 b.1));simp only[SX,oB,n1,hW2,Nat.zero_add,jE (o:=1) (bU xa) rfl,jE (o:=1) (bU xb) rfl,jE (o:=0) (bU xa) rfl,jE (o:=0) (bU xb) rfl,X3,iW,zJ,Bool.and_self,a0p,aAf,ho,aB];refine⟨?_,l2.add _⟩;congr 1;unfold lX vR;rw[Bool.eq_iff_iff];simp only[decide_eq_true_eq,Bool.or_eq_true,Bool.and_eq_true];repeat' split
 all_goals omega
theorem PH:rQ (.func (.func 132) #[] #[]) lX:=hoLess1_ok.up
theorem a3V:((#[316]:Array TypeId)[0]?).bind Tryz.prog.underlying=some (.slice 2):=by kernel_rfl
theorem aBU(a b:Int)(W:AW):aV Tryz.prog 316 2 [(0,.int .i64 a),(1,.int .i64 b)] W=some (.slice (some ⟨W.next,0,none⟩) 2 2,W.add (.cells [.int .i64 a,.int .i64 b])):=Eq.trans (by kernel_rfl) rfl
theorem a8x(a b:Int)(W:AW):aG Tryz.prog .min #[2,2] 2 #[false,false] [.int .i64 a,.int .i64 b] W=some (.int .i64 (min a b),W):=by
 have e:aG Tryz.prog .min #[2,2] 2 #[false,false] [.int .i64 a,.int .i64 b] W=(lN Tryz.prog ([Value.int .i64 a,.int .i64 b].all aX) (builtin .min #[2,2] 2 #[false,false] #[.int .i64 a,.int .i64 b])).map λv=>(v,W):=by unfold aG;rfl
 rw[e];have e2:builtin .min #[2,2] 2 #[false,false] #[.int .i64 a,.int .i64 b]=(do pure (.value (<-Builtin.min_ #[2,2] 2 #[.int .i64 a,.int .i64 b]))):=rfl;rw[e2];refine IL ?_ rfl _ rfl;unfold Builtin.min_;simp only[List.foldlM_cons,List.foldlM_nil,dX,Builtin.min2,fC,Option.bind_some];congr 2;split<;>omega
theorem a5Y{W:AW}{v:Value}{a b:Int}(h:Ints W v [a,b]):aL (.func (.func 245) #[] #[]) [v] W=some (.int .i64 (min a b),W):=by
 refine aN rfl ?_ uC;unfold pJ;obtain⟨p0,i1,i2⟩:=h.get (i:=0) (by simp);have i1':∀W' k,jI 1 v (.int k 0) W'=some (p0,W'):=i1;have i2':∀W',Le W W'->aP p0 W'=some (.int .i64 a,W'):=i2;obtain⟨p1,j1,j2⟩:=h.get (i:=1) (by simp);have j1':∀W' k,jI 1 v (.int k 1) W'=some (p1,W'):=j1;have j2':∀W',Le W W'->aP p1 W'=some (.int .i64 b,W'):=j2;have t0:¬((([a,b]:List Int).length:Int)<1):=by simp
 have tl:(([a,b]:List Int).length:Int)=2:=by simp
 simp only[SX,h.len a3V,t0,decide_false,i1',i2' _ (.refl _)];refine bF 1 (by omega) (λk R W'=>W'=W/\R 0=v/\R 4=.int .i64 (1+(k:Int))/\R 3=.int .i64 (if k=0 then a else min a b))
  (λr=>r.1=.exit 0/\r.2.2=W/\r.2.1 3=.int .i64 (min a b)) ⟨rfl,rfl,rfl,rfl⟩ ?_ ?_ ?_
 ·rintro k R W' hk ⟨rfl,r0,r4,r3⟩;obtain rfl:k=0:=by omega
  unfold iA;have r4':R 4=.int .i64 1:=r4;have r3':R 3=.int .i64 a:=r3;have t1:((1:Int)<2):=by omega
  have t2:=λW'=>aQ (P:=Tryz.prog) (W:=W') (t:=3) (c:=false) (d:=true) (a:=1) (b:=1) (by omega) (by omega)
  simp only[SX,r0,r4',r3',h.len a3V,tl,t1,j1',j2' _ (.refl _),a8x,t2,aB];exact .inl ⟨trivial,trivial,r0,rfl,rfl⟩
 ·rintro R W' ⟨rfl,r0,r4,r3⟩;unfold iA;have t1:¬(1+((1:Nat):Int)<2):=by omega
  simp only[SX,r0,r4,h.len a3V,tl,t1,decide_false,aB];exact⟨by simp,trivial,trivial,r3⟩
 ·rintro⟨x,R,W'⟩ ⟨hx,rfl,r3⟩;simp only at hx r3;subst hx;simp only[SX,r3,aB];exact⟨trivial,.refl _⟩
theorem a4A{W:AW}{v:Value}{a b:Int}(h:Ints W v [a,b]):aL (.func (.func 209) #[] #[]) [v] W=some (.bool (decide (min a b<0)),W):=by refine aN rfl ?_ OD;unfold LC;simp only[SX,a5Y h,aB];exact⟨trivial,.refl _⟩
theorem passed_ok{a b:Int}(ha:0<=a)(hb:0<=b)(W:AW):aL (.func (.func 148) #[] #[]) [.int .i64 a,.int .i64 b] W=some (.tuple #[.bool (decide (a<=b)),.int .i64 0],W):=by refine aN rfl ?_ J8;unfold DL;have hI:Ints (W.add (.cells [.int .i64 a,.int .i64 b])) (.slice (some ⟨W.next,0,none⟩) 2 2) [a,b]:=LA [a,b] 2 W;have hm:=a4A hI;rw[decide_eq_false (show¬min a b<0 by omega)]at hm;simp only[SX,aBU,hm,aB];exact⟨trivial,(Le.refl _).add _⟩
end Go.Proofs.YtnigceddndemkaaGreatDoor.Ho
namespace Go.Proofs.YtnigceddndemkaaGreatDoor
open Go Go.Eng
set_option maxRecDepth 100000
structure SeT where
 st:Int
 ow:Int
 dl:Int
 se:Int
 ep:Int
abbrev eZ(x:SeT):List Value:=[.int .i64 x.st,.int .u32 x.ow,.int .i64 x.dl,.int .u64 x.se,.int .u64 x.ep]
abbrev pU(x:SeT):Value:=.agg #[.int .i64 x.st,.int .u32 x.ow,.int .i64 x.dl,.int .u64 x.se,.int .u64 x.ep]
def J5:SeT:=⟨0,0,0,0,0⟩
theorem a3S{b o:Nat}{cs:List Value}{x:Value}{W:AW}(h:W.get b=some (.cells cs))(hv:cs[o]? =some x):aP (.pointer (some ⟨b,o,none⟩)) W=some (x,W):=d9 (bC h) hv
section
variable {W:AW} {b:Nat} {x:SeT}
theorem kK(h:W.get b=some (.cells (eZ x))):aP (.pointer (some ⟨b,0,none⟩)) W=some (.int .i64 x.st,W):=a3S h rfl
theorem Z4(h:W.get b=some (.cells (eZ x))):aP (.pointer (some ⟨b,1,none⟩)) W=some (.int .u32 x.ow,W):=a3S h rfl
theorem oU(h:W.get b=some (.cells (eZ x))):aP (.pointer (some ⟨b,2,none⟩)) W=some (.int .i64 x.dl,W):=a3S h rfl
theorem a8i(h:W.get b=some (.cells (eZ x))):aP (.pointer (some ⟨b,3,none⟩)) W=some (.int .u64 x.se,W):=a3S h rfl
theorem a9H(h:W.get b=some (.cells (eZ x))):aP (.pointer (some ⟨b,4,none⟩)) W=some (.int .u64 x.ep,W):=a3S h rfl
theorem cB(h:W.get b=some (.cells (eZ x))):eU 5 (.pointer (some ⟨b,0,none⟩)) W=some (pU x,W):=qP (bC h) rfl
theorem a7p{z:SeT}(h:W.get b=some (.cells (eZ z))):fZ 5 (.pointer (some ⟨b,0,none⟩)) (pU x) W=some (undef,W.put b (.cells (eZ x))):=xY (n:=5) (o:=0) (v:=pU x) h rfl (Nat.le_refl _) rfl
end
theorem I1(x:SeT)(W:AW):dK (pU x) W=some (.pointer (some ⟨W.next,0,none⟩),W.add (.cells (eZ x))):=fU _
theorem a8f(W:AW):bE Tryz.prog 38 W=some (.pointer (some ⟨W.next,0,none⟩),W.add (.cells (eZ J5))):=Eq.trans (by kernel_rfl) rfl
theorem aBH(a b:Int)(W:AW):gK Tryz.prog 38 [(3,.int .u64 a),(4,.int .u64 b)] W=some (pU ⟨0,0,0,a,b⟩,W):=Eq.trans (by kernel_rfl) rfl
theorem a0c(x:Value)(W:AW):wV Tryz.prog 38 x W=eU 5 x W:=by kernel_rfl
theorem qA(x:SeT):vsame (pU x) (pU x)=true:=OL (by simp[vsL,XQ])
def x9(x:SeT):Int:=if x.st=1 then(if x.dl<0 then 6 else 0)else if x.st=0 then(if x.ow=0 then(if x.dl=0 then 0 else 6)else 6)else if x.st=2 then(if x.dl=0 then 0 else 6)else 6
theorem M8{x:SeT}(h:x.st=1):x9 x=if x.dl<0 then 6 else 0:=by unfold x9;rw[if_pos h]
theorem iP(x:SeT)(W:AW):aL (.func (.func 70) #[] #[]) [pU x] W=some (.int .i64 (x9 x),W):=by
 refine aN rfl ?_ KN;unfold IV;have hg:(W.add (.cells (eZ x))).get W.next=some (.cells (eZ x)):=AW.get_add _ _;have hle:Le W (W.add (.cells (eZ x))):=(Le.refl _).add _;simp only[SX,I1,Nat.zero_add];generalize W.add (.cells (eZ x))=W1 at *;unfold x9;by_cases c1:x.st=1
 ·have d1:=decide_eq_true c1;rw[if_pos c1];by_cases c2:x.dl<0
  ·have d2:=decide_eq_true c2;simp only[SX,oU hg,kK hg,d1,d2,if_pos c2,aB];exact⟨trivial,hle⟩
  ·have d2:=decide_eq_false c2;simp only[SX,oU hg,kK hg,d1,d2,if_neg c2,aB];exact⟨trivial,hle⟩
 have d1:=decide_eq_false c1;rw[if_neg c1];by_cases c0:x.st=0
 ·have d0:=decide_eq_true c0;rw[if_pos c0];by_cases c2:x.ow=0
  ·have d2:=decide_eq_true c2;rw[if_pos c2];by_cases c3:x.dl=0
   ·have d3:=decide_eq_true c3;simp only[SX,oU hg,kK hg,d1,d0,Z4 hg,d2,d3,Bool.not_true,if_pos c3,aB];exact⟨trivial,hle⟩
   ·have d3:=decide_eq_false c3;simp only[SX,oU hg,kK hg,d1,d0,Z4 hg,d2,d3,Bool.not_true,Bool.not_false,if_neg c3,aB];exact⟨trivial,hle⟩
  ·have d2:=decide_eq_false c2;rw[if_neg c2];simp only[SX,oU hg,kK hg,d1,d0,Z4 hg,d2,Bool.not_false,aB];exact⟨trivial,hle⟩
 have d0:=decide_eq_false c0;rw[if_neg c0];by_cases c2:x.st=2
 ·have d2:=decide_eq_true c2;rw[if_pos c2];by_cases c3:x.dl=0
  ·have d3:=decide_eq_true c3;simp only[SX,oU hg,kK hg,d1,d0,d2,d3,Bool.not_true,if_pos c3,aB];exact⟨trivial,hle⟩
  ·have d3:=decide_eq_false c3;simp only[SX,oU hg,kK hg,d1,d0,d2,d3,Bool.not_false,if_neg c3,aB];exact⟨trivial,hle⟩
 ·have d2:=decide_eq_false c2;rw[if_neg c2];simp only[SX,oU hg,kK hg,d1,d0,d2,aB];exact⟨trivial,hle⟩
def tmE(x:SeT)(t:Int):Int:=if x9 x=0 then(if t<0 then 7 else 0)else x9 x
def inE(x:SeT)(w:Int):Int:=if x9 x=0 then(if x.st=w then 0 else 15)else x9 x
theorem yU(x:SeT)(t:Int)(W:AW):aL (.func (.func 146) #[] #[]) [pU x,.int .i64 t] W=some (.int .i64 (tmE x t),W):=by
 refine aN rfl ?_ OG;unfold M6;have hg:(W.add (.cells (eZ x))).get W.next=some (.cells (eZ x)):=AW.get_add _ _;have hle:Le W (W.add (.cells (eZ x))):=(Le.refl _).add _;simp only[SX,I1,Nat.zero_add];generalize W.add (.cells (eZ x))=W1 at *;unfold tmE;by_cases c1:x9 x=0
 ·have d1:=decide_eq_true c1;rw[if_pos c1];by_cases c2:t<0
  ·have d2:=decide_eq_true c2;simp only[SX,cB hg,iP,d1,Bool.not_true,d2,if_pos c2,aB];exact⟨trivial,hle⟩
  ·have d2:=decide_eq_false c2;simp only[SX,cB hg,iP,d1,Bool.not_true,d2,if_neg c2,aB];exact⟨trivial,hle⟩
 ·have d1:=decide_eq_false c1;simp only[SX,cB hg,iP,d1,Bool.not_false,if_neg c1,aB];exact⟨trivial,hle⟩
theorem vM(x:SeT)(w:Int)(W:AW):aL (.func (.func 147) #[] #[]) [pU x,.int .i64 w] W=some (.int .i64 (inE x w),W):=by
 refine aN rfl ?_ ND;unfold I4;have hg:(W.add (.cells (eZ x))).get W.next=some (.cells (eZ x)):=AW.get_add _ _;have hle:Le W (W.add (.cells (eZ x))):=(Le.refl _).add _;simp only[SX,I1,Nat.zero_add];generalize W.add (.cells (eZ x))=W1 at *;unfold inE;by_cases c1:x9 x=0
 ·have d1:=decide_eq_true c1;rw[if_pos c1];by_cases c2:x.st=w
  ·have d2:=decide_eq_true c2;simp only[SX,cB hg,iP,d1,Bool.not_true,kK hg,d2,if_pos c2,aB];exact⟨trivial,hle⟩
  ·have d2:=decide_eq_false c2;simp only[SX,cB hg,iP,d1,Bool.not_true,Bool.not_false,kK hg,d2,if_neg c2,aB];exact⟨trivial,hle⟩
 ·have d1:=decide_eq_false c1;simp only[SX,cB hg,iP,d1,Bool.not_false,if_neg c1,aB];exact⟨trivial,hle⟩
def wU(x:SeT):SeT:=⟨0,0,0,x.se,x.ep⟩
theorem a8c(x:SeT)(W:AW):∃W1 W2,dK (pU x) W=some (.pointer (some ⟨W.next,0,none⟩),W1)/\bE Tryz.prog 38 W1=some (.pointer (some ⟨W.next+1,0,none⟩),W2)/\Le W W2/\W2.next=W.next+2/\W2.get W.next=some (.cells (eZ x))/\W2.get (W.next+1)=some (.cells (eZ J5)):=
 ⟨_,_,I1 _ _,by rw[a8f,AW.add_next],((Le.refl _).add _).add _,by rw[AW.add_next,AW.add_next],by rw[AW.get_add_ne _ _ (by rw[AW.add_next];omega),AW.get_add],by rw[show W.next+1=(W.add (.cells (eZ x))).next by rw[AW.add_next],AW.get_add]⟩
theorem a2P(x:SeT)(W:AW):aL (.func (.func 149) #[] #[]) [pU x] W=some (pU (wU x),W):=by refine aN rfl ?_ O3;unfold KV;obtain⟨W1,W2,k1,k2,hle,n2,g1,g2⟩:=a8c x W;have st:=a7p (x:=wU x) g2;simp only[SX,k1,k2,Nat.zero_add,a8i g1,a9H g1,aBH,show pU ⟨0,0,0,x.se,x.ep⟩=pU (wU x)from rfl,st,a6Z,a0c,cB (x:=wU x) (AW.get_put _ _ _),Option.bind_some,aB];exact⟨trivial,hle.put (by omega) _⟩
theorem a9w:((#[305]:Array TypeId)[0]?).bind Tryz.prog.underlying=some (.slice 29):=by kernel_rfl
theorem a1p(a b:Int)(W:AW):aV Tryz.prog 305 2 [(0,.int .i64 a),(1,.int .i64 b)] W=some (.slice (some ⟨W.next,0,none⟩) 2 2,W.add (.cells [.int .i64 a,.int .i64 b])):=Eq.trans (by kernel_rfl) rfl
theorem a8X{W:AW}{v:Value}{a b:Int}(h:Ints W v [a,b]):aL (.func (.func 145) #[] #[]) [v] W=some (.int .i64 (if a=0 then b else a),W):=by
 refine aN rfl ?_ AY;unfold wS;have hlen:∀V,Le W V->aG Tryz.prog .len #[305] 3 #[false] [v] V=some (.int .i64 2,V):=λV hV=>by have:=(h.mono hV).len a9w;exact this V 3 #[false]
 obtain⟨p0,i0,k0⟩:=Ints.get h (i:=0) (by simp);obtain⟨p1,i1,k1⟩:=Ints.get h (i:=1) (by simp);simp only[SX,hlen W (Le.refl _)];refine bF 2 (by omega) (λi R V=>V=W/\R 3=.int .i64 0/\R 6=v/\R 7=.int .i64 2/\R 8=.int .i64 (i:Int)/\(1<=i->a=0)/\(2<=i->b=0))
  (λr=>r.2.2=W/\((r.1=.exit 0/\r.2.1 3=.int .i64 0/\a=0/\b=0)\/(r.1=.ret/\r.2.1 2=.int .i64 (if a=0 then b else a)))) ⟨rfl,rfl,rfl,rfl,rfl,by omega,by omega⟩ ?_ ?_ ?_
 ·rintro i R V hi ⟨rfl,r3,r6,r7,r8,ha,hb⟩;unfold lD;have t1:((i:Int)<2):=by omega
  have t2:=λW'=>aQ (P:=Tryz.prog) (W:=W') (t:=3) (c:=false) (d:=true) (a:=(i:Int)) (b:=1) (by omega) (by omega)
  have e3:((i+1:Nat):Int)=(i:Int)+1:=by omega
  rcases(by omega:i=0\/i=1)with rfl|rfl
  ·have e0:∀W' k,jI 1 v (.int k ((0:Nat):Int)) W'=some (p0,W'):=i0;have l0:aP p0 V=some (.int .i64 a,V):=k0 V (Le.refl _);by_cases c:a=0
   ·have d:=decide_eq_true c;simp only[SX,r3,r6,r7,r8,t1,decide_true,e0,l0,d,Bool.not_true,t2,aB];exact .inl ⟨trivial,trivial,r3,r6,r7,by rw[e3];rfl,λ_=>c,by omega⟩
   ·have d:=decide_eq_false c;simp only[SX,r3,r6,r7,r8,t1,decide_true,e0,l0,d,Bool.not_false,aB];exact .inr ⟨by simp,trivial,.inr ⟨trivial,by rw[if_neg c];rfl⟩⟩
  ·have e0:∀W' k,jI 1 v (.int k ((1:Nat):Int)) W'=some (p1,W'):=i1;have l0:aP p1 V=some (.int .i64 b,V):=k1 V (Le.refl _);have ha:=ha (Nat.le_refl _);by_cases c:b=0
   ·have d:=decide_eq_true c;simp only[SX,r3,r6,r7,r8,t1,decide_true,e0,l0,d,Bool.not_true,t2,aB];exact .inl ⟨trivial,trivial,r3,r6,r7,by rw[e3];rfl,λ_=>ha,λ_=>c⟩
   ·have d:=decide_eq_false c;simp only[SX,r3,r6,r7,r8,t1,decide_true,e0,l0,d,Bool.not_false,aB];exact .inr ⟨by simp,trivial,.inr ⟨trivial,by rw[if_pos ha];rfl⟩⟩
 ·rintro R V ⟨rfl,r3,r6,r7,r8,ha,hb⟩;unfold lD;have t1:¬(((2:Nat):Int)<2):=by omega
  simp only[SX,r7,r8,t1,decide_false,aB];exact⟨by simp,trivial,.inl ⟨trivial,r3,ha (by omega),hb (by omega)⟩⟩
 ·rintro⟨q,R,V⟩ ⟨rfl,hq⟩;simp only at hq;rcases hq with⟨rfl,r3,ha,hb⟩|⟨rfl,r2⟩
  ·simp only[SX,r3,aB];exact⟨by rw[if_pos ha,hb],Le.refl _⟩
  ·simp only[SX,r2,aB];exact⟨trivial,Le.refl _⟩
theorem IJ:bZ undef false=false:=Eq.trans rfl rfl
theorem I8:bZ undef true=false:=Eq.trans rfl rfl
def KR(x:SeT)(now:Int):Int:=if tmE x now≠0 then tmE x now else if inE x 1≠0 then inE x 1 else if x.dl<=now then 0 else 9
def yG(x:SeT)(now:Int):SeT:=if KR x now=0 then wU x else x
theorem VJ(x:SeT)(now:Int)(W:AW):aL (.func (.func 80) #[] #[]) [pU x,.int .i64 now] W=some (.tuple #[pU (yG x now),.int .i64 (KR x now)],W):=by
 refine aN rfl ?_ J2;unfold CF;obtain⟨W1,W2,k1,k2,hle,n2,g1,g2⟩:=a8c x W;have hI:Ints (W2.add (.cells [.int .i64 (tmE x now),.int .i64 (inE x 1)])) (.slice (some ⟨W2.next,0,none⟩) 2 2) [tmE x now,inE x 1]:=by refine⟨_,2,rfl,.inr ⟨W2.next,0,[.int .i64 (tmE x now),.int .i64 (inE x 1)],rfl,by rw[AW.add_next];omega,dI,λi hi=>?_⟩⟩;rcases(by simp at hi;omega:i=0\/i=1)with rfl|rfl<;>rfl
 have hor:=a8X hI;obtain⟨W3,hW3⟩:∃W3,W3=W2.add (.cells [.int .i64 (tmE x now),.int .i64 (inE x 1)]):=⟨_,rfl⟩;rw[<-hW3]at hor;have l3:Le W2 W3:=by rw[hW3];exact(Le.refl _).add _
 have h1:=(l3.get W.next (by omega)).trans g1;have h2:=(l3.get (W.next+1) (by omega)).trans g2;have n3:=l3.next;have fin:∀o,Le W (W3.put (W.next+1) o):=λo=>(hle.trans l3).put (by omega) o
 have st:=λy=>a7p (x:=y) h2
 have ld:=λy=>cB (x:=y) (W:=W3.put (W.next+1) (.cells (eZ y))) (b:=W.next+1) (AW.get_put _ _ _)
 by_cases c1:tmE x now=0;case neg=>
  have e1:KR x now=tmE x now:=by unfold KR;rw[if_pos c1]
  have e2:yG x now=x:=by unfold yG;rw[if_neg (by rw[e1];exact c1)]
  have d1:=decide_eq_false c1;rw[if_neg c1]at hor;simp only[SX,k1,k2,cB g1,yU,iW,qA,Bool.and_true,vM,a1p,<-hW3,hor,d1,Bool.not_false,cB h1,st x,kP,a0c,ld x,Option.bind_some,aB];exact⟨by rw[e1,e2],fin _⟩
 rw[if_pos c1]at hor;by_cases c2:inE x 1=0;case neg=>
  have e1:KR x now=inE x 1:=by unfold KR;rw[if_neg (by omega),if_pos c2]
  have e2:yG x now=x:=by unfold yG;rw[if_neg (by rw[e1];exact c2)]
  have d1:=decide_eq_false c2;simp only[SX,k1,k2,cB g1,yU,iW,qA,Bool.and_true,vM,a1p,<-hW3,hor,d1,Bool.not_false,cB h1,st x,kP,a0c,ld x,Option.bind_some,aB];exact⟨by rw[e1,e2],fin _⟩
 have d1:=decide_eq_true c2;obtain⟨hs,hn⟩:0<=x.dl/\0<=now:=by
  unfold tmE at c1;unfold inE at c2;by_cases c:x9 x=0
  ·rw[if_pos c]at c1 c2;by_cases c3:x.st=1
   ·have h4:=M8 c3;rw[c]at h4;refine⟨?_,?_⟩
    ·by_cases c4:x.dl<0
     ·rw[if_pos c4]at h4;omega
     ·omega
    ·by_cases c4:now<0
     ·rw[if_pos c4]at c1;omega
     ·omega
   ·rw[if_neg c3]at c2;omega
  ·rw[if_neg c]at c1;exact absurd c1 c
 have hp:=Ho.passed_ok hs hn W3;by_cases c3:x.dl<=now
 ·have d3:=decide_eq_true c3;rw[d3]at hp;have e1:KR x now=0:=by unfold KR;rw[if_neg (by omega),if_neg (by omega),if_pos c3]
  have e2:yG x now=wU x:=by unfold yG;rw[if_pos e1]
  simp only[SX,k1,k2,cB g1,yU,iW,qA,Bool.and_true,vM,a1p,<-hW3,hor,d1,Bool.not_true,Nat.zero_add,oU h1,hp,cB h1,a2P,st (wU x),kP,a0c,ld (wU x),Option.bind_some,aB];exact⟨by rw[e1,e2],fin _⟩
 ·have d3:=decide_eq_false c3;rw[d3]at hp;have e1:KR x now=9:=by unfold KR;rw[if_neg (by omega),if_neg (by omega),if_neg c3]
  have e2:yG x now=x:=by unfold yG;rw[if_neg (by rw[e1];decide)]
  simp only[SX,k1,k2,cB g1,yU,iW,qA,Bool.and_true,vM,a1p,<-hW3,hor,d1,Bool.not_true,Bool.not_false,Nat.zero_add,oU h1,hp,cB h1,st x,kP,a0c,ld x,Option.bind_some,aB];exact⟨by rw[e1,e2],fin _⟩
end Go.Proofs.YtnigceddndemkaaGreatDoor
namespace Go.Proofs.YtnigceddndemkaaGreatDoor.Ho
open Go Go.Eng Go.Hp
set_option maxRecDepth 100000
theorem u35:Tryz.prog.underlying 140=some (.pointer 220):=by kernel_rfl
theorem a3l(a:Addr)(c d:Bool)(W:AW):aH Tryz.prog .eql 140 c d (.pointer (some a)) (.pointer none) W=some (.bool false,W):=by unfold aH lY jY;simp only[u35]
theorem a7x:Tryz.prog.underlying 218=some (.map 3 2):=by kernel_rfl
theorem u3:Tryz.prog.underlying 3=some (.int .i64):=by kernel_rfl
theorem z2:kR Tryz.prog 2=some (.int .i64 0):=by kernel_rfl
theorem aAK(W:AW):wB Tryz.prog 218 none W=some (.map (some W.next),W.add (.map [] 0)):=rfl
theorem aAH(s:Int)(q m:Nat)(W:AW):gK Tryz.prog 220 [(0,.int .i64 s),(1,qV q),(2,.map (some m))] W=some (.agg #[.int .i64 s,qV q,.map (some m)],W):=Eq.trans (by kernel_rfl) rfl
theorem aCs(s d:Int)(W:AW):gK Tryz.prog 42 [(0,.int .i64 s),(1,.int .i64 d)] W=some (lU (s,d),W):=Eq.trans (by kernel_rfl) rfl
abbrev hF:Value:=.func (.func 132) #[] #[]
structure HS (W:AW) (In:Nat->Prop) (H q mh hm:Nat) (seats:Int) (nx:Int) (n:Nat) (f:Nat->En):Prop where
 hc:W.get H=some (.cells [.int .i64 seats,qV q,.map (some hm)])
 hl:H<W.next
 ml:hm<W.next
 ne:H≠hm
 iH:In H
 iM:In hm
 qs:QS W (λb=>In b/\b≠H/\b≠hm) q mh hF lX nx n f
 mp:∃m,MapV W hm m n/\(∀i,i<n->m (f i).v.1=some (.int .i64 (f i).h))/\∀k v,m k=some v->∃i,i<n/\(f i).v.1=k/\v=.int .i64 (f i).h
 ok:∀i,i<n->0<=(f i).v.1/\(f i).v.1<seats/\0<=(f i).v.2
 sz:1<=seats/\seats<=4096
abbrev hP(H:Nat):Value:=.pointer (some ⟨H,0,none⟩)
def vG(n:Nat)(f:Nat->En):List (Int×Int):=(all n f).map (·.v)
theorem CY{n:Nat}{f:Nat->En}{x:Int×Int}:x∈vG n f<->∃i,i<n/\(f i).v=x:=by
 unfold vG;constructor
 ·intro h;obtain⟨e,he,rfl⟩:=List.mem_map.1 h;obtain⟨i,hi,rfl⟩:=bP.1 he;exact⟨i,hi,rfl⟩
 ·rintro⟨i,hi,rfl⟩;exact List.mem_map.2 ⟨f i,bP.2 ⟨i,hi,rfl⟩,rfl⟩
theorem Y6(n:Nat)(f:Nat->En):(vG n f).length=n:=by unfold vG;rw[List.length_map,yY]
theorem QS.grown{W W':AW}{In In':Nat->Prop}{q mh mh':Nat}{less less':Value}{ls ls':Int×Int->Int×Int->Bool}{nx nx':Int}{n:Nat}{f g:Nat->En}(h:QS W In q mh less ls nx n f)(h':QS W' In' q mh' less' ls' nx' (n+1) g):W'.get q≠W.get q:=by obtain⟨⟨lv,bl,k1,-⟩,-⟩:=h;obtain⟨⟨lv',bl',k1',-⟩,-⟩:=h';rw[k1.qc,k1'.qc];intro e;injection e with e;injection e with e;injection e with e _;exact SlAt.ne_succ k1'.pile.sl k1.pile.sl e.symm
section
variable {W:AW} {In:Nat->Prop} {H q mh hm:Nat} {seats nx:Int} {n:Nat} {f:Nat->En}
theorem HS.keep{W':AW}{In':Nat->Prop}(h:HS W In H q mh hm seats nx n f)(hn:W.next<=W'.next)(hg:∀b,b<W.next->In b->W'.get b=W.get b)(hi:∀b,b<W.next->In b->In' b):HS W' In' H q mh hm seats nx n f:=by obtain⟨hc,hl,ml,ne,iH,iM,qs,⟨m,m1,m2⟩,ok,sz⟩:=h;exact⟨(hg H hl iH).trans hc,by omega,by omega,ne,hi H hl iH,hi hm ml iM,qs.keep hn (λb hb x=>hg b hb x.1) λb hb x=>⟨hi b hb x.1,x.2⟩,⟨m,m1.keep (hg hm ml iM),m2⟩,ok,sz⟩
theorem HS.l0(h:HS W In H q mh hm seats nx n f):aP (.pointer (some ⟨H,0,none⟩)) W=some (.int .i64 seats,W):=jE (bU h.hc) rfl
theorem HS.l1(h:HS W In H q mh hm seats nx n f):aP (.pointer (some ⟨H,1,none⟩)) W=some (qV q,W):=jE (bU h.hc) rfl
theorem HS.l2(h:HS W In H q mh hm seats nx n f):aP (.pointer (some ⟨H,2,none⟩)) W=some (.map (some hm),W):=jE (bU h.hc) rfl
theorem a7j{s:Int}(hs:1<=s/\s<=4096)(hi:∀b,W.next<=b->In b):∃W' H q mh hm g,aL (.func (.func 73) #[] #[]) [.int .i64 s] W=some (.tuple #[hP H,.int .i64 0],W')/\HS W' In H q mh hm s 1 0 g/\Gr W W' In:=by
 obtain⟨W1,q,mh,e1,e2,e3⟩:=a8u (In:=λb=>W.next<=b) (W:=W) (λb hb=>hb) 132 lX (λ_=>⟨0,0,(0,0)⟩);have n1:=e3.next;generalize hW2:W1.add (.map [] 0)=W2;have n2:W2.next=W1.next+1:=by rw[<-hW2,AW.add_next]
 have m2:MapV W2 W1.next (λ_=>none) 0:=by rw[<-hW2];exact mapV_new
 have oB:dK (.agg #[.int .i64 s,qV q,.map (some W1.next)]) W2=some (.pointer (some ⟨W2.next,0,none⟩),W2.add (.cells [.int .i64 s,qV q,.map (some W1.next)])):=fU _;have t1:¬s<1:=by omega
 have t2:¬4096<s:=by omega
 have main:H6 aL (.int .i64 s) W=some (.tuple #[hP W2.next,.int .i64 0],W2.add (.cells [.int .i64 s,qV q,.map (some W1.next)])):=by unfold H6;simp only[SX,t1,t2,decide_false,e1,aAK,hW2,aAH,oB]
 have g3:∀b,b<W1.next->(W2.add (.cells [.int .i64 s,qV q,.map (some W1.next)])).get b=W1.get b:=λb hb=>by rw[AW.get_add_ne _ _ (by omega),<-hW2,AW.get_add_ne _ _ (by omega)]
 refine⟨_,W2.next,q,mh,W1.next,λ_=>⟨0,0,(0,0)⟩,by rw[TV main,dV rfl],⟨AW.get_add _ _,by rw[AW.add_next];omega,by rw[AW.add_next];omega,by omega,hi _ (by omega),hi _ (by omega),e2.keep (by rw[AW.add_next];omega) (λb hb _=>g3 b hb) λb hb h=>⟨hi b h,by omega,by omega⟩,⟨_,m2.keep (AW.get_add_ne _ _ (by omega)),λi hi=>by omega,λk v hk=>by cases hk⟩,λi hi=>by omega,hs⟩,by rw[AW.add_next];omega,λb hb _=>?_⟩;rw[g3 b (by omega)];exact e3.get b hb (by omega)
def CB(seats s t:Int):Bool:=decide (s<0)||decide (seats<=s)||decide (t<0)
theorem a5q(h:HS W In H q mh hm seats nx n f)(s t:Int):aL (.func (.func 193) #[] #[]) [hP H,.int .i64 s,.int .i64 t] W=some (.bool (CB seats s t),W):=by
 refine aN rfl ?_ BK;unfold wQ CB;by_cases h1:s<0
 ·simp only[SX,h1,decide_true,Bool.true_or,aB];exact⟨trivial,.refl _⟩
 ·by_cases h2:seats<=s
  ·simp only[SX,h1,h2,aD,Nat.zero_add,h.l0,decide_true,decide_false,Bool.false_or,Bool.true_or,aB];exact⟨trivial,.refl _⟩
  ·simp only[SX,h1,h2,aD,Nat.zero_add,h.l0,decide_false,Bool.false_or,aB];exact⟨trivial,.refl _⟩
theorem a3R(h:HS W In H q mh hm seats nx n f){s t:Int}(hb:CB seats s t=false)(hs:∀i,i<n->(f i).v.1≠s):aL (.func (.func 137) #[] #[]) [hP H,.int .i64 s,.int .i64 t] W=some (.tuple #[.int .i64 0,.int .i64 4],W):=by
 refine aN rfl ?_ qU;unfold oW;have e0:¬seats=0:=by have:=h.sz;omega
 obtain⟨m,m1,m2,m3⟩:=h.mp;have hn:m s=none:=by
  cases hx:m s with
  |none=>rfl
  |some v=>obtain⟨i,hi,e,-⟩:=m3 s v hx;exact absurd e (hs i hi)
 have g:=FP m1 a7x u3 z2 s;rw[hn]at g;simp only[SX,a3l,aD,Nat.zero_add,h.l0,e0,decide_false,a5q h,hb,h.l2,g,Option.getD_none,Option.isSome_none,aB];exact⟨trivial,.refl _⟩
theorem a3N(h:HS W In H q mh hm seats nx n f){i:Nat}(hi:i<n){t:Int}(hb:CB seats (f i).v.1 t=false):aL (.func (.func 137) #[] #[]) [hP H,.int .i64 (f i).v.1,.int .i64 t] W=some (.tuple #[.int .i64 (f i).h,.int .i64 0],W):=by
 refine aN rfl ?_ qU;unfold oW;have e0:¬seats=0:=by have:=h.sz;omega
 obtain⟨m,m1,m2,m3⟩:=h.mp;have g:=FP m1 a7x u3 z2 (f i).v.1;rw[m2 i hi]at g;simp only[SX,a3l,aD,Nat.zero_add,h.l0,e0,decide_false,a5q h,hb,h.l2,g,Option.getD_some,Option.isSome_some,aB];exact⟨trivial,.refl _⟩
theorem a7r(h:HS W In H q mh hm seats nx n f){s t:Int}(hb:CB seats s t=false)(hs:∀i,i<n->(f i).v.1≠s)(hn:n<5000)(hnx:nx<1000000000000000)(hi:∀b,W.next<=b->In b):
 ∃W' g,aL (.func (.func 74) #[] #[]) [hP H,.int .i64 s,.int .i64 t] W=some (.int .i64 0,W')/\HS W' In H q mh hm seats (nx+1) (n+1) g/\(vG (n+1) g).Perm ((s,t)::vG n f)/\Gr W W' In:=by
 have main:Ok (qF aL (hP H) (.int .i64 s) (.int .i64 t) W) λr=>r.1=.int .i64 0/\(∃g,HS r.2 In H q mh hm seats (nx+1) (n+1) g/\(vG (n+1) g).Perm ((s,t)::vG n f)/\Gr W r.2 In):=by
  have hW:=h;obtain⟨hc,hl,ml,ne,iH,iM,qs,⟨m,m1,m2,m3⟩,ok,sz⟩:=h;obtain⟨W1,g,p1,p2,p3,p4⟩:=a5L DJ PH qs hn hnx (λb hb=>⟨hi b hb,by omega,by omega⟩) (s,t);have n1:=p4.next;have hc1:W1.get H=some (.cells [.int .i64 seats,qV q,.map (some hm)]):=(p4.get H hl (by simp)).trans hc;have m1':MapV W1 hm m n:=m1.keep (p4.get hm ml (by simp));obtain⟨es,c,d1,d2⟩:=XR m1' a7x u3 s (.int .i64 nx);have hmn:m s=none:=by
   cases hx:m s with
   |none=>rfl
   |some v=>obtain⟨i,hi,e,-⟩:=m3 s v hx;exact absurd e (hs i hi)
  rw[hmn]at d2;simp only[Option.isSome_none,Bool.false_eq_true,if_false]at d2;generalize hW2:W1.put hm (.map es c)=W2 at d1 d2;have g2:∀b,b≠hm->W2.get b=W1.get b:=λb hb=>by rw[<-hW2];exact AW.get_put_ne _ _ (Ne.symm hb)
  have n2:W2.next=W1.next:=by rw[<-hW2,AW.put_next]
  have hmem:∀i,i<n+1->g i=⟨W.next+1,nx,(s,t)⟩\/∃k,k<n/\f k=g i:=λi hi=>by
   rcases List.mem_cons.1 (p3.mem_iff.1 (bP.2 ⟨i,hi,rfl⟩))with e|e
   ·exact .inl e
   ·exact .inr (bP.1 e)
  have hbb:0<=s/\s<seats/\0<=t:=by unfold CB at hb;simp only[Bool.or_eq_false_iff,decide_eq_false_iff_not]at hb;omega
  unfold qF;have e0:¬(4:Int)=0:=by omega
  simp only[SX,a3R hW hb hs,e0,decide_false,aD,Nat.zero_add,hW.l1,aCs,p1,jE (o:=2) (bU hc1) rfl,d1,aB];refine⟨trivial,g,⟨(g2 H ne).trans hc1,by omega,by omega,ne,iH,iM,p2.keep (by omega) (λb hb hx=>g2 b hx.2.2) λb _ hx=>hx,⟨_,d2,λi hi'=>?_,λk v hk=>?_⟩,λi hi'=>?_,sz⟩,?_,by omega,λb hb' hni=>?_⟩
  ·rcases hmem i hi' with e|⟨k,hk,e⟩
   ·rw[e,if_pos rfl]
   ·rw[<-e,if_neg (hs k hk)];exact m2 k hk
  ·by_cases hk0:k=s
   ·rw[if_pos hk0]at hk;injection hk with hk;obtain⟨j,hj,ej⟩:=bP.1 (p3.mem_iff.2 (List.mem_cons_self ..));exact⟨j,hj,by rw[ej,hk0],by rw[ej,<-hk]⟩
   ·rw[if_neg hk0]at hk;obtain⟨i,hi',x1,x2⟩:=m3 k v hk;obtain⟨i2,hi2,x3⟩:=bP.1 (p3.mem_iff.2 (List.mem_cons_of_mem _ (bP.2 ⟨i,hi',rfl⟩)));exact⟨i2,hi2,by rw[x3];exact x1,by rw[x3];exact x2⟩
  ·rcases hmem i hi' with e|⟨k,hk,e⟩
   ·rw[e];exact hbb
   ·rw[<-e];exact ok k hk
  ·exact p3.map (·.v)
  ·rw[g2 b (λe=>hni (by rw[e];exact iM))];exact p4.get b hb' λx=>hni x.1
 obtain⟨⟨r,W'⟩,h1,h2,g,h3,h4,h5⟩:=main;simp only at h2 h3 h4 h5;subst h2;rcases yN (W:=W) (W':=W') (.int .i64 0)with hg|⟨hg,hle⟩
 ·exact⟨W',g,by rw[AX h1,hg],h3,h4,h5⟩
 ·have hql:q<W.next:=by obtain⟨⟨lv,bl,k1,-⟩,-⟩:=h.qs;exact k1.lt
  exact absurd (hle.get q hql) (QS.grown h.qs h3.qs)
def a3L(n:Nat)(f:Nat->En):Int×Int:=if n=0 then(0,0)else(f 0).v
end
end Go.Proofs.YtnigceddndemkaaGreatDoor.Ho
namespace Go.Proofs.YtnigceddndemkaaGreatDoor
open Go Go.Eng Go.Hp
set_option maxRecDepth 100000
def a3c(cs:List Value)(p:Nat)(x:Int×Int):Prop:=cs[p]? =some (.int .i64 x.1)/\cs[p+1]? =some (.int .i64 x.2)
abbrev Items(W:AW)(v:Value)(l:List (Int×Int)):Prop:=Row W 2 a3c v l
theorem a2K{α:Type}{lt:α->α->Bool}(o:Ord lt){a b c:α}(h1:lt a b=true)(h2:lt b c=true):lt a c=true:=by
 cases h:lt a c with
 |true=>rfl
 |false=>have:=o.neg b c a (o.asym _ _ h2) h;rw[h1]at this;cases this
section
variable {q:Nat} {lv less c2 c3:Value} {n:Nat} {f:Nat->En} {bl:Option Nat} {ls:Int->Int->Bool}
end
theorem Lst.low{α:Type}{lo lo' z:Nat}{W:AW}{f:α->List Value}{v:Value}{l:List α}(h:Lst lo W z f v l)(hl:lo'<=lo):Lst lo' W z f v l:=by
 rcases h with h|⟨h0,B,h1,h2⟩
 ·exact .inl h
 ·exact .inr ⟨h0,B,by omega,h2⟩
theorem a4m{α:Type}{o t:Option (Value×AW)}{W:AW}{lo z:Nat}{f:α->List Value}{l:List α}(h:Ok t λr=>Le W r.2/\Lst lo r.2 z f r.1 l)(hom:∀{r},t=some r->o=some (gc W r)):∃v W2,o=some (v,W2)/\Le W W2/\Lst lo W2 z f v l:=by
 obtain⟨⟨v,W'⟩,h1,h2,h3⟩:=h;rcases h3 with⟨rfl,rfl⟩|⟨h0,B,h4,h5,rfl,h6⟩
 ·rcases yN (W:=W) (W':=W') (.slice none 0 0)with hg|⟨hg,hle⟩
  ·exact⟨_,W',by rw[hom h1];exact congrArg some hg,h2,.nil _ _ _ _⟩
  ·exact⟨_,W,by rw[hom h1];exact congrArg some hg,.refl _,.nil _ _ _ _⟩
 ·exact⟨_,W',by rw[hom h1,dV rfl],h2,.inr ⟨h0,B,h4,h5,rfl,h6⟩⟩
section
variable {W:AW} {In:Nat->Prop} {q mh:Nat} {less:Value} {ls:Int->Int->Bool} {nx:Int} {n:Nat} {f:Nat->En}
end
section
variable {W:AW} {In:Nat->Prop} {q mh:Nat} {less:Value} {ls:Int->Int->Bool} {nx:Int} {n:Nat} {f:Nat->En}
end
section
variable {W:AW} {In:Nat->Prop} {q mh:Nat} {less:Value} {ls:Int->Int->Bool} {nx:Int} {n:Nat} {f:Nat->En}
end
theorem a3i{α:Type}{P:Program}{W:AW}{ts:Array TypeId}{z bytes lo:Nat}{f:α->List Value}{v:Value}{l:List α}{a:α}(hk:mD P ts z bytes=true)(hf:∀a,(f a).length=z)(h1:∀a,(f a).all Eng.one=true)
 (h:Lst lo W z f v l){b c:Nat}(hc:cellsAt W b=some (f a))(hb:l.length+1<1099511627776)(hb2:(2*(l.length+1)+192)*bytes<=281474976710656)(hlo:lo<=W.next):
 ∃v' W',bJ P W ts v (.slice (some ⟨b,0,none⟩) 1 c)=some (v',W')/\Lst lo W' z f v' (l++[a])/\W.next<=W'.next/\∀b,b<lo->W'.get b=W.get b:=by
 obtain⟨v',W',k1,k2,k3,k4⟩:=h.push hk hf h1 hc hb hb2 hlo;refine⟨v',W',k1,k2,k3,λb hb=>?_⟩;have:=k4 ⟨W.heap,lo⟩ ⟨hlo,λ_ _=>rfl⟩ (Nat.le_refl _);exact this.get b hb
theorem a2D{α:Type}{lo z:Nat}{W:AW}{f:α->List Value}{v:Value}{l:List α}(h:Lst lo W z f v l):∃a c,v=.slice a l.length c:=by rcases h with⟨rfl,rfl⟩|⟨_,B,_,_,rfl,_⟩<;>exact⟨_,_,rfl⟩
theorem a0m{α:Type}{lo z:Nat}{W W':AW}{f:α->List Value}{v:Value}{l:List α}(h:Lst lo W z f v l)(hn:∀b,lo<=b->b<W.next->b<W'.next/\W'.get b=W.get b):Lst lo W' z f v l:=by
 rcases h with h|⟨h0,B,b1,b2,e,b3⟩
 ·exact .inl h
 ·exact .inr ⟨h0,B,b1,(hn B b1 b2).1,e,(hn B b1 b2).2.trans b3⟩
section
variable {W:AW} {In:Nat->Prop} {q mh:Nat} {less:Value} {ls:Int->Int->Bool} {nx:Int} {n:Nat} {f:Nat->En}
end
end Go.Proofs.YtnigceddndemkaaGreatDoor
namespace Go.Proofs.YtnigceddndemkaaGreatDoor.Ho
open Go Go.Eng Go.Hp
set_option maxRecDepth 100000
def sV(x:Int×Int):List Value:=[.int .i64 x.1,.int .i64 x.2]
def a9n(cs:List Value)(p:Nat)(x:Int×Int):Prop:=cs[p]? =some (.int .i64 x.1)/\cs[p+1]? =some (.int .i64 x.2)
abbrev HoL(W:AW)(v:Value)(l:List (Int×Int)):Prop:=Row W 2 a9n v l
theorem qY(x:Int×Int):(sV x).length=2:=rfl
theorem a1d(x:Int×Int):(sV x).all Eng.one=true:=rfl
theorem aAN:mD Tryz.prog #[32,32] 2 16=true:=by kernel_rfl
theorem aCd(a b:Int)(W:AW):aV Tryz.prog 32 1 [(0,.agg #[.int .i64 a,.int .i64 b])] W=some (.slice (some ⟨W.next,0,none⟩) 1 1,W.add (.cells [.int .i64 a,.int .i64 b])):=Eq.trans (by kernel_rfl) rfl
theorem DW:((#[32]:Array TypeId)[0]?).bind Tryz.prog.underlying=some (.slice 42):=by kernel_rfl
theorem HoL.get{W:AW}{v:Value}{l:List (Int×Int)}(h:HoL W v l){i:Nat}(hi:i<l.length):
 ∃b o,(∀W' k,jI 2 v (.int k (i:Int)) W'=some (.pointer (some ⟨b,o,none⟩),W'))/\b<W.next/\∀W',W'.get b=W.get b->eU 2 (.pointer (some ⟨b,o,none⟩)) W'=some (lU l[i],W')/\aP (.pointer (some ⟨b,o,none⟩)) W'=some (.int .i64 l[i].1,W')/\aP (.pointer (some ⟨b,o+1,none⟩)) W'=some (.int .i64 l[i].2,W'):=by
 obtain⟨b,o,cs,h1,h2,h3,h4,h5⟩:=h.elem hi;refine⟨b,o,h1,h2,λW' hg=>?_⟩;have hc:cellsAt W' b=some cs:=by
  have:cellsAt W' b=cellsAt W b:=by unfold cellsAt;rw[hg]
  rw[this];exact h3
 refine⟨?_,d9 hc h4,d9 hc h5⟩;have e3:(cs.drop o).take 2=[.int .i64 l[i].1,.int .i64 l[i].2]:=by obtain⟨a1,a2⟩:=List.getElem?_eq_some_iff.1 h4;obtain⟨b1,b2⟩:=List.getElem?_eq_some_iff.1 h5;rw[List.drop_eq_getElem_cons a1,List.drop_eq_getElem_cons b1,a2,b2];rfl
 have:=qP (n:=2) (o:=o) hc (by rw[e3];rfl);rw[e3]at this;exact this
section
variable {W:AW} {In:Nat->Prop} {H q mh hm:Nat} {seats nx:Int} {n:Nat} {f:Nat->En}
end
section
variable {W:AW} {In:Nat->Prop} {H q mh hm:Nat} {seats nx:Int} {n:Nat} {f:Nat->En}
theorem HS.good(h:HS W In H q mh hm seats nx n f){i:Nat}(hi:i<n):CB seats (f i).v.1 0=false:=by have:=h.ok i hi;unfold CB;simp only[Bool.or_eq_false_iff,decide_eq_false_iff_not];omega
theorem a5d(h:HS W In H q mh hm seats nx (n+1) f){i:Nat}(hi:i<n+1)(hn:n<=10000):
 ∃W' g,aL (.func (.func 150) #[] #[]) [hP H,.int .i64 (f i).v.1] W=some (.tuple #[.int .i64 (f i).v.2,.int .i64 0],W')/\HS W' In H q mh hm seats nx n g/\((f i).v::vG n g).Perm (vG (n+1) f)/\Gr W W' In:=by
 have main:Ok (oO aL (hP H) (.int .i64 (f i).v.1) W) λr=>r.1=.tuple #[.int .i64 (f i).v.2,.int .i64 0]/\∃g,HS r.2 In H q mh hm seats nx n g/\((f i).v::vG n g).Perm (vG (n+1) f)/\Gr W r.2 In:=by
  have hW:=h;obtain⟨hc,hl,ml,ne,iH,iM,qs,⟨m,m1,m2,m3⟩,ok,sz⟩:=h;obtain⟨W1,g,p1,p2,p3,p4⟩:=YQ DJ PH qs hn hi;have n1:=p4.next;have hc1:W1.get H=some (.cells [.int .i64 seats,qV q,.map (some hm)]):=(p4.get H hl (by simp)).trans hc;obtain⟨V,a1,a2,a3,a4⟩:=a7I W1;have st:=a7w (f i).v a4;generalize hV2:V.put W1.next (.cells [.int .i64 (f i).v.1,.int .i64 (f i).v.2])=V2 at st;have l2:Le W1 V2:=by rw[<-hV2];exact a2.put (Nat.le_refl _) _
  have n2:V2.next=W1.next+1:=by rw[<-hV2,AW.put_next];exact a3
  have x2:V2.get W1.next=some (.cells [.int .i64 (f i).v.1,.int .i64 (f i).v.2]):=by rw[<-hV2];exact AW.get_put _ _ _
  have hc2:V2.get H=some (.cells [.int .i64 seats,qV q,.map (some hm)]):=(l2.get H (by omega)).trans hc1;have m1':MapV V2 hm m (n+1):=m1.keep ((l2.get hm (by omega)).trans (p4.get hm ml (by simp)));obtain⟨es,c,d1,d2⟩:=XM m1' a7x u3 [3] (f i).v.1;rw[m2 i hi]at d2;simp only[Option.isSome_some,if_true,Nat.add_sub_cancel]at d2;have dd:aG Tryz.prog .delete #[218,3] 0 #[false,false] [.map (some hm),.int .i64 (f i).v.1] V2=some (.tuple #[],V2.put hm (.map es c)):=by show(rA Tryz.prog V2 #[218,3] (.map (some hm)) (.int .i64 (f i).v.1)).map _=_;have:(#[218,3]:Array TypeId)=(218::[3]).toArray:=rfl;rw[this,d1];rfl
  generalize hV4:V2.put hm (.map es c)=V4 at d2 dd;have g4:∀b,b≠hm->V4.get b=V2.get b:=λb hb=>by rw[<-hV4];exact AW.get_put_ne _ _ (Ne.symm hb)
  have n4:V4.next=V2.next:=by rw[<-hV4,AW.put_next]
  have x4:V4.get W1.next=some (.cells [.int .i64 (f i).v.1,.int .i64 (f i).v.2]):=(g4 _ (by omega)).trans x2;have hmem:∀j,j<n->∃k,k<n+1/\f k=g j:=λj hj=>bP.1 (p3.mem_iff.1 (List.mem_cons_of_mem _ (bP.2 ⟨j,hj,rfl⟩)))
  have hne0:∀j,j<n->¬(g j).h=(f i).h:=λj hj e=>by
   have hnd:((f i).h::(all n g).map (·.h)).Nodup:=by
    have:=(p3.map (·.h)).nodup_iff.2 ?_
    ·exact this
    ·unfold all;rw[List.map_map,List.nodup_iff_pairwise_ne,List.pairwise_map];refine List.nodup_range.imp_of_mem λ{a b} ha hb hab e=>hab (qs.fresh (List.mem_range.1 ha) (List.mem_range.1 hb) e)
   exact(List.nodup_cons.1 hnd).1 (List.mem_map.2 ⟨g j,bP.2 ⟨j,hj,rfl⟩,e⟩)
  have hseat0:∀j,j<n->¬(g j).v.1=(f i).v.1:=λj hj e=>by obtain⟨k,hk,ek⟩:=hmem j hj;have a:=m2 k hk;rw[ek,e,m2 i hi]at a;injection a with a;injection a with _ a;exact hne0 j hj a.symm
  have l1:aP (.pointer (some ⟨W1.next,1,none⟩)) V4=some (.int .i64 (f i).v.2,V4):=jE (bU x4) rfl;unfold oO;simp only[SX,a3N hW hi (hW.good hi),aD,Nat.zero_add,hW.l1,p1,a1,st,jE (o:=2) (bU hc2) rfl,dd,l1,aB];refine⟨trivial,g,⟨(g4 H ne).trans hc2,by omega,by omega,ne,iH,iM,p2.keep (by omega) (λb hb hx=>by rw[g4 b hx.2.2];exact l2.get b hb) λb _ hx=>hx,⟨_,d2,λj hj=>?_,λk v hk=>?_⟩,λj hj=>?_,sz⟩,?_,by omega,λb hb' hni=>?_⟩
  ·obtain⟨k,hk,ek⟩:=hmem j hj;rw[if_neg (hseat0 j hj),<-ek];exact m2 k hk
  ·by_cases hk0:k=(f i).v.1
   ·rw[if_pos hk0]at hk;cases hk
   ·rw[if_neg hk0]at hk;obtain⟨i',hi',y1,y2⟩:=m3 k v hk;rcases List.mem_cons.1 (p3.mem_iff.2 (bP.2 ⟨i',hi',rfl⟩))with e|hx
    ·rw[e]at y1;exact absurd y1.symm hk0
    ·obtain⟨j,hj,ej⟩:=bP.1 hx;exact⟨j,hj,by rw[ej];exact y1,by rw[ej];exact y2⟩
  ·obtain⟨k,hk,ek⟩:=hmem j hj;rw[<-ek];exact ok k hk
  ·exact p3.map (·.v)
  ·rw[g4 b (λe=>hni (by rw[e];exact iM)),l2.get b (by omega)];exact p4.get b hb' λx=>hni x.1
 obtain⟨⟨r,W'⟩,h1,h2,g,h3,h4,h5⟩:=main;simp only at h2 h3 h4 h5;subst h2;rcases yN (W:=W) (W':=W') (.tuple #[.int .i64 (f i).v.2,.int .i64 0])with hg|⟨hg,hle⟩
 ·exact⟨W',g,by rw[zR h1,hg],h3,h4,h5⟩
 ·have hql:q<W.next:=by obtain⟨⟨lv,bl,k1,-⟩,-⟩:=h.qs;exact k1.lt
  exact absurd (hle.get q hql).symm (QS.grown h3.qs h.qs)
end
def aBQ(ls:Int×Int->Int×Int->Bool)(a b:Int×(Int×Int)):Bool:=ls a.2 b.2||(!ls b.2 a.2&&decide (a.1<b.1))
def VG(x:Int×(Int×Int)):List Value:=[.int .i64 x.1,.int .i64 x.2.1,.int .i64 x.2.2]
def a3c(cs:List Value)(p:Nat)(x:Int×(Int×Int)):Prop:=cs[p]? =some (.int .i64 x.1)/\cs[p+1]? =some (.int .i64 x.2.1)/\cs[p+2]? =some (.int .i64 x.2.2)
abbrev Items(W:AW)(v:Value)(l:List (Int×(Int×Int))):Prop:=Row W 3 a3c v l
theorem SY(x:Int×(Int×Int)):(VG x).length=3:=rfl
theorem a6z(x:Int×(Int×Int)):(VG x).all Eng.one=true:=rfl
theorem a8n(x:Int×(Int×Int))(pre post:List Value):a3c (pre++(VG x++post)) pre.length x:=by
 unfold a3c VG;refine⟨?_,?_,?_⟩
 ·rw[List.getElem?_append_right (Nat.le_refl _),Nat.sub_self];rfl
 ·rw[List.getElem?_append_right (by omega),Nat.add_sub_cancel_left];rfl
 ·rw[List.getElem?_append_right (by omega),Nat.add_sub_cancel_left];rfl
theorem Lst.items{lo:Nat}{W:AW}{v:Value}{l:List (Int×(Int×Int))}(h:Lst lo W 3 VG v l):Items W v l:=h.row SY a8n
theorem aCg:mD Tryz.prog #[343,343] 3 24=true:=by kernel_rfl
theorem aCe(a:Int)(b:Int×Int)(W:AW):gK Tryz.prog 346 [(0,.int .i64 a),(1,lU b)] W=some (.agg #[.int .i64 a,.int .i64 b.1,.int .i64 b.2],W):=Eq.trans (by kernel_rfl) rfl
theorem aCx(a b c:Int)(W:AW):aV Tryz.prog 343 1 [(0,.agg #[.int .i64 a,.int .i64 b,.int .i64 c])] W=some (.slice (some ⟨W.next,0,none⟩) 1 1,W.add (.cells [.int .i64 a,.int .i64 b,.int .i64 c])):=Eq.trans (by kernel_rfl) rfl
theorem a6I:wC Tryz.prog 275:=⟨_,_,Tryz.func275,by kernel_rfl,rfl⟩
def cfE(ls:Int×Int->Int×Int->Bool)(f:Nat->En)(i j:Nat):Int:=if(f i).b=(f j).b then 0 else if jD ls (f i) (f j)then -1 else 1
theorem yH{ls:Int×Int->Int×Int->Bool}(o:Ord (jD ls)){f:Nat->En}{n:Nat}(hinj:∀i j,i<n->j<n->(f i).b=(f j).b->i=j){i j:Nat}(hi:i<n)(hj:j<n):cfE ls f i j<0<->jD ls (f i) (f j)=true:=by
 unfold cfE;by_cases h:(f i).b=(f j).b
 ·obtain rfl:=hinj i j hi hj h;rw[if_pos rfl,DC o];simp
 ·rw[if_neg h];cases jD ls (f i) (f j)<;>simp
theorem a02{ls:Int×Int->Int×Int->Bool}(o:Ord (jD ls)){f:Nat->En}{n:Nat}(hinj:∀i j,i<n->j<n->(f i).b=(f j).b->i=j):OrdN n (cfE ls f) where
 irrefl i hi h:=by rw[yH o hinj hi hi,DC o]at h;cases h
 trans i j l hi hj hl h1 h2:=by rw[yH o hinj hi hj]at h1;rw[yH o hinj hj hl]at h2;rw[yH o hinj hi hl];exact a2K o h1 h2
 ntrans i j l hi hj hl h1 h2:=by rw[yH o hinj hi hj,Bool.not_eq_true]at h1;rw[yH o hinj hj hl,Bool.not_eq_true]at h2;rw[yH o hinj hi hl,Bool.not_eq_true];exact o.neg _ _ _ h2 h1
theorem a7J(l:List En):(l.map λe=>[qK e]).flatten=l.map qK:=by
 induction l with
 |nil=>rfl
 |cons a l ih=>rw[List.map_cons,List.flatten_cons,ih];rfl
theorem a4F(n:Nat)(f:Nat->En):fA n f=(all n f).map qK:=by unfold fA all;rw[List.map_map];rfl
section
variable {q:Nat} {lv less c2 c3:Value} {n:Nat} {f:Nat->En} {bl:Option Nat} {ls:Int×Int->Int×Int->Bool}
theorem a4g(o:Ord (jD ls))(hl:IsLess1 less ls)(hlz:∀D,nK D less){V:AW}(h:QP V q lv less c2 c3 n f bl)(hn:n<=10000)(h0:0<n){b X:Nat}(hb:V.get b=some (.cells (fA n f)))(hbl:b<V.next)(hbq:b≠q)(hbb:bl≠some b)(hbe:∀i,i<n->(f i).b≠b)(hX:V.get X=some (.cells [.pointer (some ⟨q,0,none⟩)]))(hXl:X<V.next)(hXb:X≠b):
 ∃es:List En,es.Perm (all n f)/\es.Pairwise (λx y=>jD ls y x=false)/\aL (.func (.func 274) #[] #[]) [.slice (some ⟨b,0,none⟩) n (bS+1),.func (.func 275) #[] #[.pointer (some ⟨X,0,none⟩)]] V=some (.tuple #[],V.put b (.cells (es.map qK))):=by
 obtain⟨hqc,hql,⟨hsl,hen,hinj⟩,hbq',heq⟩:=h;have hlen:(all n f).length=n:=yY n f;have hget:∀i (hi:i<(all n f).length),(all n f)[i]=f i:=λi hi=>by simp[all]
 obtain⟨es,e1,e2,e3⟩:=MG (all n f) (λe=>[qK e]) (jD ls) (cf:=cfE ls f) (by rw[hlen];exact a02 o hinj) (by omega) λi j hi hj=>by rw[hget,hget];exact yH o hinj (by omega) (by omega)
 refine⟨es,e1,e2,?_⟩;have vQ:∃r,cellsAt (OO V b) q=some ([lv,less]++r):=by
  obtain⟨r,hr⟩:=RX (W:=V) (b0:=b) (x:=q) (cs:=[lv,less]) (rest:=[c2,c3]) (.inl hqc) hql (Ne.symm hbq) λv hv=>by
   rcases List.mem_cons.1 hv with rfl|hv
   ·cases hsl with
    |nil h0=>exact ZW
    |row bl junk h1 h2 h3=>exact UW ⟨λe=>hbb (congrArg some e),_,.inl h1⟩
   ·obtain rfl:=List.mem_singleton.1 hv;exact hlz _
  exact⟨r,by unfold cellsAt;rw[hr]⟩
 obtain⟨rq,vQ⟩:=vQ;have vX:∃r,cellsAt (OO V b) X=some ([.pointer (some ⟨q,0,none⟩)]++r):=by
  obtain⟨r,hr⟩:=RX (W:=V) (b0:=b) (x:=X) (cs:=[.pointer (some ⟨q,0,none⟩)]) (rest:=[]) (.inl hX) hXl hXb λv hv=>by obtain rfl:=List.mem_singleton.1 hv;exact FW ⟨Ne.symm hbq,_,.inl hqc⟩
  exact⟨r,by unfold cellsAt;rw[hr]⟩
 obtain⟨rX,vX⟩:=vX;have vE:∀i,i<n->∃r,cellsAt (OO V b) (f i).b=some (.int .i64 (f i).h::.int .i64 (f i).v.1::.int .i64 (f i).v.2::r):=λi hi=>by obtain⟨r,hr⟩:=RX (W:=V) (b0:=b) (x:=(f i).b) (cs:=OU (f i) i) (rest:=[]) (.inl (by rw[List.append_nil];exact(hen i hi).1)) (hen i hi).2 (hbe i hi) λv hv=>xU (by simp only[OU,List.mem_cons,List.not_mem_nil,or_false]at hv;rcases hv with rfl|rfl|rfl|rfl<;>rfl);exact⟨.int .i64 (i:Int)::r,by unfold cellsAt;rw[hr];rfl⟩
 have key:SortFA Tryz.prog (yO nQ 275 276) [] false 1 V [.slice (some ⟨b,0,none⟩) n (bS+1),.func (.func 275) #[] #[.pointer (some ⟨X,0,none⟩)]] (V.put b (.cells (es.map qK))):=by
  refine .inr ⟨b,bS+1,(all n f).map λe=>[qK e],[],275,#[.pointer (some ⟨X,0,none⟩)],cfE ls f,⟨?_,?_,?_,?_,?_,?_,?_,?_,?_,a6I,?_,?_,?_⟩⟩
  ·intro h;have:=congrArg List.length h;rw[List.length_map,hlen]at this;simp at this;omega
  ·rw[List.length_map,hlen];omega
  ·intro r hr;obtain⟨e,-,rfl⟩:=List.mem_map.1 hr;rfl
  ·intro r hr v hv;obtain⟨e,-,rfl⟩:=List.mem_map.1 hr;obtain rfl:=List.mem_singleton.1 hv;rfl
  ·rw[List.length_map,hlen]
  ·rw[a7J,List.append_nil,<-a4F];exact hb
  ·intro r hr v hv;obtain⟨e,he,rfl⟩:=List.mem_map.1 hr;obtain rfl:=List.mem_singleton.1 hv;obtain⟨i,hi,rfl⟩:=bP.1 he;exact FW ⟨hbe i hi,_,.inl (hen i hi).1⟩
  ·intro v hv;obtain rfl:v=.pointer (some ⟨X,0,none⟩):=by simpa using hv
   exact FW ⟨hXb,_,.inl hX⟩
  ·intro g hg;cases hg
  ·intro i j hi hj;rw[List.length_map]at hi hj;rw[List.getElem_map,List.getElem_map,hget,hget];rw[hlen]at hi hj;obtain⟨ri,hri⟩:=vE i hi;obtain⟨rj,hrj⟩:=vE j hj;have hbo:=V5 (rq:=rq) hl vQ hri hrj;show yO nQ 275 276 V b 275 #[.pointer (some ⟨X,0,none⟩)] (qK (f i)) (qK (f j))=_;unfold yO cfE;simp only[if_true,qK];rw[show(cellsAt (OO V b) X).bind (λx=>x[0]?)=some (.pointer (some ⟨q,0,none⟩))by rw[vX];rfl];simp only;by_cases hij:(f i).b=(f j).b
   ·rw[if_pos (by rw[hij]),if_pos hij]
   ·rw[if_neg (λe=>hij (by injection e)),if_neg hij,(hen i hi).1,(hen j hj).1];simp only;rw[if_pos ⟨hij,by simp,by simp⟩];have hbo':nQ (.func (.func 276) #[] #[]) [.pointer (some ⟨q,0,none⟩),.pointer (some ⟨(f i).b,0,none⟩),.pointer (some ⟨(f j).b,0,none⟩)] (OO V b)=some (.bool (jD ls (f i) (f j)),OO V b):=hbo;rw[hbo']
  ·rw[List.length_map,hlen];exact a02 o hinj
  ·rw[e3,a7J,List.append_nil]
 exact K6 key
end
theorem a4c:((#[279]:Array TypeId)[0]?).bind Tryz.prog.underlying=some (.slice 287):=by kernel_rfl
structure Srt (ls:Int×Int->Int×Int->Bool) (n:Nat) (f:Nat->En) (l:List (Int×(Int×Int))):Prop where
 perm:l.Perm ((all n f).map hv)
 sort:l.Pairwise λa b=>aBQ ls b a=false
section
variable {W:AW} {In:Nat->Prop} {q mh:Nat} {less:Value} {ls:Int×Int->Int×Int->Bool} {nx:Int} {n:Nat} {f:Nat->En}
theorem a2B(o:Ord (jD ls))(hl:IsLess1 less ls)(hlz:∀D,nK D less)(h:QS W In q mh less ls nx n f)(hn:n<=10000):
 ∃W' v l,aL (.func (.func 239) #[] #[]) [qV q] W=some (v,W')/\Le W W'/\Lst W.next W' 3 VG v l/\Srt ls n f l:=by
 have main:∃l,Srt ls n f l/\Ok (eF aL (qV q) W) λr=>Le W r.2/\Lst W.next r.2 3 VG r.1 l:=by
  obtain⟨⟨lv,bl,h1,h2,h3⟩,-⟩:=h;have oBoxP:∀W,dK (qV q) W=some (.pointer (some ⟨W.next,0,none⟩),W.add (.cells [qV q])):=λW=>rfl
  generalize hW1:W.add (.cells [qV q])=W1;have g1:∀b,b<W.next->W1.get b=W.get b:=λb hb=>by rw[<-hW1];exact AW.get_add_ne _ _ (by omega)
  have n1:W1.next=W.next+1:=by rw[<-hW1,AW.add_next]
  have l1:Le W W1:=by rw[<-hW1];exact(Le.refl _).add _
  have x1:W1.get W.next=some (.cells [qV q]):=by rw[<-hW1];exact AW.get_add _ _
  have q1:QP W1 q lv less (.map (some mh)) (.int .i64 nx) n f bl:=h1.keep (by omega) λb hb _=>g1 b hb
  obtain⟨v1,W2,c1,c2,c3⟩:=a4s q1.pile.sl hn;have q2:QP W2 q lv less (.map (some mh)) (.int .i64 nx) n f bl:=q1.keep c2.next λb hb _=>c2.get b hb
  have x2:W2.get W.next=some (.cells [qV q]):=(c2.get _ (by omega)).trans x1;have hbn:∀b,bl=some b->b<W1.next:=λb hb=>q1.pile.sl.lt hb
  have hs:∃(es:List En) (W3:AW),es.Perm (all n f)/\es.Pairwise (λx y=>jD ls y x=false)/\aL (.func (.func 274) #[] #[]) [v1,.func (.func 275) #[] #[.pointer (some ⟨W.next,0,none⟩)]] W2=some (.tuple #[],W3)/\W3.next=W2.next/\(∀b,b<W1.next->W3.get b=W2.get b)/\
   (∀W',aG Tryz.prog .len #[279] 3 #[false] [v1] W'=some (.int .i64 (n:Int),W'))/\∀i (hi:i<es.length),∃b,(∀W' k,jI 1 v1 (.int k (i:Int)) W'=some (.pointer (some ⟨b,i,none⟩),W'))/\∀W',Le W3 W'->aP (.pointer (some ⟨b,i,none⟩)) W'=some (qK es[i],W'):=by
   rcases c3 with⟨rfl,a,c,rfl⟩|⟨h0,b,b1,b2,rfl,b3⟩
   ·refine⟨[],W2,.refl _,.nil,K6 (.inl ⟨a,c,_,rfl,rfl⟩),rfl,λ_ _=>rfl,λW'=>iB a4c _ _ _,λi hi=>by simp at hi⟩
   ·obtain⟨es,e1,e2,e3⟩:=a4g o hl hlz q2 hn h0 b3 b2 (by have:=q1.lt;omega) (λe=>by have:=hbn b e;omega) (λi hi e=>by have:=(q1.pile.en i hi).2;omega) x2 (by have:=c2.next;omega) (by omega);have hlen:es.length=n:=by rw[e1.length_eq,yY]
    refine⟨es,_,e1,e2,e3,by rw[AW.put_next],λd hd=>AW.get_put_ne _ _ (by omega),λW'=>iB a4c _ _ _,λi hi=>⟨b,λW' k=>by rw[nC (by omega),Nat.zero_add,Nat.mul_one],λW' hle=>jE (bU (cs:=es.map qK) ?_) ?_⟩⟩
    ·rw[hle.get b (by rw[AW.put_next];exact b2)];exact AW.get_put _ _ _
    ·rw[List.getElem?_map,List.getElem?_eq_getElem hi];rfl
  obtain⟨es,W3,e1,e2,e3,n3,g3,e4,e5⟩:=hs;have hlen:es.length=n:=by rw[e1.length_eq,yY]
  have l3:Le W1 W3:=⟨by rw[n3];exact c2.next,λb hb=>by rw[g3 b hb];exact c2.get b hb⟩;have hcell:∀i (hi:i<es.length) W',Le W3 W'->aP (.pointer (some ⟨es[i].b,0,none⟩)) W'=some (.int .i64 es[i].h,W')/\eU 2 (.pointer (some ⟨es[i].b,1,none⟩)) W'=some (lU es[i].v,W'):=λi hi W' hle=>by
   obtain⟨k,hk,e⟩:=bP.1 (e1.mem_iff.1 (List.getElem_mem hi));have hc:W'.get (f k).b=some (.cells (OU (f k) k)):=by have:=q1.pile.en k hk;rw[hle.get _ (Nat.lt_of_lt_of_le this.2 l3.next),l3.get _ this.2];exact this.1
   rw[<-e];exact⟨jE (bU hc) rfl,qP (eH (bU hc)) rfl⟩
  refine⟨es.map hv,⟨e1.map hv,by rw[List.pairwise_map];exact e2⟩,?_⟩;unfold eF;simp only[SX,oBoxP,hW1,jE (o:=0) (bU x1) rfl,aD,Nat.zero_add,q1.l0,c1,e3,e4];refine bF n (by omega) (λk R W'=>∃out,R 16=v1/\R 17=.int .i64 (n:Int)/\R 18=.int .i64 (k:Int)/\R 4=out/\Le W3 W'/\Lst W3.next W' 3 VG out ((es.take k).map hv))
   (λr=>r.1=.exit 0/\∃out,r.2.1 4=out/\Le W3 r.2.2/\Lst W.next r.2.2 3 VG out (es.map hv)) ⟨_,rfl,rfl,rfl,rfl,.refl _,.nil _ _ _ _⟩ ?_ ?_ ?_
  ·rintro k R W' hk ⟨out,r16,r17,r18,r4,hle,hL⟩;unfold dN;have hke:k<es.length:=by omega
   obtain⟨b,f1,f2⟩:=e5 k hke;obtain⟨d1,d2⟩:=hcell k hke W' hle;have t1:((k:Int)<(n:Int)):=by omega
   have t2:=λW'=>aQ (P:=Tryz.prog) (W:=W') (t:=3) (c:=false) (d:=true) (a:=(k:Int)) (b:=1) (by omega) (by omega)
   have hlt:((es.take k).map hv).length=k:=by rw[List.length_map,List.length_take];omega
   obtain⟨v',W4,p1,p2,p3,p4⟩:=(hL.mono ((Le.refl W').add (.cells (VG (hv es[k]))))).push (a:=hv es[k]) (b:=W'.next) (c:=1) aCg SY a6z dI (by rw[hlt];omega) (by rw[hlt];omega) (by rw[AW.add_next];have:=hle.next;omega);simp only[SX,r16,r17,r18,r4,t1,f1,f2 W' hle,aD,Nat.zero_add,d1,d2,aCe,aCx];have p1':bJ Tryz.prog (W'.add (.cells [.int .i64 es[k].h,.int .i64 es[k].v.1,.int .i64 es[k].v.2])) #[343,343] out (.slice (some ⟨W'.next,0,none⟩) 1 1)=some (v',W4):=p1;simp only[SX,p1',t2,aB];refine .inl ⟨trivial,v',r16,r17,by rw[show((k+1:Nat):Int)=(k:Int)+1 by omega];rfl,rfl,p4 _ (hle.add _) (Nat.le_refl _),?_⟩;rw[List.take_succ_eq_append_getElem hke,List.map_append];exact p2
  ·rintro R W' ⟨out,r16,r17,r18,r4,hle,hL⟩;unfold dN;have t1:¬((n:Int)<(n:Int)):=by omega
   simp only[SX,r16,r17,r18,t1,aB];rw[List.take_of_length_le (by omega)]at hL;exact⟨by simp,trivial,out,r4,hle,Lst.low hL (by have:=l3.next;omega)⟩
  ·rintro⟨x,R,W'⟩ ⟨hx,out,r4,hle,hL⟩;simp only at hx r4 hle hL;subst hx;simp only[SX,r4,aB];exact⟨(l1.trans l3).trans hle,hL⟩
 obtain⟨l,hs,main⟩:=main;obtain⟨v,W2,k1,k2,k3⟩:=a4m main mU;exact⟨W2,v,l,k1,k2,k3,hs⟩
end
theorem aAg(W:AW):bE Tryz.prog 346 W=some (.pointer (some ⟨W.next,0,none⟩),W.add (.cells [.int .i64 0,.int .i64 0,.int .i64 0])):=Eq.trans (by kernel_rfl) rfl
theorem aAL:((#[343]:Array TypeId)[0]?).bind Tryz.prog.underlying=some (.slice 346):=by kernel_rfl
section
variable {W:AW} {In:Nat->Prop} {q mh:Nat} {less:Value} {ls:Int×Int->Int×Int->Bool} {nx:Int} {n:Nat} {f:Nat->En}
theorem a8z(W:AW)(q:Nat):aL (.func (.func 197) #[] #[]) [qV q] W=some (.func (.func 238) #[] #[.pointer (some ⟨W.next,0,none⟩)],W.add (.cells [qV q])):=by
 have oBoxP:∀W,dK (qV q) W=some (.pointer (some ⟨W.next,0,none⟩),W.add (.cells [qV q])):=λW=>rfl
 have:fJ aL (qV q) W=some (.func (.func 238) #[] #[.pointer (some ⟨W.next,0,none⟩)],W.add (.cells [qV q])):=by unfold fJ;simp only[SX,oBoxP]
 rw[pQ this,dV rfl]
theorem a6V(o:Ord (jD ls))(hl:IsLess1 less ls)(hlz:∀D,nK D less)(h:QS W In q mh less ls nx n f)(hn:n<=10000){X:Nat}(hX:W.get X=some (.cells [qV q])){y:Value}:
 ∃l W1,Srt ls n f l/\Le W W1/\∀(J:List (Int×(Int×Int))->AW->Prop) (D:AW->Prop),J [] W1->(∀pre W',J pre W'->W1.next<=W'.next/\∀b,W.next<=b->b<W1.next->W'.get b=W1.get b)->
  (∀pre x W' cs,pre++[x]<+:l->J pre W'->∃r W2,aL y [.int .i64 x.1,lU x.2] (W'.add (.cells cs))=some (.bool r,W2)/\(r=true->J (pre++[x]) W2)/\(r=false->D W2))->
  ∃W',aL (.func (.func 238) #[] #[.pointer (some ⟨X,0,none⟩)]) [y] W=some (.tuple #[],W')/\(J l W'\/D W'):=by
 have hm:=TP h;obtain⟨W1,v,l,s1,s2,s3,s4⟩:=a2B o hl hlz h hn;refine⟨l,W1,s4,s2,λJ D h0 hk step=>?_⟩;have main:Ok (eO aL y (.pointer (some ⟨X,0,none⟩)) W) λr=>r.1=.tuple #[]/\(J l r.2\/D r.2):=by
  have hlen:=(Lst.items s3).len aAL;have hget:∀i (hi:i<l.length) W',(W1.next<=W'.next/\∀b,W.next<=b->b<W1.next->W'.get b=W1.get b)->∃p,(∀W2 kk,jI 3 v (.int kk (i:Int)) W2=some (p,W2))/\eU 3 p W'=some (.agg #[.int .i64 l[i].1,.int .i64 l[i].2.1,.int .i64 l[i].2.2],W'):=by
   intro i hi W' ⟨hn',hg'⟩;rcases s3 with⟨h0,e⟩|⟨h0,B,b1,b2,e,b3⟩
   ·subst h0;simp at hi
   ·subst e;refine⟨.pointer (some ⟨B,i*3,none⟩),λW2 kk=>by rw[nC hi,Nat.zero_add],?_⟩;have hc:cellsAt W' B=some (l.flatMap VG):=bC ((hg' B b1 b2).trans b3);have e:l.flatMap VG=(l.take i).flatMap VG++(VG l[i]++(l.drop (i+1)).flatMap VG):=by rw[<-List.flatMap_cons,<-List.drop_eq_getElem_cons hi,<-List.flatMap_append,List.take_append_drop]
    have e2:((l.take i).flatMap VG).length=i*3:=by rw[aR SY,List.length_take,Nat.min_eq_left (by omega)]
    have e3:((l.flatMap VG).drop (i*3)).take 3=[.int .i64 l[i].1,.int .i64 l[i].2.1,.int .i64 l[i].2.2]:=by rw[e,<-e2,List.drop_left];rfl
    have:=qP (n:=3) (o:=i*3) hc (by rw[e3];rfl);rw[e3]at this;exact this
  have hl':l.length<=10000:=by rw[s4.perm.length_eq,List.length_map,yY];exact hn
  unfold eO;simp only[SX,jE (o:=0) (bU hX) rfl,hm,s1,hlen];refine bF l.length (by omega) (λk R W'=>R 0=y/\R 9=v/\R 10=.int .i64 (l.length:Int)/\R 11=.int .i64 (k:Int)/\J (l.take k) W')
   (λr=>(r.1=.exit 0/\J l r.2.2)\/(r.1=.ret/\D r.2.2)) ⟨rfl,rfl,rfl,rfl,by rw[List.take_zero];exact h0⟩ ?_ ?_ ?_
  ·rintro k R W' hk' ⟨r0,r9,r10,r11,hJ⟩;unfold dS;obtain⟨p,f1,f2⟩:=hget k hk' W' (hk _ _ hJ);have t1:((k:Int)<(l.length:Int)):=by omega
   have t2:=λW'=>aQ (P:=Tryz.prog) (W:=W') (t:=3) (c:=false) (d:=true) (a:=(k:Int)) (b:=1) (by omega) (by omega)
   have e2:iX [Value.int .i64 0,.int .i64 0,.int .i64 0] 0 [.int .i64 l[k].1,.int .i64 l[k].2.1,.int .i64 l[k].2.2]=[.int .i64 l[k].1,.int .i64 l[k].2.1,.int .i64 l[k].2.2]:=rfl;have st:fZ 3 (.pointer (some ⟨W'.next,0,none⟩)) (.agg #[.int .i64 l[k].1,.int .i64 l[k].2.1,.int .i64 l[k].2.2]) (W'.add (.cells [.int .i64 0,.int .i64 0,.int .i64 0]))=some (undef,W'.add (.cells [.int .i64 l[k].1,.int .i64 l[k].2.1,.int .i64 l[k].2.2])):=by rw[DF,dQ,Option.bind_some,if_pos ⟨rfl,by simp,rfl⟩,SH];rfl
   have a1:aP (.pointer (some ⟨W'.next,0,none⟩)) (W'.add (.cells [.int .i64 l[k].1,.int .i64 l[k].2.1,.int .i64 l[k].2.2]))=some (.int .i64 l[k].1,W'.add (.cells [.int .i64 l[k].1,.int .i64 l[k].2.1,.int .i64 l[k].2.2])):=jE dQ rfl;have a2:eU 2 (.pointer (some ⟨W'.next,1,none⟩)) (W'.add (.cells [.int .i64 l[k].1,.int .i64 l[k].2.1,.int .i64 l[k].2.2]))=some (lU l[k].2,W'.add (.cells [.int .i64 l[k].1,.int .i64 l[k].2.1,.int .i64 l[k].2.2])):=qP dI rfl;have hpre:l.take k++[l[k]]<+:l:=by rw[<-List.take_succ_eq_append_getElem hk'];exact List.take_prefix _ _
   obtain⟨r,W2,y1,y2,y3⟩:=step _ _ _ [.int .i64 l[k].1,.int .i64 l[k].2.1,.int .i64 l[k].2.2] hpre hJ;cases r
   ·simp only[SX,r0,r9,r10,r11,t1,f1,f2,aAg,st,Nat.zero_add,a1,a2,y1,aB];exact .inr ⟨by simp,.inr ⟨trivial,y3 rfl⟩⟩
   ·simp only[SX,r0,r9,r10,r11,t1,f1,f2,aAg,st,Nat.zero_add,a1,a2,y1,t2,aB];refine .inl ⟨trivial,r0,r9,r10,by rw[show((k+1:Nat):Int)=(k:Int)+1 by omega];rfl,?_⟩;rw[List.take_succ_eq_append_getElem hk'];exact y2 rfl
  ·rintro R W' ⟨r0,r9,r10,r11,hJ⟩;unfold dS;have t1:¬((l.length:Int)<(l.length:Int)):=by omega
   simp only[SX,r0,r9,r10,r11,t1,aB];rw[List.take_length]at hJ;exact⟨by simp,.inl ⟨trivial,hJ⟩⟩
  ·rintro⟨x,R,W'⟩ hq;simp only at hq;rcases hq with⟨rfl,hq⟩|⟨rfl,hq⟩
   ·simp only[SX,aB];exact⟨trivial,.inl hq⟩
   ·simp only[SX,aB];exact⟨trivial,.inr hq⟩
 obtain⟨⟨r,W'⟩,k1,k2,k3⟩:=main;simp only at k2 k3;subst k2;exact⟨W',by rw[nS k1,dV rfl],k3⟩
end
section
variable {W:AW} {In:Nat->Prop} {q mh:Nat} {less:Value} {ls:Int×Int->Int×Int->Bool} {nx:Int} {n:Nat} {f:Nat->En}
theorem a9K{X nt:Nat}{R:Nat->Value}{ps:Array Tmp}{ac bd:Code}{ρ:Type}{K:Eng.X×AW->Option ρ}{G:ρ->Prop}(o:Ord (jD ls))(hl:IsLess1 less ls)(hlz:∀D,nK D less)(h:QS W In q mh less ls nx n f)(hn:n<=10000)(hX:W.get X=some (.cells [qV q]))(hXl:X<W.next)(hp:ps.size=2)
 (J:List (Int×(Int×Int))->Nat->List (Int×(Int×Int))->AW->Prop)(Q:Eng.X->AW->Prop)
 (fr:(Nat->Value)->Int×(Int×Int)->Nat->Nat->Value)(has:∀x W',iI Tryz.prog aL false nt ac LT (pW ps.toList [.int .i64 x.1,lU x.2] R) W' rG=some (.normal,fr R x W'.next,W'.add (.cells [.int .i64 x.2.1,.int .i64 x.2.2])))
 (h0:∀l W1,Srt ls n f l->Le (W.add (.loop .ready none R nt ps ac bd)) W1->J l W1.next [] W1)
 (hA:∀l N pre W' cs,J l N pre W'->W.next<N->N<=W'.next->J l N pre (W'.add (.cells cs)))
 (hP:∀l N pre W' b,J l N pre W'->J l N pre (W'.put W.next b))(hQ:∀x W' b,Q x W'->Q x (W'.put W.next b))
 (step:∀l N pre x W' R' b,R'=fr R x b->W'.get b=some (.cells [.int .i64 x.2.1,.int .i64 x.2.2])->N<=b->b<W'.next->Srt ls n f l->pre++[x]<+:l->J l N pre W'->W.next<N->N<=W'.next->
   Ok (iI Tryz.prog aL false nt bd LT R' W' rG) λr=>W'.next<=r.2.2.next/\(∀b,W.next<=b->b<N->r.2.2.get b=W'.get b)/\((r.1=.normal/\J l N (pre++[x]) r.2.2)\/(r.1≠ .normal/\Q r.1 r.2.2)))
 (after:∀l N x W2,Srt ls n f l->(x=.normal/\J l N l W2)\/(x≠ .normal/\Q x W2)->Ok (K (x,W2.kill W.next)) G):
 Ok (aA (mP aL (.func (.func 238) #[] #[.pointer (some ⟨X,0,none⟩)]) (.loop .ready none R nt ps ac bd) W) K) G:=by
 generalize hWl:W.add (.loop .ready none R nt ps ac bd)=Wl at *;have gl:∀b,b<W.next->Wl.get b=W.get b:=λb hb=>by rw[<-hWl];exact AW.get_add_ne _ _ (by omega)
 have nl:Wl.next=W.next+1:=by rw[<-hWl,AW.add_next]
 have ll:Wl.get W.next=some (.loop .ready none R nt ps ac bd):=by rw[<-hWl];exact AW.get_add _ _
 have hL:QS Wl In q mh less ls nx n f:=h.keep (by omega) (λb hb _=>gl b hb) (λb _ hi=>hi);obtain⟨l,W1,s1,s2,s3⟩:=a6V o hl hlz hL hn ((gl X hXl).trans hX) (y:=.func (.yield W.next) #[] #[]);have n1:W.next<W1.next:=by have:=s2.next;omega
 obtain⟨W2,k1,k2⟩:=s3
  (λpre V=>J l W1.next pre V/\V.get W.next=some (.loop .ready none R nt ps ac bd)/\W1.next<=V.next/\∀b,Wl.next<=b->b<W1.next->V.get b=W1.get b)
  (λV=>∃x,x≠ .normal/\Q x V/\V.get W.next=some (.loop .done x.jump R nt ps ac bd))
  ⟨h0 l W1 s1 s2,(s2.get _ (by omega)).trans ll,Nat.le_refl _,λb _ _=>rfl⟩ (λpre V hV=>hV.2.2)
  (λpre x V cs hpre ⟨hJ,hget,hn1,hg⟩=>by
    have hJ1:=hA _ _ _ _ cs hJ n1 hn1;have hJ2:=hP _ _ _ _ (.loop .busy none R nt ps ac bd) (hA _ _ _ _ [.int .i64 x.2.1,.int .i64 x.2.2] hJ1 n1 (by rw[AW.add_next];omega));obtain⟨⟨x1,R2,W3⟩,e1,e2,e3,e4⟩:=step l W1.next pre x _ _ (V.add (.cells cs)).next rfl (by rw[AW.get_put_ne _ _ (by rw[AW.add_next];omega)];exact AW.get_add _ _) (by rw[AW.add_next];omega) (by simp only[AW.put_next,AW.add_next];omega) s1 hpre hJ2 n1 (by rw[AW.put_next,AW.add_next,AW.add_next];omega);simp only at e1 e2 e3 e4;have hbusy:W3.get W.next=some (.loop .busy none R nt ps ac bd):=by rw[e3 _ (Nat.le_refl _) n1,AW.get_put]
    have hget1:(V.add (.cells cs)).get W.next=some (.loop .ready none R nt ps ac bd):=by rw[AW.get_add_ne _ _ (by omega)];exact hget
    have hget2:((V.add (.cells cs)).add (.cells [.int .i64 x.2.1,.int .i64 x.2.2])).get W.next=some (.loop .ready none R nt ps ac bd):=by rw[AW.get_add_ne _ _ (by rw[AW.add_next];omega)];exact hget1
    have hy:=PL (P:=Tryz.prog) (args:=[.int .i64 x.1,lU x.2]) hget1 (by rw[hp];rfl) (has x _) hget2 e1 hbusy;have hn3:W1.next<=W3.next:=by rw[AW.put_next,AW.add_next,AW.add_next]at e2;omega
    have hg3:∀o' b,Wl.next<=b->b<W1.next->(W3.put W.next o').get b=W1.get b:=λo' b hb1 hb2=>by rw[AW.get_put_ne _ _ (by omega),e3 b (by omega) hb2,AW.get_put_ne _ _ (by omega),AW.get_add_ne _ _ (by rw[AW.add_next];omega),AW.get_add_ne _ _ (by omega)];exact hg b hb1 hb2
    rcases e4 with⟨rfl,e4⟩|⟨kx,e4⟩
    ·exact⟨true,_,hy,λ_=>⟨hP _ _ _ _ _ e4,AW.get_put _ _ _,by rw[AW.put_next];exact hn3,hg3 _⟩,λh=>by cases h⟩
    ·refine⟨false,W3.put W.next (.loop .done x1.jump R nt ps ac bd),?_,λh=>by(cases h),λ_=>⟨x1,kx,hQ _ _ _ e4,AW.get_put _ _ _⟩⟩;refine hy.trans ?_;cases x1 with
     |normal=>exact absurd rfl kx
     |exit i=>rfl
     |ret=>rfl)
 rcases k2 with⟨k2,k3,-⟩|⟨x,k2,k3,k4⟩
 ·rw[CO (by rw[hWl];exact k1) k3 (by simp),uT];exact after l _ _ W2 s1 (.inl ⟨rfl,k2⟩)
 ·rw[M5 (by rw[hWl];exact k1) k4,uT];exact after l W1.next _ W2 s1 (.inr ⟨k2,k3⟩)
end
end Go.Proofs.YtnigceddndemkaaGreatDoor.Ho
namespace Go.Proofs.YtnigceddndemkaaGreatDoor
open Go Go.Eng Go.Hp
set_option maxRecDepth 100000
theorem Items.get{W:AW}{v:Value}{l:List (Int×Int)}(h:Items W v l){i:Nat}(hi:i<l.length):
 ∃b o,(∀W' k,jI 2 v (.int k (i:Int)) W'=some (.pointer (some ⟨b,o,none⟩),W'))/\b<W.next/\∀W',W'.get b=W.get b->eU 2 (.pointer (some ⟨b,o,none⟩)) W'=some (.agg #[.int .i64 l[i].1,.int .i64 l[i].2],W')/\aP (.pointer (some ⟨b,o,none⟩)) W'=some (.int .i64 l[i].1,W'):=by
 obtain⟨b,o,cs,h1,h2,h3,h4,h5⟩:=h.elem hi;refine⟨b,o,h1,h2,λW' hg=>?_⟩;have hc:cellsAt W' b=some cs:=by
  have:cellsAt W' b=cellsAt W b:=by unfold cellsAt;rw[hg]
  rw[this];exact h3
 refine⟨?_,d9 hc h4⟩;have e3:(cs.drop o).take 2=[.int .i64 l[i].1,.int .i64 l[i].2]:=by obtain⟨a1,a2⟩:=List.getElem?_eq_some_iff.1 h4;obtain⟨b1,b2⟩:=List.getElem?_eq_some_iff.1 h5;rw[List.drop_eq_getElem_cons a1,List.drop_eq_getElem_cons b1,a2,b2];rfl
 have:=qP (n:=2) (o:=o) hc (by rw[e3];rfl);rw[e3]at this;exact this
section
variable {W:AW} {In:Nat->Prop} {q mh:Nat} {less:Value} {ls:Int->Int->Bool} {nx:Int} {n:Nat} {f:Nat->En}
end
theorem aAo(k:Nat)(D:Nat->Prop):nK D (.func (.func k) #[] #[]):=MW (by simp) (by simp)
end Go.Proofs.YtnigceddndemkaaGreatDoor
namespace Go.Proofs.YtnigceddndemkaaGreatDoor.Ho
open Go Go.Eng Go.Hp
set_option maxRecDepth 100000
theorem a4l(a b:Int×Int)(W:AW):nQ (.func (.func 198) #[] #[]) [lU a,lU b] W=some (.int .i64 (vR a.1 b.1),W):=by
 refine aN rfl ?_ wD;unfold kY;have oB:∀(v:Int×Int) W,dK (lU v) W=some (.pointer (some ⟨W.next,0,none⟩),W.add (.cells [.int .i64 v.1,.int .i64 v.2])):=λv W=>fU _
 generalize hW2:(W.add (.cells [.int .i64 a.1,.int .i64 a.2])).add (.cells [.int .i64 b.1,.int .i64 b.2])=W2;have n1:(W.add (.cells [.int .i64 a.1,.int .i64 a.2])).next=W.next+1:=AW.add_next _ _;have xa:W2.get W.next=some (.cells [.int .i64 a.1,.int .i64 a.2]):=by rw[<-hW2,AW.get_add_ne _ _ (by rw[n1];omega)];exact AW.get_add _ _
 have xb:W2.get (W.next+1)=some (.cells [.int .i64 b.1,.int .i64 b.2]):=by rw[<-hW2];have:=(W.add (.cells [.int .i64 a.1,.int .i64 a.2])).get_add (.cells [.int .i64 b.1,.int .i64 b.2]);rwa [n1]at this
 have l2:Le W W2:=by rw[<-hW2];exact((Le.refl _).add _).add _
 simp only[SX,oB,n1,hW2,Nat.zero_add,jE (o:=0) (bU xa) rfl,jE (o:=0) (bU xb) rfl,a0p,aB];exact⟨trivial,l2⟩
theorem a8D:wC Tryz.prog 198:=⟨_,_,Tryz.func198,by kernel_rfl,rfl⟩
theorem a1a(l:List (Int×Int)):(l.map sV).flatten=l.flatMap sV:=by
 induction l with
 |nil=>rfl
 |cons a l ih=>rw[List.map_cons,List.flatten_cons,ih];rfl
theorem JR(a b:Int):vR a b<0<->a<b:=by
 unfold vR;repeat' split
 all_goals omega
theorem XO{V:AW}{l:List (Int×Int)}{B c:Nat}(h0:l≠[])(hl:l.length<=10000)(hB:V.get B=some (.cells (l.flatMap sV))):∃l':List (Int×Int),l'.Perm l/\l'.Pairwise (λa b=>a.1<=b.1)/\aL (.func (.func 78) #[] #[]) [.slice (some ⟨B,0,none⟩) l.length c,.func (.func 198) #[] #[]] V=some (.tuple #[],V.put B (.cells (l'.flatMap sV))):=by
 have hpos:0<l.length:=List.length_pos_iff.2 h0;have hO:OrdN l.length (λi j=>vR (l.getD i (0,0)).1 (l.getD j (0,0)).1):=⟨λi _ h=>by rw[JR]at h;omega,λi j k _ _ _ h1 h2=>by rw[JR]at *;omega,λi j k _ _ _ h1 h2=>by rw[JR]at *;omega⟩;obtain⟨l',e1,e2,e3⟩:=MG l sV (λa b=>decide (a.1<b.1)) hO hpos λi j hi hj=>by rw[JR];simp[List.getD_eq_getElem?_getD,hi,hj]
 refine⟨l',e1,e2.imp λ{a b} h=>by have:=of_decide_eq_false h;omega,yS ?_⟩;refine .inr ⟨B,c,l.map sV,[],198,#[],λi j=>vR (l.getD i (0,0)).1 (l.getD j (0,0)).1,⟨?_,?_,?_,?_,?_,?_,?_,?_,?_,a8D,?_,?_,?_⟩⟩
 ·intro h;have:=congrArg List.length h;rw[List.length_map]at this;simp at this;exact h0 this
 ·rw[List.length_map];omega
 ·intro r hr;obtain⟨e,-,rfl⟩:=List.mem_map.1 hr;rfl
 ·intro r hr v hv;obtain⟨e,-,rfl⟩:=List.mem_map.1 hr;simp only[sV,List.mem_cons,List.not_mem_nil,or_false]at hv;rcases hv with rfl|rfl<;>rfl
 ·rw[List.length_map]
 ·rw[a1a,List.append_nil];exact hB
 ·intro r hr v hv;obtain⟨e,-,rfl⟩:=List.mem_map.1 hr;simp only[sV,List.mem_cons,List.not_mem_nil,or_false]at hv;exact xU (by rcases hv with rfl|rfl<;>rfl)
 ·intro v hv;simp at hv
 ·intro g hg;cases hg
 ·intro i j hi hj;rw[List.length_map]at hi hj;rw[List.getElem_map,List.getElem_map];have e4:∀x:Int×Int,elV true (sV x)=lU x:=λx=>rfl
  rw[e4,e4];refine(VN (a4l _ _ _)).trans ?_;simp[List.getD_eq_getElem?_getD,hi,hj]
 ·rw[List.length_map];exact hO
 ·rw[e3,a1a,List.append_nil]
theorem aCf(W:AW):bE Tryz.prog 32 W=some (.pointer (some ⟨W.next,0,none⟩),W.add (.cells [.slice none 0 0])):=Eq.trans (by kernel_rfl) rfl
theorem a4H{ls:Int×Int->Int×Int->Bool}{n:Nat}{f:Nat->En}{l:List (Int×(Int×Int))}(h:Srt ls n f l):l.length=n:=by rw[h.perm.length_eq,List.length_map,yY]
section
variable {W:AW} {In:Nat->Prop} {H q mh hm:Nat} {seats nx:Int} {n:Nat} {f:Nat->En}
theorem a5l(h:HS W In H q mh hm seats nx n f)(hn:n<=5000):
 ∃W' v,∃l:List (Int×Int),aL (.func (.func 140) #[] #[]) [hP H] W=some (v,W')/\Le W W'/\Lst W.next W' 2 sV v l/\l.Perm (vG n f)/\l.Pairwise (λa b=>a.1<=b.1):=by
 have main:Ok (oK aL (hP H) W) λr=>∃l:List (Int×Int),(l.Perm (vG n f)/\l.Pairwise λa b=>a.1<=b.1)/\Le W r.2/\Lst W.next r.2 2 sV r.1 l:=by
  generalize hW1:W.add (.cells [.slice none 0 0])=W1;have n1:W1.next=W.next+1:=by rw[<-hW1,AW.add_next]
  have l1:Le W W1:=by rw[<-hW1];exact(Le.refl _).add _
  have x1:W1.get W.next=some (.cells [.slice none 0 0]):=by rw[<-hW1];exact AW.get_add _ _
  have h1:HS W1 In H q mh hm seats nx n f:=h.keep l1.next (λb hb _=>l1.get b hb) (λb _ hi=>hi);generalize hW2:W1.add (.cells [qV q])=W2;have n2:W2.next=W1.next+1:=by rw[<-hW2,AW.add_next]
  have l2:Le W1 W2:=by rw[<-hW2];exact(Le.refl _).add _
  have x2:W2.get W.next=some (.cells [.slice none 0 0]):=(l2.get _ (by omega)).trans x1;have y2:W2.get W1.next=some (.cells [qV q]):=by rw[<-hW2];exact AW.get_add _ _
  have h2:QS W2 _ q mh hF lX nx n f:=h1.qs.keep l2.next (λb hb _=>l2.get b hb) (λb _ hi=>hi);have e0:¬seats=0:=by have:=h.sz;omega
  unfold oK;simp only[SX,a3l,aD,Nat.zero_add,h.l0,e0,decide_false,aCf,hW1,h1.l1,a8z,hW2];refine a9K DJ hoLess1_ok (λD=>aAo 132 D) h2 (by omega) y2 (by omega) rfl
   (λl N pre V=>pre<+:l/\W2.next<N/\N<=V.next/\(∀b,b<W.next->V.get b=W.get b)/\∃out,V.get W.next=some (.cells [out])/\Lst N V 2 sV out (pre.map (·.2)))
   (λ_ _=>False) (λR x b=>dR (pW (#[20,21]:Array Tmp).toList [.int .i64 x.1,lU x.2] R) (some 5) (.pointer (some ⟨b,0,none⟩))) ?_ ?_ ?_ ?_ (λ_ _ _ h=>h) ?_ ?_
  ·intro x W';rw[uM];unfold pR;have r21:∀R:Nat->Value,pW (#[20,21]:Array Tmp).toList [.int .i64 x.1,lU x.2] R 21=lU x.2:=λR=>rfl
   have st:=a7w x.2 (AW.get_add W' (.cells [.int .i64 0,.int .i64 0]));rw[SH]at st;simp only[SX,a9D,r21,st]
  ·intro l V hs hle;have hn':=hle.next;rw[AW.add_next]at hn';have hg:∀b,b<W2.next->V.get b=W2.get b:=λb hb=>by rw[hle.get b (by rw[AW.add_next];omega),AW.get_add_ne _ _ (by omega)]
   exact⟨List.nil_prefix,by omega,Nat.le_refl _,λb hb=>by rw[hg b (by omega),l2.get b (by omega),l1.get b hb],_,by rw[hg _ (by omega)];exact x2,.nil _ _ _ _⟩
  ·rintro l N pre V cs ⟨a1,a2,a3,a4,out,a5,a6⟩- -;exact⟨a1,a2,by rw[AW.add_next];omega,λb hb=>by rw[AW.get_add_ne _ _ (by omega)];exact a4 b hb,out,by rw[AW.get_add_ne _ _ (by omega)];exact a5,a6.mono ((Le.refl _).add _)⟩
  ·rintro l N pre V b ⟨a1,a2,a3,a4,out,a5,a6⟩;exact⟨a1,a2,by rw[AW.put_next];omega,λb hb=>by rw[AW.get_put_ne _ _ (by omega)];exact a4 b hb,out,by rw[AW.get_put_ne _ _ (by omega)];exact a5,a0m a6 λb hb1 hb2=>⟨by rw[AW.put_next];exact hb2,AW.get_put_ne _ _ (by omega)⟩⟩
  ·rintro l N pre x V R' bb hR hbb hbN hbV hs hpre ⟨a1,a2,a3,a4,out,a5,a6⟩ b1 b2;have hlen:=hpre.length_le;rw[List.length_append,a4H hs]at hlen;simp only[List.length_cons,List.length_nil]at hlen;rw[uU];unfold pY;obtain⟨v',W4,p1,p2,p3,p4⟩:=a3i (a:=x.2) (b:=V.next) (c:=1) aAN qY a1d (a6.mono ((Le.refl V).add (.cells (sV x.2)))) dI (by rw[List.length_map];omega) (by rw[List.length_map];omega) (by rw[AW.add_next];omega);have p1':bJ Tryz.prog (V.add (.cells [.int .i64 x.2.1,.int .i64 x.2.2])) #[32,32] out (.slice (some ⟨V.next,0,none⟩) 1 1)=some (v',W4):=p1;obtain⟨a,c,rfl⟩:=a2D p2;have g4:∀b,b<N->W4.get b=V.get b:=λb hb=>by rw[p4 b hb,AW.get_add_ne _ _ (by omega)]
   have x4:=(g4 W.next (by omega)).trans a5;have st:=ZP (v:=.slice a (pre.map (·.2)++[x.2]).length c) (o:=0) x4 (by simp) rfl rfl;rw[show([out]:List Value).set 0 (.slice a (pre.map (·.2)++[x.2]).length c)=[.slice a (pre.map (·.2)++[x.2]).length c]from rfl]at st;rw[AW.add_next]at p3;have g5:∀b,b≠W.next->(W4.put W.next (.cells [.slice a (pre.map (·.2)++[x.2]).length c])).get b=W4.get b:=λb hb=>AW.get_put_ne _ _ (Ne.symm hb)
   have x5:(W4.put W.next (.cells [.slice a (pre.map (·.2)++[x.2]).length c])).get W.next=some (.cells [.slice a (pre.map (·.2)++[x.2]).length c]):=AW.get_put _ _ _;have r3:R' 3=.pointer (some ⟨W.next,0,none⟩):=by rw[hR];rfl
   have r5:R' 5=.pointer (some ⟨bb,0,none⟩):=by rw[hR];rfl
   simp only[SX,r3,r5,jE (o:=0) (bU a5) rfl,a7B hbb,aCd,p1',st,aB];refine⟨by rw[AW.put_next];omega,λb hb1 hb2=>by rw[g5 b (by omega)];exact g4 b hb2,.inl ⟨trivial,hpre,a2,by rw[AW.put_next];omega,λb hb=>?_,_,x5,?_⟩⟩
   ·rw[g5 b (by omega),g4 b (by omega)];exact a4 b hb
   ·rw[List.map_append];exact a0m p2 λb hb1 hb2=>⟨by rw[AW.put_next];exact hb2,g5 b (by omega)⟩
  ·rintro l N x V hs hV;rcases hV with⟨rfl,a1,a2,a3,a4,out,a5,a6⟩|⟨-,hV⟩
   ·have gk:∀b,b≠W2.next->(V.kill W2.next).get b=V.get b:=λb hb=>AW.get_kill_ne _ (Ne.symm hb)
    have nk:(V.kill W2.next).next=V.next:=AW.kill_next _ _;generalize V.kill W2.next=U at gk nk;have x5:U.get W.next=some (.cells [out]):=by rw[gk _ (by omega)];exact a5
    have hU:Lst N U 2 sV out (l.map (·.2)):=a0m a6 λb hb1 hb2=>⟨by omega,gk b (by omega)⟩
    have hleU:Le W U:=⟨by omega,λb hb=>by rw[gk b (by omega)];exact a4 b hb⟩;have hpe:(l.map (·.2)).Perm (vG n f):=by have:=hs.perm.map (·.2);rw[List.map_map]at this;exact this
    have hll:(l.map (·.2)).length=n:=by rw[List.length_map,a4H hs]
    generalize l.map (·.2)=l2' at hU hpe hll;by_cases hl0:l2'=[]
    ·subst hl0;have hout:out=.slice none 0 0:=by
      rcases hU with⟨-,e⟩|⟨e,-⟩
      ·exact e
      ·exact absurd rfl e
     subst hout;have hso:aL (.func (.func 78) #[] #[]) [.slice none 0 0,.func (.func 198) #[] #[]] U=some (.tuple #[],U):=yS (.inl ⟨none,0,_,rfl,rfl⟩);simp only[SX,jE (o:=0) (bU x5) rfl,hso,aB];exact⟨[],⟨hpe,.nil⟩,hleU,.nil _ _ _ _⟩
    ·rcases hU with⟨e,-⟩|⟨-,B,b1,b2,rfl,b3⟩
     ·exact absurd e hl0
     ·obtain⟨l3,s1,s2,s3⟩:=XO (V:=U) (c:=bS+2) hl0 (by omega) b3;have x6:(U.put B (.cells (l3.flatMap sV))).get W.next=some (.cells [.slice (some ⟨B,0,none⟩) l2'.length (bS+2)]):=by rw[AW.get_put_ne _ _ (by omega)];exact x5
      simp only[SX,jE (o:=0) (bU x5) rfl,s3,jE (o:=0) (bU x6) rfl,aB];refine⟨l3,⟨s1.trans hpe,s2⟩,⟨by rw[AW.put_next];exact hleU.next,λb hb=>by rw[AW.get_put_ne _ _ (by omega)];exact hleU.get b hb⟩,.inr ⟨λe=>hl0 (by subst e;exact List.nil_perm.1 s1),B,by omega,by rw[AW.put_next];exact b2,by rw[s1.length_eq],AW.get_put _ _ _⟩⟩
   ·exact hV.elim
 obtain⟨⟨v,W'⟩,k0,l,k1,k2⟩:=main;obtain⟨v2,W2,k3,k4,k5⟩:=a4m ⟨(v,W'),k0,k2⟩ zS;exact⟨W2,v2,l,k3,k4,k5,k1.1,k1.2⟩
end
theorem g43:Tryz.prog.eqGuardType Tryz.prog.depth 42=false:=by kernel_rfl
theorem q43(a b a' b':Int):a0e Tryz.prog 8 42 (.agg #[.int .i64 a,.int .i64 b]) (.agg #[.int .i64 a',.int .i64 b'])=VE [(a,a'),(b,b')]:=by kernel_rfl
theorem aBn(x y:Int×Int)(c d:Bool)(W:AW):aH Tryz.prog .neq 42 c d (lU x) (lU y) W=some (.bool (!decide (x=y)),W):=by refine CJ g43 ((q43 ..).trans ?_);rw[NN];congr 1;simp only[List.all_cons,List.all_nil,Bool.and_true];rw[Bool.eq_iff_iff];obtain⟨x1,x2⟩:=x;obtain⟨y1,y2⟩:=y;simp
theorem a1Y{W:AW}{va vb:Value}{l m:List (Int×Int)}(ha:HoL W va l)(hb:HoL W vb m)(hl:l.length<=10000):aL (.func (.func 23) #[] #[]) [va,vb] W=some (.bool (decide (l=m)),W):=by
 refine aN rfl ?_ O1;unfold LG;simp only[SX,ha.len DW,hb.len DW];by_cases hlm:l.length=m.length;case neg=>
  have e1:¬((l.length:Int)=(m.length:Int)):=by omega
  have e2:¬l=m:=λh=>hlm (by rw[h])
  simp only[SX,e1,e2,decide_false,aB];exact⟨trivial,.refl _⟩
 have e1:((l.length:Int)=(m.length:Int)):=by omega
 simp only[SX,e1];refine bF l.length (by omega) (λk R W'=>W'=W/\R 0=va/\R 1=vb/\R 5=.int .i64 (k:Int)/\l.take k=m.take k)
  (λr=>(r.1=.exit 0/\r.2.2=W/\l=m)\/(r.1=.ret/\r.2.2=W/\r.2.1 4=.bool false/\¬l=m)) ⟨rfl,rfl,rfl,rfl,by simp⟩ ?_ ?_ ?_
 ·rintro k R W' hk ⟨rfl,r0,r1,r5,hE⟩;unfold tT;obtain⟨b,o,i1,i2,i3⟩:=HoL.get ha hk;obtain⟨b',o',j1,j2,j3⟩:=HoL.get hb (show k<m.length by omega);have t1:((k:Int)<(l.length:Int)):=by omega
  have t2:=λW'=>aQ (P:=Tryz.prog) (W:=W') (t:=3) (c:=false) (d:=true) (a:=(k:Int)) (b:=1) (by omega) (by omega)
  simp only[SX,r0,r1,r5,ha.len DW,t1,i1,(i3 _ rfl).1,j1,(j3 _ rfl).1,aBn];by_cases h:l[k]=m[k]
  ·simp only[SX,h,t2,aB];refine .inl ⟨trivial,trivial,r0,r1,by rw[show((k+1:Nat):Int)=(k:Int)+1 by omega];rfl,?_⟩;rw[List.take_succ_eq_append_getElem hk,List.take_succ_eq_append_getElem (show k<m.length by omega),hE,h]
  ·simp only[SX,h,decide_false,aB];exact .inr ⟨by simp,.inr ⟨trivial,trivial,rfl,λe=>h (by subst e;rfl)⟩⟩
 ·rintro R W' ⟨rfl,r0,r1,r5,hE⟩;unfold tT;have t1:¬((l.length:Int)<(l.length:Int)):=by omega
  simp only[SX,r0,r1,r5,ha.len DW,t1,aB];refine⟨by simp,.inl ⟨trivial,trivial,?_⟩⟩;rwa [List.take_length,hlm,List.take_length]at hE
 ·rintro⟨x,R,W'⟩ hq;simp only at hq;rcases hq with⟨rfl,rfl,hq⟩|⟨rfl,rfl,r4,hq⟩
  ·simp only[SX,hq,decide_true,aB];exact⟨trivial,.refl _⟩
  ·simp only[SX,r4,hq,decide_false,aB];exact⟨trivial,.refl _⟩
section
variable {W:AW} {In:Nat->Prop} {H q mh hm:Nat} {seats nx:Int} {n:Nat} {f:Nat->En}
end
def aCb(cs:List Value)(p:Nat)(x:Int×Int×Int):Prop:=cs[p]? =some (.int .u8 x.1)/\cs[p+1]? =some (.int .i64 x.2.1)/\cs[p+2]? =some (.int .i64 x.2.2)
abbrev Cas(W:AW)(v:Value)(l:List (Int×Int×Int)):Prop:=Row W 3 aCb v l
theorem Cas.get{W:AW}{v:Value}{l:List (Int×Int×Int)}(h:Cas W v l){i:Nat}(hi:i<l.length):
 ∃b o,(∀W' k,jI 3 v (.int k (i:Int)) W'=some (.pointer (some ⟨b,o,none⟩),W'))/\∀W',Le W W'->aP (.pointer (some ⟨b,o,none⟩)) W'=some (.int .u8 l[i].1,W')/\aP (.pointer (some ⟨b,o+1,none⟩)) W'=some (.int .i64 l[i].2.1,W')/\aP (.pointer (some ⟨b,o+2,none⟩)) W'=some (.int .i64 l[i].2.2,W'):=by
 obtain⟨b,o,cs,h1,h2,h3,h4,h5,h6⟩:=h.elem hi;refine⟨b,o,h1,λW' hle=>?_⟩;have hc:cellsAt W' b=some cs:=by rw[hle.cellsAt h2];exact h3
 exact⟨d9 hc h4,d9 hc h5,d9 hc h6⟩
def VU(a b:Int×Int):Int:=if vR a.2 b.2=0 then vR a.1 b.1 else vR a.2 b.2
theorem PV(a b:Int×Int)(W:AW):nQ (.func (.func 144) #[] #[]) [lU a,lU b] W=some (.int .i64 (VU a b),W)/\(VU a b<0<->lX a b=true)/\(VU a b=0<->a=b):=by
 have key:nQ (.func (.func 144) #[] #[]) [lU a,lU b] W=some (.int .i64 (VU a b),W):=by
  refine aN rfl ?_ AV;unfold sM;have oB:∀(v:Int×Int) W,dK (lU v) W=some (.pointer (some ⟨W.next,0,none⟩),W.add (.cells [.int .i64 v.1,.int .i64 v.2])):=λv W=>fU _
  generalize hW2:(W.add (.cells [.int .i64 a.1,.int .i64 a.2])).add (.cells [.int .i64 b.1,.int .i64 b.2])=W2;have n1:(W.add (.cells [.int .i64 a.1,.int .i64 a.2])).next=W.next+1:=AW.add_next _ _;have xa:W2.get W.next=some (.cells [.int .i64 a.1,.int .i64 a.2]):=by rw[<-hW2,AW.get_add_ne _ _ (by rw[n1];omega)];exact AW.get_add _ _
  have xb:W2.get (W.next+1)=some (.cells [.int .i64 b.1,.int .i64 b.2]):=by rw[<-hW2];have:=(W.add (.cells [.int .i64 a.1,.int .i64 a.2])).get_add (.cells [.int .i64 b.1,.int .i64 b.2]);rwa [n1]at this
  have l2:Le W W2:=by rw[<-hW2];exact((Le.refl _).add _).add _
  have hI:∀x y:Int,Ints (W2.add (.cells [.int .i64 x,.int .i64 y])) (.slice (some ⟨W2.next,0,none⟩) 2 2) [x,y]:=λx y=>LA [x,y] 2 W2
  have ho:=a7W (hI (vR a.2 b.2) (vR a.1 b.1));simp only[SX,oB,n1,hW2,Nat.zero_add,jE (o:=1) (bU xa) rfl,jE (o:=1) (bU xb) rfl,jE (o:=0) (bU xa) rfl,jE (o:=0) (bU xb) rfl,X3,iW,zJ,Bool.and_self,a0p,aAf,ho,aB];exact⟨rfl,l2.add _⟩
 refine⟨key,?_,?_⟩
 ·unfold lX VU vR;simp only[Bool.or_eq_true,Bool.and_eq_true,decide_eq_true_eq];repeat' split
  all_goals omega
 ·rw[Prod.ext_iff];unfold VU vR;repeat' split
  all_goals omega
end Go.Proofs.YtnigceddndemkaaGreatDoor.Ho
namespace Go.Proofs.YtnigceddndemkaaGreatDoor
open Go Go.Eng Go.Hp
set_option maxRecDepth 100000
end Go.Proofs.YtnigceddndemkaaGreatDoor
namespace Go.Proofs.YtnigceddndemkaaGreatDoor.Ho
open Go Go.Eng Go.Hp
set_option maxRecDepth 100000
def Dif(l:List (Int×Int)):Prop:=(l.map (·.1)).Nodup
theorem Dif.perm{l m:List (Int×Int)}(h:Dif l)(hp:m.Perm l):Dif m:=((hp.map (λx:Int×Int=>x.1)).nodup_iff).2 h
theorem Dif.eq{l:List (Int×Int)}(h:Dif l){a b:Int×Int}(ha:a∈l)(hb:b∈l)(e:a.1=b.1):a=b:=by
 unfold Dif at h;rw[List.nodup_iff_pairwise_ne,List.pairwise_map]at h;by_cases hab:a=b
 ·exact hab
 ·obtain⟨i,hi,rfl⟩:=List.mem_iff_getElem.1 ha;obtain⟨j,hj,rfl⟩:=List.mem_iff_getElem.1 hb;rw[List.pairwise_iff_getElem]at h;rcases Nat.lt_trichotomy i j with hij|hij|hij
  ·exact absurd e (h i j hi hj hij)
  ·subst hij;rfl
  ·exact absurd e.symm (h j i hj hi hij)
section
variable {V:AW} {ov bv av:Value} {lo lb la:List (Int×Int)} {R:PlanTab.Fr} {now:Int} {ρ:Type} {K:LT->Option ρ} {G:ρ->Prop}
end
end Go.Proofs.YtnigceddndemkaaGreatDoor.Ho
namespace Go.Proofs.YtnigceddndemkaaGreatDoor
open Go Go.Eng
set_option maxRecDepth 100000
section
variable {α:Type} {z:Nat} {f:α->List Value}
theorem eP(hf:∀a,(f a).length=z){xs:List α}{j:Nat}{x:α}(h:xs[j]? =some x):xs.flatMap f=(xs.take j).flatMap f++(f x++(xs.drop (j+1)).flatMap f)/\((xs.take j).flatMap f).length=j*z:=by obtain⟨hi,e⟩:=List.getElem?_eq_some_iff.1 h;refine⟨?_,by rw[aR hf,List.length_take,Nat.min_eq_left (by omega)]⟩;rw[<-e,<-List.flatMap_cons,<-List.drop_eq_getElem_cons hi,<-List.flatMap_append,List.take_append_drop]
theorem oG(hf:∀a,(f a).length=z){xs:List α}{j o:Nat}{x:α}(h:xs[j]? =some x)(ho:o<z):(xs.flatMap f)[j*z+o]? =(f x)[o]? :=by obtain⟨e1,e2⟩:=eP hf h;rw[e1,<-e2,List.getElem?_append_right (by omega),Nat.add_sub_cancel_left,List.getElem?_append_left (by rw[hf];exact ho)]
theorem QU(hf:∀a,(f a).length=z){xs:List α}{j:Nat}{x:α}(h:xs[j]? =some x):((xs.flatMap f).drop (j*z)).take z=f x:=by obtain⟨e1,e2⟩:=eP hf h;rw[e1,<-e2,List.drop_left,<-hf x,List.take_left]
theorem BX(hf:∀a,(f a).length=z){xs:List α}{j:Nat}{x:α}(h:xs[j]? =some x)(y:α):iX (xs.flatMap f) (j*z) (f y)=(xs.set j y).flatMap f:=by obtain⟨e1,e2⟩:=eP hf h;obtain⟨hi,-⟩:=List.getElem?_eq_some_iff.1 h;have e3:xs.set j y=xs.take j++y::xs.drop (j+1):=List.set_eq_take_append_cons_drop.trans (if_pos hi);unfold iX;rw[e3,List.flatMap_append,List.flatMap_cons,e1,<-e2,List.take_left,hf y,<-hf x,<-List.drop_drop,List.drop_left,List.drop_left,List.append_assoc]
end
theorem gV(x:SeT):(eZ x).length=5:=rfl
theorem a06(x:SeT):(eZ x).all Eng.one=true:=rfl
def a6y(cs:List Value)(p:Nat)(x:SeT):Prop:=cs[p]? =some (.int .i64 x.st)/\cs[p+1]? =some (.int .u32 x.ow)/\cs[p+2]? =some (.int .i64 x.dl)/\cs[p+3]? =some (.int .u64 x.se)/\cs[p+4]? =some (.int .u64 x.ep)
abbrev SeL(W:AW)(v:Value)(l:List SeT):Prop:=Row W 5 a6y v l
theorem SE(x:SeT)(pre post:List Value):a6y (pre++(eZ x++post)) pre.length x:=by
 have:∀i,(pre++(eZ x++post))[pre.length+i]? =(eZ x++post)[i]? :=λi=>by rw[List.getElem?_append_right (by omega),Nat.add_sub_cancel_left]
 exact⟨by have:=this 0;exact this,this 1,this 2,this 3,this 4⟩
theorem Lst.seats{lo:Nat}{W:AW}{v:Value}{l:List SeT}(h:Lst lo W 5 eZ v l):SeL W v l:=h.row gV SE
theorem aAs{cs:List Value}{p:Nat}{x:SeT}(h:a6y cs p x):(cs.drop p).take 5=eZ x:=by obtain⟨h0,h1,h2,h3,h4⟩:=h;obtain⟨i0,e0⟩:=List.getElem?_eq_some_iff.1 h0;obtain⟨i1,e1⟩:=List.getElem?_eq_some_iff.1 h1;obtain⟨i2,e2⟩:=List.getElem?_eq_some_iff.1 h2;obtain⟨i3,e3⟩:=List.getElem?_eq_some_iff.1 h3;obtain⟨i4,e4⟩:=List.getElem?_eq_some_iff.1 h4;rw[List.drop_eq_getElem_cons i0,List.drop_eq_getElem_cons i1,List.drop_eq_getElem_cons i2,List.drop_eq_getElem_cons i3,List.drop_eq_getElem_cons i4,e0,e1,e2,e3,e4];rfl
theorem SeL.get{W:AW}{v:Value}{l:List SeT}(h:SeL W v l){i:Nat}{x:SeT}(hi:l[i]? =some x):∃b o,b<W.next/\(∀W' k,jI 5 v (.int k (i:Int)) W'=some (.pointer (some ⟨b,o,none⟩),W'))/\
 (∀W',Le W W'->eU 5 (.pointer (some ⟨b,o,none⟩)) W'=some (pU x,W'))/\(∀W',Le W W'->aP (.pointer (some ⟨b,o,none⟩)) W'=some (.int .i64 x.st,W')):=by
 obtain⟨hi',e⟩:=List.getElem?_eq_some_iff.1 hi;obtain⟨b,o,cs,h1,h2,h3,h4⟩:=h.elem hi';rw[e]at h4;refine⟨b,o,h2,h1,λW' hle=>?_,λW' hle=>d9 (by rw[hle.cellsAt h2];exact h3) h4.1⟩;rw[AP,hle.cellsAt h2,h3];simp only[Option.bind_some,aAs h4,gV,if_true]
theorem aBg:mD Tryz.prog #[25,25] 5 40=true:=by kernel_rfl
theorem aCy(x:SeT)(W:AW):aV Tryz.prog 25 1 [(0,pU x)] W=some (.slice (some ⟨W.next,0,none⟩) 1 1,W.add (.cells (eZ x))):=Eq.trans (by kernel_rfl) rfl
theorem wO:((#[25]:Array TypeId)[0]?).bind Tryz.prog.underlying=some (.slice 38):=by kernel_rfl
def iK(l:List SeT)(j:Nat):SeT:=l.getD j J5
theorem yA{l:List SeT}{j:Nat}{x:SeT}(h:l[j]? =some x):iK l j=x:=by unfold iK;rw[List.getD_eq_getElem?_getD,h];rfl
theorem kV{l:List SeT}{j:Nat}(h:j<l.length):l[j]? =some (iK l j):=by rw[yA (List.getElem?_eq_getElem h)];exact List.getElem?_eq_getElem h
def cnt(n k i:Nat):Nat:=(n+k-1-i)/k
theorem rF{n k i j:Nat}(hi:i<k):j<cnt n k i<->i+j*k<n:=by unfold cnt;rw[Nat.lt_iff_add_one_le,Nat.le_div_iff_mul_le (by omega),Nat.add_mul,Nat.one_mul];omega
def fD(l:List SeT)(k i:Nat):List SeT:=(List.range (cnt l.length k i)).map λj=>iK l (i+j*k)
theorem iY(l:List SeT)(k i:Nat):(fD l k i).length=cnt l.length k i:=by simp[fD]
theorem pO{l:List SeT}{k i j:Nat}(hi:i<k)(hj:i+j*k<l.length):(fD l k i)[j]? =some (iK l (i+j*k)):=by unfold fD;rw[List.getElem?_map,List.getElem?_range ((rF hi).2 hj)];rfl
theorem DZ(s k:Nat):s % k+s/k*k=s:=by rw[Nat.mul_comm];exact Nat.mod_add_div s k
theorem JS{l:List SeT}{k s:Nat}{x:SeT}(hk:0<k)(hs:l[s]? =some x):(fD l k (s % k))[s/k]? =some x:=by obtain⟨h,-⟩:=List.getElem?_eq_some_iff.1 hs;rw[pO (Nat.mod_lt _ hk) (by rw[DZ];exact h),DZ,yA hs]
theorem CX{l:List SeT}{s j:Nat}{x:SeT}(hs:s<l.length):iK (l.set s x) j=if j=s then x else iK l j:=by
 unfold iK;rw[List.getD_eq_getElem?_getD,List.getD_eq_getElem?_getD,List.getElem?_set];by_cases c:s=j
 ·subst c;rw[if_pos rfl,if_pos hs,if_pos rfl];rfl
 ·rw[if_neg c,if_neg (λe=>c e.symm)]
theorem WK{l:List SeT}{k s i:Nat}(hi:i<k){x:SeT}(hs:s<l.length):fD (l.set s x) k i=if s % k=i then(fD l k i).set (s/k) x else fD l k i:=by
 apply List.ext_getElem?;intro j;have hlen:(fD (l.set s x) k i).length=(fD l k i).length:=by rw[iY,iY,List.length_set]
 by_cases hj:i+j*k<l.length;case neg=>
  have h1:(fD l k i).length<=j:=by rw[iY];have:=(not_congr (rF (n:=l.length) (j:=j) hi)).2 hj;omega
  rw[List.getElem?_eq_none (by omega)];split
  ·rw[List.getElem?_eq_none (by rw[List.length_set];exact h1)]
  ·rw[List.getElem?_eq_none h1]
 rw[pO hi (by rw[List.length_set];exact hj),CX hs];have hkp:0<k:=by omega
 by_cases c:s % k=i
 ·rw[if_pos c,List.getElem?_set];by_cases c2:s/k=j
  ·have:i+j*k=s:=by rw[<-c,<-c2];exact DZ s k
   rw[if_pos this,if_pos c2,if_pos (by rw[iY,c2];exact(rF hi).2 hj)]
  ·have:i+j*k≠s:=λe=>c2 (by rw[<-e,Nat.add_mul_div_right _ _ hkp,Nat.div_eq_of_lt hi,Nat.zero_add])
   rw[if_neg this,if_neg c2,pO hi hj]
 ·have:i+j*k≠s:=λe=>c (by rw[<-e,Nat.add_mul_mod_self_right,Nat.mod_eq_of_lt hi])
  rw[if_neg this,if_neg c,pO hi hj]
theorem a1y{l:List SeT}{k i:Nat}(hi:i<k)(x:SeT):fD (l++[x]) k i=if l.length % k=i then fD l k i++[x]else fD l k i:=by
 have hkp:0<k:=by omega
 have key:∀j,i+j*k=l.length<->l.length % k=i/\j=l.length/k:=λj=>by
  constructor
  ·intro e;rw[<-e,Nat.add_mul_mod_self_right,Nat.mod_eq_of_lt hi,Nat.add_mul_div_right _ _ hkp,Nat.div_eq_of_lt hi,Nat.zero_add];exact⟨rfl,rfl⟩
  ·rintro⟨h1,h2⟩;rw[<-h1,h2];exact DZ _ _
 have hst:∀j,j<l.length->iK (l++[x]) j=iK l j:=λj hj=>by have:=kV hj;exact yA (by rw[List.getElem?_append_left hj];exact this)
 apply List.ext_getElem?;intro j;by_cases h1:i+j*k<l.length
 ·rw[pO hi (by simp;omega),hst _ h1];split
  ·rw[List.getElem?_append_left (by rw[iY];exact(rF hi).2 h1),pO hi h1]
  ·rw[pO hi h1]
 ·have h2:(fD l k i).length<=j:=by rw[iY];have:=(not_congr (rF (n:=l.length) (j:=j) hi)).2 h1;omega
  by_cases h3:i+j*k=l.length
  ·obtain⟨a1,a2⟩:=(key j).1 h3;have hl:(fD l k i).length=j:=by rw[iY];apply Nat.le_antisymm (by rw[iY]at h2;exact h2);apply Nat.le_of_not_lt;intro h4;have:=(not_congr (rF (n:=l.length) (j:=cnt l.length k i) hi)).1 (Nat.lt_irrefl _);have h5:(cnt l.length k i+1)*k<=j*k:=Nat.mul_le_mul_right _ h4;rw[Nat.add_mul,Nat.one_mul]at h5;omega
   rw[if_pos a1,pO hi (by simp;omega),h3,yA (l:=l++[x]) (j:=l.length) (x:=x) (by simp),<-hl];simp
  ·have h4:¬i+j*k<(l++[x]).length:=by simp;omega
   rw[List.getElem?_eq_none (by rw[iY];have:=(not_congr (rF (n:=(l++[x]).length) (j:=j) hi)).2 h4;omega)];split
   ·rename_i a1;rw[List.getElem?_eq_none];rw[List.length_append];rcases Nat.lt_or_ge (fD l k i).length j with h5|h5
    ·simp;omega
    ·exfalso;have h6:(fD l k i).length=j:=by omega
     rw[iY]at h6;have h7:=DZ l.length k;rw[a1]at h7;have h8:¬l.length/k<cnt l.length k i:=(not_congr (rF hi)).2 (by omega);have h9:l.length/k<=j:=by apply Nat.le_of_not_lt;intro h9;have:=(not_congr (rF (n:=l.length) (j:=j) hi)).1 (by omega);have h10:(j+1)*k<=l.length/k*k:=Nat.mul_le_mul_right _ h9;rw[Nat.add_mul,Nat.one_mul]at h10;omega
     have h10:j<=l.length/k:=by omega
     have:j=l.length/k:=by omega
     exact h3 ((key j).2 ⟨a1,this⟩)
   ·rw[List.getElem?_eq_none h2]
def sW(l:List SeT)(p:Nat->Bool)(j:Nat):Bool:=p j&&decide ((iK l j).st=1)
def FB(l:List SeT)(j:Nat):Int×Int:=((j:Int),(iK l j).dl)
def bV(l:List SeT)(p:Nat->Bool):List (Int×Int):=((List.range l.length).filter (sW l p)).map (FB l)
theorem kQ{l:List SeT}{p:Nat->Bool}{e:Int×Int}:e∈bV l p<->∃j,j<l.length/\p j=true/\(iK l j).st=1/\e=FB l j:=by
 unfold bV sW;simp only[List.mem_map,List.mem_filter,List.mem_range,Bool.and_eq_true,decide_eq_true_eq];constructor
 ·rintro⟨j,⟨h1,h2,h3⟩,h4⟩;exact⟨j,h1,h2,h3,h4.symm⟩
 ·rintro⟨j,h1,h2,h3,h4⟩;exact⟨j,⟨h1,h2,h3⟩,h4.symm⟩
theorem qB(l:List SeT)(p:Nat->Bool):(bV l p).length<=l.length:=by unfold bV;rw[List.length_map];have:=List.length_filter_le (sW l p) (List.range l.length);rwa [List.length_range]at this
theorem MP(l:List SeT)(p:Nat->Bool):(bV l p).Nodup:=by unfold bV;refine List.Pairwise.map (R:=λa b:Nat=>a≠b) (FB l) ?_ (List.nodup_range.filter _);intro a b h e;unfold FB at e;injection e with e1 e2;omega
theorem NJ{l m:List SeT}{p:Nat->Bool}(hl:l.length=m.length)(h:∀j,j<l.length->p j=true->iK l j=iK m j):bV l p=bV m p:=by
 unfold bV;rw[hl];have e:(List.range m.length).filter (sW l p)=(List.range m.length).filter (sW m p):=List.filter_congr λj hj=>by
  unfold sW;cases hp:p j
  ·rfl
  ·rw[h j (by rw[hl];exact List.mem_range.1 hj) hp]
 rw[e];refine List.map_congr_left λj hj=>?_
 obtain⟨h1,h2⟩:=List.mem_filter.1 hj;unfold sW at h2;unfold FB;rw[h j (by rw[hl];exact List.mem_range.1 h1) (by revert h2;cases p j<;>simp)]
theorem KE{l:List SeT}{p:Nat->Bool}{s:Nat}(hs:s<l.length)(hp:p s=true):
 (bV l p).Perm (if(iK l s).st=1 then FB l s::bV l (λj=>p j&& !(j==s))else bV l (λj=>p j&& !(j==s))):=by
 have h0:(List.range l.length).Perm (s::(List.range l.length).erase s):=List.perm_cons_erase (List.mem_range.2 hs);have e1:∀q:Nat->Bool,(bV l q).Perm (((s::(List.range l.length).erase s).filter (sW l q)).map (FB l)):=λq=>(h0.filter _).map _
 have e2:((List.range l.length).erase s).filter (sW l p)=((List.range l.length).erase s).filter (sW l λj=>p j&& !(j==s)):=List.filter_congr λj hj=>by
  have:j≠s:=λe=>by subst e;exact absurd hj (List.Nodup.not_mem_erase List.nodup_range)
  have h2:(j==s)=false:=beq_false_of_ne this;unfold sW;simp only[h2,Bool.not_false,Bool.and_true]
 have e3:=e1 p;have e4:=e1 λj=>p j&& !(j==s)
 have b2:sW l (λj=>p j&& !(j==s)) s=false:=by unfold sW;simp
 rw[List.filter_cons_of_neg (by rw[b2];simp)]at e4;by_cases c:(iK l s).st=1
 ·rw[if_pos c];have b1:sW l p s=true:=by unfold sW;rw[hp,decide_eq_true c];rfl
  rw[List.filter_cons_of_pos b1,e2,List.map_cons]at e3;exact e3.trans (List.Perm.cons _ e4.symm)
 ·rw[if_neg c];have b1:sW l p s=false:=by unfold sW;rw[decide_eq_false c,Bool.and_false]
  rw[List.filter_cons_of_neg (by rw[b1];simp),e2]at e3;exact e3.trans e4.symm
theorem a2E(l:List SeT)(x:SeT)(p:Nat->Bool):bV (l++[x]) p=bV l p++(if p l.length=true/\x.st=1 then [((l.length:Int),x.dl)]else []):=by
 have hst:∀j,j<l.length->iK (l++[x]) j=iK l j:=λj hj=>by have:=kV hj;exact yA (by rw[List.getElem?_append_left hj];exact this)
 have hx:iK (l++[x]) l.length=x:=yA (by simp);unfold bV;rw[List.length_append,List.length_singleton,List.range_succ,List.filter_append,List.map_append];congr 1
 ·have e:(List.range l.length).filter (sW (l++[x]) p)=(List.range l.length).filter (sW l p):=List.filter_congr λj hj=>by unfold sW;rw[hst j (List.mem_range.1 hj)]
  rw[e];refine List.map_congr_left λj hj=>?_
  unfold FB;rw[hst j (List.mem_range.1 (List.mem_filter.1 hj).1)]
 ·have e:sW (l++[x]) p l.length=(p l.length&&decide (x.st=1)):=by unfold sW;rw[hx]
  by_cases c:p l.length=true/\x.st=1
  ·rw[if_pos c,List.filter_cons_of_pos (by rw[e,c.1,decide_eq_true c.2];rfl)];show [((l.length:Int),(iK (l++[x]) l.length).dl)]=_;rw[hx]
  ·rw[if_neg c,List.filter_cons_of_neg (by rw[e];simpa using c)];rfl
theorem BB:((#[22]:Array TypeId)[0]?).bind Tryz.prog.underlying=some (.slice 130):=by kernel_rfl
def qG(n lo hi:Int):Bool:=decide (n<lo)||decide (hi<n)
theorem p9(n lo hi:Int)(W:AW):aL (.func (.func 187) #[] #[]) [.int .i64 n,.int .i64 lo,.int .i64 hi] W=some (.bool (qG n lo hi),W):=by
 have h:oV aL (.int .i64 n) (.int .i64 lo) (.int .i64 hi) W=some (.bool (qG n lo hi),W):=by unfold oV qG;by_cases h:n<lo<;>simp only[SX,h,Bool.true_or,Bool.false_or]
 rw[zO h,TD (.refl _)]
theorem wX(n lo hi:Int)(W:AW):aL (.func (.func 188) #[] #[]) [.int .i64 n,.int .i64 lo,.int .i64 hi] W=some (.bool (qG n lo hi),W):=by
 have h:l9 aL (.int .i64 n) (.int .i64 lo) (.int .i64 hi) W=some (.bool (qG n lo hi),W):=by unfold l9 qG;by_cases h:n<lo<;>simp only[SX,h,Bool.true_or,Bool.false_or]
 rw[wZ h,TD (.refl _)]
def inB(n lo hi:Int):Bool:=decide (lo<=n)&&decide (n<=hi)
theorem a7b{a b:Value}{la lb:List Int}{W:AW}(ha:Ints W a la)(hb:Ints W b lb)(hl:la.length<900000):aL (.func (.func 33) #[] #[]) [a,b] W=some (.bool (decide (la=lb)),W):=by
 refine aN rfl ?_ O6;unfold LF;simp only[SX,ha.len FC,hb.len FC];by_cases hlen:la.length=lb.length
 ·have e:((la.length:Int)=(lb.length:Int)):=by omega
  simp only[SX,e];refine bF la.length (by omega) (λk R W'=>W'=W/\R 0=a/\R 1=b/\R 5=.int .i64 (k:Int)/\la.take k=lb.take k)
   (λr=>r.2.2=W/\((r.1=.exit 0/\la=lb)\/(r.1=.ret/\r.2.1 4=.bool false/\la≠lb))) ⟨rfl,rfl,rfl,rfl,rfl⟩ ?_ ?_ ?_
  ·rintro k R W' hk ⟨rfl,h0,h1,h5,ht⟩;unfold tV;obtain⟨p,p1,p2⟩:=ha.get hk;obtain⟨q,q1,q2⟩:=hb.get (i:=k) (by omega);have e1:((k:Int)<(la.length:Int)):=by omega
   simp only[SX,h0,h1,h5,ha.len FC,e1,p1,p2 _ (.refl _),q1,q2 _ (.refl _)];by_cases hx:la[k]=lb[k]'(by omega)
   ·have e2:(k:Int)+1=((k+1:Nat):Int):=by omega
    simp only[SX,hx,aQ (show -9223372036854775808<=(k:Int)+1 by omega) (show(k:Int)+1<9223372036854775808 by omega),aB];refine .inl ⟨trivial,trivial,h0,h1,by rw[<-e2];rfl,?_⟩;rw[List.take_succ_eq_append_getElem hk,List.take_succ_eq_append_getElem (by omega),ht,hx]
   ·simp only[SX,hx,decide_false,aB];refine .inr ⟨by simp,trivial,.inr ⟨trivial,rfl,λe=>hx (by simp only[e])⟩⟩
  ·rintro R W' ⟨rfl,h0,h1,h5,ht⟩;unfold tV;have e1:¬((la.length:Int)<(la.length:Int)):=by omega
   simp only[SX,h0,h1,h5,ha.len FC,e1,aB];refine⟨by simp,trivial,.inl ⟨trivial,?_⟩⟩;rw[List.take_length]at ht;rw[ht,hlen,List.take_length]
  ·rintro⟨x,R,W'⟩ ⟨hW,h⟩;simp only at hW h;subst hW;rcases h with⟨rfl,h⟩|⟨rfl,h4,h⟩
   ·simp only[SX,aB,h];exact⟨trivial,.refl _⟩
   ·simp only[SX,aB,h4,h];exact⟨trivial,.refl _⟩
 ·have e:¬((la.length:Int)=(lb.length:Int)):=by omega
  have e2:la≠lb:=λh=>hlen (by rw[h])
  simp only[SX,e,e2,aB];exact⟨trivial,.refl _⟩
theorem un9:Tryz.prog.underlying 9=some .string:=by kernel_rfl
theorem LM:((#[9]:Array TypeId)[0]?).bind Tryz.prog.underlying=some .string:=by kernel_rfl
def kX(l:List UInt8):List Value:=(List.range 256).map λi=>.bool (l.any λc=>c.toNat==i)
theorem kS(l:List UInt8):(kX l).length=256:=by simp[kX]
theorem MJ(l:List UInt8){i:Nat}(h:i<256):(kX l)[i]? =some (.bool (l.any λc=>c.toNat==i)):=by simp[kX,h]
theorem XZ(l:List UInt8):(kX l).all Eng.one=true:=by unfold kX;rw[List.all_map,List.all_eq_true];intro x _;rfl
theorem ZT(l:List UInt8):(aX (.tuple #[.agg (kX l).toArray,.bool true])&& !isU (.tuple #[.agg (kX l).toArray,.bool true]))=true:=by
 have h:jA (.agg (kX l).toArray)=true:=by show(kX l).toArray.toList.all bW=true;unfold kX;rw[List.toList_toArray,List.all_map,List.all_eq_true];intro x _;rfl
 have h2:aX (.tuple #[.agg (kX l).toArray,.bool true])=true:=by show(jA (.agg (kX l).toArray)&&(jA (.bool true)&&true))=true;rw[h];rfl
 rw[h2];rfl
theorem a3b(l:List UInt8)(c:UInt8):(kX l).set c.toNat (.bool true)=kX (l++[c]):=by
 apply List.ext_getElem?;intro i;by_cases hi:i<256
 ·rw[List.getElem?_set,MJ _ hi,MJ _ hi,kS];by_cases hc:c.toNat=i
  ·rw[if_pos hc,if_pos (by omega)];simp[hc]
  ·rw[if_neg hc];have:(c.toNat==i)=false:=by simpa using hc
   simp[this]
 ·rw[List.getElem?_eq_none (by rw[List.length_set,kS];omega),List.getElem?_eq_none (by rw[kS];omega)]
theorem a8a(W:AW):bE Tryz.prog 398 W=some (.pointer (some ⟨W.next,0,none⟩),W.add (.cells (kX []))):=Eq.trans (by kernel_rfl) rfl
theorem aAe(x:Value)(W:AW):wV Tryz.prog 398 x W=eU 256 x W:=by kernel_rfl
theorem PN{b:Nat}{l:List UInt8}{W:AW}(hb:cellsAt W b=some (kX l))(c:UInt8):aL (.func (.func 327) #[] #[]) [.pointer (some ⟨b,0,none⟩),.int .u8 (c.toNat:Int)] W=some (.bool (l.any λx=>x==c),W):=by refine aN rfl ?_ qJ;unfold kD;have hc:c.toNat<256:=c.toNat_lt;simp only[SX,aD,a3D hc,a8q,hb,Option.bind_some,Nat.mul_one,Nat.zero_add,MJ l hc,Option.map_some,aB];refine⟨?_,.refl _⟩;congr 2;funext x;rw[Bool.eq_iff_iff];simp[UInt8.toNat_inj]
theorem a4t{l:List UInt8}(hl:l.length<1000)(ha:∀c∈l,c.toNat<128)(W:AW):aL (.func (.func 305) #[] #[]) [.string (aM l)] W=some (.tuple #[.agg (kX l).toArray,.bool true],W):=by
 refine aN (ZT l) ?_ uK;unfold pI;simp only[SX,a8a];refine bF l.length (by omega) (λk R W'=>R 0=.string (aM l)/\R 2=.pointer (some ⟨W.next,0,none⟩)/\R 4=.int .i64 (k:Int)/\rwCells W' W.next=some (kX (l.take k))/\Le W W')
  (λr=>r.1=.exit 0/\r.2.1 2=.pointer (some ⟨W.next,0,none⟩)/\rwCells r.2.2 W.next=some (kX l)/\Le W r.2.2) ⟨rfl,rfl,rfl,dQ,(Le.refl _).add _⟩ ?_ ?_ ?_
 ·rintro k R W' hk ⟨h0,h2,h4,hb,hle⟩;unfold iJ;have hc:l[k].toNat<128:=ha _ (List.getElem_mem hk);have e1:((k:Int)<(l.length:Int)):=by omega
  have e2:¬(128:Int)<=(l[k].toNat:Int):=by omega
  simp only[SX,h0,h2,h4,mR LM,e1,yZ un9 hk,e2,a3D (show l[k].toNat<256 by omega),a4I,hb,Option.bind_some,Nat.mul_one,Nat.zero_add,kS,show l[k].toNat<256 by omega,if_true,a3b,
   aQ (show -9223372036854775808<=(k:Int)+1 by omega) (show(k:Int)+1<9223372036854775808 by omega),aB];have e2:(k:Int)+1=((k+1:Nat):Int):=by omega
  refine .inl ⟨trivial,h0,h2,by rw[<-e2];rfl,?_,hle.put (Nat.le_refl _) _⟩;rw[fH,<-List.take_append_getElem hk]
 ·rintro R W' ⟨h0,h2,h4,hb,hle⟩;unfold iJ;have e1:¬((l.length:Int)<(l.length:Int)):=by omega
  simp only[SX,h0,h2,h4,mR LM,e1,aB];rw[List.take_length]at hb;exact⟨by simp,trivial,h2,hb,hle⟩
 ·rintro⟨x,R,W'⟩ ⟨rfl,h2,hb,hle⟩;simp only at h2 hb hle;have h1:=a7s hb (XZ l);rw[kS]at h1;have h3:=zA (eH hb) (kS l);have h4:=zA (W:=W'.put W.next (.cells (kX l))) (IU _) (kS l);simp only[SX,h2,h3,h1,kP,aAe,h4,Option.bind_some,aB];exact⟨trivial,hle.put (Nat.le_refl _) _⟩
def xW(p:UInt8->Bool)(l:List UInt8):List UInt8:=(l.reverse.dropWhile p).reverse
theorem DU{p:UInt8->Bool}:∀{l:List UInt8} {k:Nat},(∀c∈l.take k,p c=true)->(l.drop k).dropWhile p=l.dropWhile p
 |l,0,_=>by simp
 |[],k+1,_=>by simp
 |c::l,k+1,h=>by have hc:p c=true:=h c (by simp);rw[List.drop_succ_cons,List.dropWhile_cons,if_pos hc];exact DU λd hd=>h d (by simp[hd])
abbrev nP(S:List UInt8)(c:UInt8):Bool:=S.any λx=>x==c
theorem a3v{b:Nat}{S l:List UInt8}{W:AW}(hb:cellsAt W b=some (kX S))(hl:l.length<1000):aL (.func (.func 306) #[] #[]) [.string (aM l),.pointer (some ⟨b,0,none⟩)] W=some (.string (aM (l.dropWhile (nP S))),W):=by
 refine aN rfl ?_ tX;unfold nZ;simp only[SX];refine bF l.length (by omega) (λk R W'=>W'=W/\R 0=.string (aM (l.drop k))/\R 1=.pointer (some ⟨b,0,none⟩)/\∀c∈l.take k,nP S c=true)
  (λr=>r.2.2=W/\r.1=.exit 0/\r.2.1 0=.string (aM (l.dropWhile (nP S)))) ⟨rfl,rfl,rfl,by simp⟩ ?_ ?_ ?_
 ·rintro k R W' hk ⟨rfl,h0,h1,ha⟩;unfold gN;have hd:l.drop k=l[k]::l.drop (k+1):=List.drop_eq_getElem_cons hk;have e1:(0:Int)<((l.drop k).length:Int):=by rw[List.length_drop];omega
  have e0:jR Tryz.prog 9 (.string (aM (l.drop k))) (.int .i64 0) W'=some (.int .u8 (l[k].toNat:Int),W'):=by have:=yZ (P:=Tryz.prog) (W:=W') (k:=.i64) un9 (l:=l.drop k) (i:=0) (by rw[List.length_drop];omega);simpa using this
  have e3:bM Tryz.prog 9 (.string (aM (l.drop k))) (some (.int .i64 1)) none none W'=some (.string (aM (l.drop (k+1))),W'):=by have:=a5K (P:=Tryz.prog) (W:=W') (k:=.i64) un9 (l:=l.drop k) (a:=1) (by rw[List.length_drop];omega);rw[List.drop_drop]at this;exact this
  simp only[SX,h0,h1,mR LM,e1,e0,PN hb,e3];cases hp:nP S l[k]
  ·simp only[SX,show(S.any λx=>x==l[k])=false from hp,aB];refine .inr ⟨by simp,trivial,trivial,?_⟩;show R 0=_;rw[h0,<-DU ha,hd,List.dropWhile_cons,hp];rfl
  ·simp only[SX,show(S.any λx=>x==l[k])=true from hp,aB];refine .inl ⟨trivial,trivial,rfl,h1,?_⟩;rw[<-List.take_append_getElem hk];intro c hc;rcases List.mem_append.1 hc with h|h
   ·exact ha c h
   ·rw[List.mem_singleton.1 h];exact hp
 ·rintro R W' ⟨rfl,h0,h1,ha⟩;unfold gN;rw[List.drop_length]at h0;have e1:¬(0:Int)<(([]:List UInt8).length:Int):=by simp
  simp only[SX,h0,h1,mR LM,e1,aB];refine⟨by simp,trivial,trivial,?_⟩;show R 0=_;rw[h0,<-DU ha,List.drop_length];rfl
 ·rintro⟨x,R,W'⟩ ⟨hW,hx,h0⟩;simp only at hW hx h0;subst hW hx;simp only[SX,aB,h0];exact⟨trivial,.refl _⟩
theorem K9{p:UInt8->Bool}{l:List UInt8}{n:Nat}(h:∀c∈l.drop n,p c=true):xW p (l.take n)=xW p l:=by
 unfold xW;have h2:l.reverse=(l.drop n).reverse++(l.take n).reverse:=by rw[<-List.reverse_append,List.take_append_drop]
 have h3:=DU (p:=p) (l:=l.reverse) (k:=(l.drop n).reverse.length) (by rw[h2,List.take_left];intro c hc;exact h c (List.mem_reverse.1 hc));rw[<-h3,h2,List.drop_left]
theorem a5E{b:Nat}{S l:List UInt8}{W:AW}(hb:cellsAt W b=some (kX S))(hl:l.length<1000):aL (.func (.func 307) #[] #[]) [.string (aM l),.pointer (some ⟨b,0,none⟩)] W=some (.string (aM (xW (nP S) l)),W):=by
 refine aN rfl ?_ sU;unfold lZ;simp only[SX];refine bF l.length (by omega) (λk R W'=>W'=W/\R 0=.string (aM (l.take (l.length-k)))/\R 1=.pointer (some ⟨b,0,none⟩)/\∀c∈l.drop (l.length-k),nP S c=true)
  (λr=>r.2.2=W/\r.1=.exit 0/\r.2.1 0=.string (aM (xW (nP S) l))) ⟨rfl,by simp;rfl,rfl,by simp⟩ ?_ ?_ ?_
 ·rintro k R W' hk ⟨rfl,h0,h1,ha⟩;unfold gG;obtain⟨m,hm⟩:∃m,l.length-k=m+1:=⟨l.length-k-1,by omega⟩;have hm2:l.length-(k+1)=m:=by omega
  have hml:m<l.length:=by omega
  rw[hm]at h0 ha;have hlen:(l.take (m+1)).length=m+1:=by rw[List.length_take];omega
  have e1:(0:Int)<(((m+1:Nat):Int)):=by omega
  have e2:((m+1:Nat):Int)-1=(m:Int):=by omega
  have e0:jR Tryz.prog 9 (.string (aM (l.take (m+1)))) (.int .i64 (m:Int)) W'=some (.int .u8 (l[m].toNat:Int),W'):=by have:=yZ (P:=Tryz.prog) (W:=W') (k:=.i64) un9 (l:=l.take (m+1)) (i:=m) (by rw[List.length_take];omega);simpa using this
  have e3:bM Tryz.prog 9 (.string (aM (l.take (m+1)))) none (some (.int .i64 (m:Int))) none W'=some (.string (aM (l.take m)),W'):=by have:=a9z (P:=Tryz.prog) (W:=W') (k:=.i64) un9 (l:=l.take (m+1)) (a:=m) (by rw[List.length_take];omega);rw[List.take_take,Nat.min_eq_left (by omega)]at this;exact this
  have es:=uL (P:=Tryz.prog) (W:=W') (t:=3) (c:=false) (d:=true) (a:=((m+1:Nat):Int)) (b:=1) (by omega) (by omega);rw[e2]at es;simp only[SX,h0,h1,mR LM,hlen,e1,es,e0,PN hb,e3];cases hp:nP S l[m]
  ·simp only[SX,show(S.any λx=>x==l[m])=false from hp,aB];refine .inr ⟨by simp,trivial,trivial,?_⟩;show R 0=_;rw[h0,<-K9 ha,<-List.take_append_getElem hml];unfold xW;rw[List.reverse_append,List.reverse_singleton,List.singleton_append,List.dropWhile_cons,hp];simp
  ·simp only[SX,show(S.any λx=>x==l[m])=true from hp,aB];refine .inl ⟨trivial,trivial,by rw[hm2];rfl,h1,?_⟩;rw[hm2,List.drop_eq_getElem_cons hml];intro c hc;rcases List.mem_cons.1 hc with h|h
   ·rw[h];exact hp
   ·exact ha c h
 ·rintro R W' ⟨rfl,h0,h1,ha⟩;unfold gG;rw[Nat.sub_self,List.take_zero]at h0;rw[Nat.sub_self,List.drop_zero]at ha;have e1:¬(0:Int)<(([]:List UInt8).length:Int):=by simp
  simp only[SX,h0,h1,mR LM,e1,aB];refine⟨by simp,trivial,trivial,?_⟩;show R 0=_;rw[h0,<-K9 (n:=0) (by simpa using ha)];rfl
 ·rintro⟨x,R,W'⟩ ⟨hW,hx,h0⟩;simp only at hW hx h0;subst hW hx;simp only[SX,aB,h0];exact⟨trivial,.refl _⟩
theorem GY{p:UInt8->Bool}:∀{l:List UInt8},l.dropWhile p=[]<->∀c∈l,p c=true
 |[]=>by simp
 |c::l=>by
  rw[List.dropWhile_cons];cases hp:p c
  ·simp[hp]
  ·simp[hp,GY]
theorem a3I{p:UInt8->Bool}{l:List UInt8}:(((xW p l).dropWhile p)==[])=l.all p:=by
 rw[Bool.eq_iff_iff,beq_iff_eq,GY,List.all_eq_true];unfold xW;constructor
 ·intro h;have h2:l.reverse.dropWhile p=[]:=by
   cases hd:l.reverse.dropWhile p with
   |nil=>rfl
   |cons x xs=>have:=List.head_dropWhile_not (p:=p) (l:=l.reverse) (by rw[hd];simp);rw[hd]at h;have h3:=h x (by simp);simp only[hd,List.head_cons]at this;rw[h3]at this;cases this
  rw[GY]at h2;exactλc hc=>h2 c (List.mem_reverse.2 hc)
 ·intro h c hc;exact h c (by have:=List.mem_reverse.1 hc;have:=(List.dropWhile_sublist p).subset this;exact List.mem_reverse.1 this)
def charsN:List Nat:=[97,98,99,100,101,102,103,104,105,106,107,108,109,110,111,112,113,114,115,116,117,118,119,120,121,122,48,49,50,51,52,53,54,55,56,57,45]
def charsL:List UInt8:=charsN.map UInt8.ofNat
theorem a2J:∀n,n<256->nP charsL (UInt8.ofNat n)=a1b (UInt8.ofNat n):=by decide+kernel
theorem Y5(c:UInt8):nP charsL c=a1b c:=by have:=a2J c.toNat c.toNat_lt;rwa [UInt8.ofNat_toNat]at this
theorem a6M{l:List UInt8}(hl:l.length<1000)(h0:l≠[])(W:AW):aL (.func (.func 271) #[] #[]) [.string (aM l),JD charsN] W=some (.string (aM ((xW (nP charsL) l).dropWhile (nP charsL))),W):=by
 refine aN rfl ?_ JF;unfold D5;have hs:=a4t (l:=charsL) (by decide) (by decide+kernel) W;have e1:(l==[])=false:=by simpa using h0
 have e2:(charsL==[])=false:=by decide+kernel
 have e3:¬((charsL.length:Int)=1):=by decide+kernel
 have hz:(kX []).length=256:=kS [];have hst:fZ 256 (.pointer (some ⟨W.next,0,none⟩)) (.agg (kX charsL).toArray) (W.add (.cells (kX [])))=some (undef,(W.add (.cells (kX []))).put W.next (.cells (kX charsL))):=by rw[DF,dQ];simp only[Option.bind_some,List.size_toArray,kS,Nat.zero_add,Nat.le_refl,XZ,and_self,if_true,iX,List.take_zero,List.nil_append];rw[List.drop_of_length_le (by simp[kS]),List.append_nil]
 have hc:cellsAt ((W.add (.cells (kX []))).put W.next (.cells (kX charsL))) W.next=some (kX charsL):=IU _;have hr:=a5E (l:=l) hc hl;have hlt:(xW (nP charsL) l).length<1000:=by have:=(List.dropWhile_sublist (nP charsL) (l:=l.reverse)).length_le;unfold xW;rw[List.length_reverse];rw[List.length_reverse]at this;omega
 have hL:=a3v hc hlt;show Ok _ _;rw[AU];change aL (.func (.func 305) #[] #[]) [.string (aM (charsN.map UInt8.ofNat))] W=_ at hs;simp only[SX,AU,List.map_nil,wE,e1,mR LM];simp only[SX,show(charsN.map UInt8.ofNat==[])=false from e2,show¬(((charsN.map UInt8.ofNat).length:Int)=1)from e3,hs,a8a,hst,hr,hL,aB];exact⟨trivial,((Le.refl _).add _).put (Nat.le_refl _) _⟩
theorem vN(l:List UInt8)(W:AW):aL (.func (.func 233) #[] #[]) [.string (aM l)] W=some (.bool (IG l),W):=by
 refine aN rfl ?_ O5;unfold NP;cases l with
 |nil=>simp only[SX,AU,List.map_nil,wE,BEq.rfl,aB];exact⟨rfl,.refl _⟩
 |cons c l=>
  have e1:(c::l==[])=false:=rfl;have e0:jR Tryz.prog 9 (.string (aM (c::l))) (.int .i64 0) W=some (.int .u8 (c.toNat:Int),W):=by have:=yZ (P:=Tryz.prog) (W:=W) (k:=.i64) un9 (l:=c::l) (i:=0) (by simp);simpa using this
  by_cases h1:(16:Int)<(((c::l).length:Nat):Int)
  ·simp only[SX,AU,List.map_nil,wE,e1,mR LM,h1,aB];refine⟨?_,.refl _⟩;have:decide ((c::l).length<=16)=false:=by simpa using(by omega:¬((c::l).length<=16))
   simp only[IG,this,Bool.and_false,Bool.false_and]
  ·have h16:decide ((c::l).length<=16)=true:=by simpa using(by omega:((c::l).length<=16))
   by_cases h2:(c.toNat:Int)<97
   ·simp only[SX,AU,List.map_nil,wE,e1,mR LM,h1,e0,h2,aB];refine⟨?_,.refl _⟩;have:decide (97<=c.toNat)=false:=by simpa using(by omega:¬(97<=c.toNat))
    simp only[IG,this,Bool.and_false,Bool.false_and]
   ·by_cases h3:(122:Int)<(c.toNat:Int)
    ·simp only[SX,AU,List.map_nil,wE,e1,mR LM,h1,e0,h2,h3,aB];refine⟨?_,.refl _⟩;have:decide (c.toNat<=122)=false:=by simpa using(by omega:¬(c.toNat<=122))
     simp only[IG,this,Bool.and_false,Bool.false_and]
    ·have ht:=a6M (l:=c::l) (by omega) (by simp) W;have hv:(JD [97,98,99,100,101,102,103,104,105,106,107,108,109,110,111,112,113,114,115,116,117,118,119,120,121,122,48,49,50,51,52,53,54,55,56,57,45])=JD charsN:=rfl;rw[hv];simp only[SX,AU [],List.map_nil,wE,e1,mR LM,h1,e0,h2,h3,ht,a3I,aB];refine⟨?_,.refl _⟩;have i1:decide (97<=c.toNat)=true:=by simpa using(by omega:(97<=c.toNat))
     have i2:decide (c.toNat<=122)=true:=by simpa using(by omega:(c.toNat<=122))
     have i3:nP charsL=a1b:=funext Y5;simp only[IG,i1,i2,i3,h16,Bool.true_and]
def aDm(c:UInt8):Bool:=decide (97<=c.toNat)&&decide (c.toNat<=122)
def aDe(c:UInt8):Bool:=decide (48<=c.toNat)&&decide (c.toNat<=57)
structure Sec where
 name:List UInt8
 rows:List Int
 q:Int
structure Ven where
 sh:Int
 ttl:Int
 ses:Int
 secs:List Sec
def a0P(W:AW)(cs:List Value)(p:Nat)(s:Sec):Prop:=cs[p]? =some (.string (aM s.name))/\cs[p+2]? =some (.int .i64 s.q)/\∃rv,cs[p+1]? =some rv/\Ints W rv s.rows
abbrev Secs(W:AW)(v:Value)(l:List Sec):Prop:=Row W 3 (a0P W) v l
theorem Row.imp{α:Type}{W W':AW}{z:Nat}{f g:List Value->Nat->α->Prop}{v:Value}{l:List α}(h:Row W z f v l)(hle:Le W W')(hfg:∀cs p a,f cs p a->g cs p a):Row W' z g v l:=by
 obtain⟨a,c,rfl,k⟩:=h.mono hle;refine⟨a,c,rfl,?_⟩;rcases k with h|⟨b,o,cs,h1,h2,h3,h4⟩
 ·exact .inl h
 ·exact .inr ⟨b,o,cs,h1,h2,h3,λi hi=>hfg _ _ _ (h4 i hi)⟩
theorem Secs.mono{W W':AW}{v:Value}{l:List Sec}(h:Secs W v l)(hle:Le W W'):Secs W' v l:=
 Row.imp h hle λcs p s ⟨h1,h2,rv,h3,h4⟩=>⟨h1,h2,rv,h3,h4.mono hle⟩
theorem a4R{cs:List Value}{p:Nat}{a b c:Value}(h0:cs[p]? =some a)(h1:cs[p+1]? =some b)(h2:cs[p+2]? =some c):(cs.drop p).take 3=[a,b,c]:=by obtain⟨i0,e0⟩:=List.getElem?_eq_some_iff.1 h0;obtain⟨i1,e1⟩:=List.getElem?_eq_some_iff.1 h1;obtain⟨i2,e2⟩:=List.getElem?_eq_some_iff.1 h2;rw[List.drop_eq_getElem_cons i0,List.drop_eq_getElem_cons i1,List.drop_eq_getElem_cons i2,e0,e1,e2];rfl
abbrev UL(s:Sec)(rv:Value):Value:=.agg #[.string (aM s.name),rv,.int .i64 s.q]
theorem Secs.get{W:AW}{v:Value}{l:List Sec}(h:Secs W v l){i:Nat}(hi:i<l.length):∃b o rv,(∀W' k,jI 3 v (.int k (i:Int)) W'=some (.pointer (some ⟨b,o,none⟩),W'))/\Ints W rv l[i].rows/\
 (∀W',Le W W'->eU 3 (.pointer (some ⟨b,o,none⟩)) W'=some (UL l[i] rv,W'))/\(∀W',Le W W'->aP (.pointer (some ⟨b,o,none⟩)) W'=some (.string (aM l[i].name),W'))/\
 (∀W',Le W W'->aP (.pointer (some ⟨b,o+1,none⟩)) W'=some (rv,W'))/\(∀W',Le W W'->aP (.pointer (some ⟨b,o+2,none⟩)) W'=some (.int .i64 l[i].q,W')):=by
 obtain⟨b,o,cs,h1,h2,h3,h4,h5,rv,h6,h7⟩:=h.elem hi;refine⟨b,o,rv,h1,h7,λW' hle=>?_,λW' hle=>d9 (by rw[hle.cellsAt h2];exact h3) h4,λW' hle=>d9 (by rw[hle.cellsAt h2];exact h3) h6,λW' hle=>d9 (by rw[hle.cellsAt h2];exact h3) h5⟩;rw[AP,hle.cellsAt h2,h3];simp only[Option.bind_some,a4R h4 h6 h5,List.length_cons,List.length_nil,if_true]
def EN(s:Sec)(before:List Sec):Int:=
 if IG s.name=false then 6 else if(before.any λx=>x.name==s.name)=true then 8 else if s.rows.length=0 then 6 else if 16<s.rows.length then 3 else
 if(s.rows.any λn=>qG n 1 64)=true then 7 else if qG s.q 0 64=true then 7 else 0
def rE(l:List Sec):Nat->Option (Nat×Int)
 |0=>none
 |k+1=>match rE l k with
  |some r=>some r
  |none=>match l[k]? with
   |some s=>if EN s (l.take k)=0 then none else some (k,EN s (l.take k))
   |none=>none
theorem GN{l:List Sec}{k n:Nat}{r:Nat×Int}(h:rE l k=some r)(hn:k<=n):rE l n=some r:=by
 induction n with
 |zero=>obtain rfl:k=0:=by omega
        exact h
 |succ n ih=>
  by_cases hk:k=n+1
  ·rw[<-hk];exact h
  ·show(match rE l n with|some r=>some r|none=>_)=_;rw[ih (by omega)]
def jX(l:List Int):Int:=l.foldr (· + ·) 0
theorem a4E(l:List Int)(n:Int):jX (l++[n])=jX l+n:=by
 induction l with
 |nil=>simp[jX]
 |cons a l ih=>simp only[jX,List.cons_append,List.foldr_cons]at ih|-;omega
def bR(l:List Sec):Int:=jX (l.map λs=>jX s.rows)
def qZ(v:Ven):Bool:=qG v.sh 1 16||qG v.ttl 1 1000000000||qG v.ses 1 1000000000
def j6(v:Ven):Int×Int:=
 if qZ v=true then(-1,7)else if v.secs.length=0 then(-1,6)else if 8<v.secs.length then(-1,3)else
 match rE v.secs v.secs.length with
 |some (i,e)=>((i:Int),e)
 |none=>if 4096<bR v.secs then(-1,3)else(0,0)
abbrev sI(v:Ven)(sv:Value):Value:=.agg #[.int .i64 v.sh,.int .i64 v.ttl,.int .i64 v.ses,sv]
def SecsC(W:AW)(sv:Value)(l:List Sec):Prop:=Secs W sv l/\(∃a c,sv=.slice a l.length c/\((l.length<=c/\c<bS)\/c=bS+3)/\(l≠[]->∃b o,a=some ⟨b,o,none⟩))
theorem SecsC.mono{W W':AW}{v:Value}{l:List Sec}(h:SecsC W v l)(hle:Le W W'):SecsC W' v l:=⟨h.1.mono hle,h.2⟩
theorem Row.take{α:Type}{W:AW}{z:Nat}{f:List Value->Nat->α->Prop}{b o c:Nat}{l:List α}(h:Row W z f (.slice (some ⟨b,o,none⟩) l.length c) l){k:Nat}(hk:k<=l.length)(h0:l≠[]):Row W z f (.slice (some ⟨b,o,none⟩) k c) (l.take k):=by
 obtain⟨a,c',he,h⟩:=h;injection he with e1 e2 e3;subst e1 e3;refine⟨_,c,by rw[List.length_take,Nat.min_eq_left hk],?_⟩;rcases h with h|⟨b',o',cs,h1,h2,h3,h4⟩
 ·exact absurd h h0
 ·refine .inr ⟨b',o',cs,h1,h2,h3,λi hi=>?_⟩;rw[List.getElem_take];exact h4 i (by rw[List.length_take]at hi;omega)
theorem aBj:o8 Tryz.prog 22=some 3:=by kernel_rfl
theorem SecsC.pre{W:AW}{sv:Value}{l:List Sec}(h:SecsC W sv l){k:Nat}(hk:k<l.length):∃u,(∀W',bM Tryz.prog 22 sv none (some (.int .i64 (k:Int))) none W'=some (u,W'))/\Secs W u (l.take k):=by
 obtain⟨h1,a,c,rfl,h2,h4⟩:=h;have h0:l≠[]:=by intro e;rw[e]at hk;simp at hk
 obtain⟨b,o,rfl⟩:=h4 h0;rcases h2 with⟨h2,h3⟩|rfl
 ·exact⟨_,λW'=>uG aBj (by omega) h3,Row.take h1 (by omega) h0⟩
 ·exact⟨_,λW'=>vI aBj (by omega) (Nat.le_of_lt hk),Row.take h1 (by omega) h0⟩
theorem a4b(W:AW):bE Tryz.prog 130 W=some (.pointer (some ⟨W.next,0,none⟩),W.add (.cells [.string (aM []),.slice none 0 0,.int .i64 0])):=Eq.trans (by kernel_rfl) rfl
def oI{α:Type}(p:α->Bool)(l:List α):Int:=match l.findIdx? p with
 |some i=>(i:Int)
 |none=> -1
theorem QE{α:Type}{p:α->Bool}{l:List α}{k:Nat}(hk:k<l.length)(h1:p l[k]=true)(h2:(l.take k).any p=false):oI p l=(k:Int):=by
 have:l.findIdx? p=some k:=by rw[List.findIdx?_eq_some_iff_getElem];refine⟨hk,h1,λj hj=>?_⟩;rw[List.any_eq_false]at h2;exact h2 _ (by rw[List.mem_take_iff_getElem];exact⟨j,by omega,rfl⟩)
 unfold oI;rw[this]
theorem OT{α:Type}{p:α->Bool}{l:List α}(h:l.any p=false):oI p l= -1:=by
 have:l.findIdx? p=none:=by rw[List.findIdx?_eq_none_iff];intro x hx;rw[List.any_eq_false]at h;simpa using h x hx
 unfold oI;rw[this]
theorem VS{α:Type}{p:α->Bool}{l:List α}{k:Nat}(hk:k<l.length)(h1:p l[k]=false)(h2:(l.take k).any p=false):(l.take (k+1)).any p=false:=by rw[<-List.take_append_getElem hk,List.any_append,h2];simpa using h1
theorem a4M{α:Type}{p:α->Bool}{l:List α}{k:Nat}(hk:k<l.length)(h1:p l[k]=true):l.any p=true:=by rw[List.any_eq_true];exact⟨_,List.getElem_mem hk,h1⟩
theorem WE{α:Type}{p:α->Bool}{l:List α}:decide (0<=oI p l)=l.any p:=by
 unfold oI;cases h:l.findIdx? p with
 |none=>
  rw[List.findIdx?_eq_none_iff]at h;have:l.any p=false:=by rw[List.any_eq_false];intro x hx;simpa using h x hx
  rw[this];rfl
 |some i=>rw[List.findIdx?_eq_some_iff_getElem]at h;obtain⟨h1,h2,h3⟩:=h;rw[a4M h1 h2];simp
theorem a2M{f v:Value}{p:Sec->Bool}{l:List Sec}{W:AW}(h:Secs W v l)(hl:l.length<1000)(hp:∀s rv,aL f [UL s rv] W=some (.bool (p s),W)):aL (.func (.func 272) #[] #[]) [v,f] W=some (.int .i64 (oI p l),W):=by
 refine aN rfl ?_ gU;unfold dL;simp only[SX,h.len BB];refine bF l.length (by omega) (λk R W'=>W'=W/\R 0=v/\R 1=f/\R 7=.int .i64 (l.length:Int)/\R 8=.int .i64 (k:Int)/\(l.take k).any p=false)
  (λr=>r.2.2=W/\((r.1=.exit 0/\oI p l= -1)\/(r.1=.ret/\r.2.1 4=.int .i64 (oI p l)))) ⟨rfl,rfl,rfl,rfl,rfl,rfl⟩ ?_ ?_ ?_
 ·rintro k R W' hk ⟨rfl,h0,h1,h7,h8,ha⟩;unfold bH;obtain⟨b,o,rv,g1,g2,g3,_⟩:=h.get hk;have e1:((k:Int)<(l.length:Int)):=by omega
  have e2:(k:Int)+1=((k+1:Nat):Int):=by omega
  have ea:=aQ (P:=Tryz.prog) (W:=W') (t:=3) (c:=false) (d:=true) (a:=(k:Int)) (b:=1) (by omega) (by omega);simp only[SX,h0,h1,h7,h8,e1,g1,g3 _ (.refl _),hp];cases hx:p l[k]
  ·simp only[SX,ea,aB];exact .inl ⟨trivial,trivial,h0,h1,h7,by rw[<-e2];rfl,VS hk hx ha⟩
  ·simp only[SX,aB];exact .inr ⟨by simp,trivial,.inr ⟨trivial,by rw[QE hk hx ha];rfl⟩⟩
 ·rintro R W' ⟨rfl,h0,h1,h7,h8,ha⟩;unfold bH;have e1:¬((l.length:Int)<(l.length:Int)):=by omega
  rw[List.take_length]at ha;simp only[SX,h7,h8,e1,aB];exact⟨by simp,trivial,.inl ⟨trivial,OT ha⟩⟩
 ·rintro⟨x,R,W'⟩ ⟨hW,hq⟩;simp only at hW hq;subst hW;rcases hq with⟨rfl,hq⟩|⟨rfl,h4⟩
  ·simp only[SX,aB,hq];exact⟨trivial,.refl _⟩
  ·simp only[SX,aB,h4];exact⟨trivial,.refl _⟩
theorem a2k{f v:Value}{p:Int->Bool}{l:List Int}{W:AW}(h:Ints W v l)(hl:l.length<1000)(hp:∀n,aL f [.int .i64 n] W=some (.bool (p n),W)):aL (.func (.func 222) #[] #[]) [v,f] W=some (.int .i64 (oI p l),W):=by
 refine aN rfl ?_ sS;unfold mE;simp only[SX,h.len FC];refine bF l.length (by omega) (λk R W'=>W'=W/\R 0=v/\R 1=f/\R 7=.int .i64 (l.length:Int)/\R 8=.int .i64 (k:Int)/\(l.take k).any p=false)
  (λr=>r.2.2=W/\((r.1=.exit 0/\oI p l= -1)\/(r.1=.ret/\r.2.1 4=.int .i64 (oI p l)))) ⟨rfl,rfl,rfl,rfl,rfl,rfl⟩ ?_ ?_ ?_
 ·rintro k R W' hk ⟨rfl,h0,h1,h7,h8,ha⟩;unfold gF;obtain⟨q,g1,g2⟩:=h.get hk;have e1:((k:Int)<(l.length:Int)):=by omega
  have e2:(k:Int)+1=((k+1:Nat):Int):=by omega
  have ea:=aQ (P:=Tryz.prog) (W:=W') (t:=3) (c:=false) (d:=true) (a:=(k:Int)) (b:=1) (by omega) (by omega);simp only[SX,h0,h1,h7,h8,e1,g1,g2 _ (.refl _),hp];cases hx:p l[k]
  ·simp only[SX,ea,aB];exact .inl ⟨trivial,trivial,h0,h1,h7,by rw[<-e2];rfl,VS hk hx ha⟩
  ·simp only[SX,aB];exact .inr ⟨by simp,trivial,.inr ⟨trivial,by rw[QE hk hx ha];rfl⟩⟩
 ·rintro R W' ⟨rfl,h0,h1,h7,h8,ha⟩;unfold gF;have e1:¬((l.length:Int)<(l.length:Int)):=by omega
  rw[List.take_length]at ha;simp only[SX,h7,h8,e1,aB];exact⟨by simp,trivial,.inl ⟨trivial,OT ha⟩⟩
 ·rintro⟨x,R,W'⟩ ⟨hW,hq⟩;simp only at hW hq;subst hW;rcases hq with⟨rfl,hq⟩|⟨rfl,h4⟩
  ·simp only[SX,aB,hq];exact⟨trivial,.refl _⟩
  ·simp only[SX,aB,h4];exact⟨trivial,.refl _⟩
theorem a1N{f v:Value}{p:Sec->Bool}{l:List Sec}{W:AW}(h:Secs W v l)(hl:l.length<1000)(hp:∀s rv,aL f [UL s rv] W=some (.bool (p s),W)):aL (.func (.func 234) #[] #[]) [v,f] W=some (.bool (l.any p),W):=by refine aN rfl ?_ gD;unfold dG;simp only[SX,a2M h hl hp,WE,aB];exact⟨trivial,.refl _⟩
theorem a2O{f v:Value}{p:Int->Bool}{l:List Int}{W:AW}(h:Ints W v l)(hl:l.length<1000)(hp:∀n,aL f [.int .i64 n] W=some (.bool (p n),W)):aL (.func (.func 169) #[] #[]) [v,f] W=some (.bool (l.any p),W):=by refine aN rfl ?_ qI;unfold kF;simp only[SX,a2k h hl hp,WE,aB];exact⟨trivial,.refl _⟩
theorem a2Q(n:Int)(W:AW):aL (.func (.func 236) #[] #[]) [.int .i64 n] W=some (.bool (qG n 1 64),W):=by refine aN rfl ?_ FO;unfold zV;simp only[SX,p9,aB];exact⟨trivial,.refl _⟩
theorem a7P(a b c:Value)(W:AW):dK (.agg #[a,b,c]) W=some (.pointer (some ⟨W.next,0,none⟩),W.add (.cells [a,b,c])):=fU _
theorem UX{c:Nat}{m:List UInt8}{W:AW}(hc:∀W',Le W W'->aP (.pointer (some ⟨c,0,none⟩)) W'=some (.string (aM m),W'))(s:Sec)(rv:Value):
 aL (.func (.func 235) #[] #[.pointer (some ⟨c,0,none⟩)]) [UL s rv] W=some (.bool (s.name==m),W):=by
 refine aN rfl ?_ FQ;unfold zX;have h0:=hc _ ((Le.refl W).add (.cells [.string (aM s.name),rv,.int .i64 s.q]));have h1:aP (.pointer (some ⟨W.next,0,none⟩)) (W.add (.cells [.string (aM s.name),rv,.int .i64 s.q]))=some (.string (aM s.name),W.add (.cells [.string (aM s.name),rv,.int .i64 s.q])):=d9 dI rfl;simp only[SX,a7P,h0,h1,Nat.zero_add,wE,aB];exact⟨trivial,(Le.refl _).add _⟩
theorem a1w{s:Sec}{rv bv:Value}{before:List Sec}{W:AW}(hs:Ints W rv s.rows)(hb:Secs W bv before)(hl:before.length<1000):aL (.func (.func 189) #[] #[]) [UL s rv,bv] W=some (.int .i64 (EN s before),W):=by
 refine aN rfl ?_ LK;unfold IB;have hle:Le W (W.add (.cells [.string (aM s.name),rv,.int .i64 s.q])):=(Le.refl W).add _;simp only[SX,a7P,Nat.zero_add];generalize hW1:W.add (.cells [.string (aM s.name),rv,.int .i64 s.q])=W1 at *;have hcs:cellsAt W1 W.next=some [.string (aM s.name),rv,.int .i64 s.q]:=by rw[<-hW1];exact dI
 have hn:W.next<W1.next:=by rw[<-hW1,AW.add_next];omega
 have h0:∀W',Le W1 W'->aP (.pointer (some ⟨W.next,0,none⟩)) W'=some (.string (aM s.name),W'):=λW' k=>d9 (by rw[k.cellsAt hn];exact hcs) rfl
 have h1:aP (.pointer (some ⟨W.next,1,none⟩)) W1=some (rv,W1):=d9 hcs rfl;have h2:aP (.pointer (some ⟨W.next,2,none⟩)) W1=some (.int .i64 s.q,W1):=d9 hcs rfl;have hf:=a1N (W:=W1) (hb.mono hle) hl (p:=λx=>x.name==s.name) (λx rv=>UX h0 x rv);unfold EN;cases n1:IG s.name
 ·simp only[SX,h0 _ (.refl _),vN,n1,if_true,aB];exact⟨trivial,hle⟩
 ·cases n2:before.any λx=>x.name==s.name
  ·by_cases n3:s.rows.length=0
   ·have e:((s.rows.length:Int)=0):=by omega
    simp only[SX,h0 _ (.refl _),vN,n1,hf,n2,h1,(hs.mono hle).len FC,e,if_pos n3,if_true,if_false,Bool.true_eq_false,Bool.false_eq_true,aB];exact⟨trivial,hle⟩
   ·have e:¬((s.rows.length:Int)=0):=by omega
    by_cases n4:16<s.rows.length
    ·have e2:((16:Int)<(s.rows.length:Int)):=by omega
     simp only[SX,h0 _ (.refl _),vN,n1,hf,n2,h1,(hs.mono hle).len FC,e,n3,e2,n4,if_true,if_false,Bool.true_eq_false,Bool.false_eq_true,aB];exact⟨trivial,hle⟩
    ·have e2:¬((16:Int)<(s.rows.length:Int)):=by omega
     have hg:=a2O (W:=W1) (hs.mono hle) (by omega) (p:=λn=>qG n 1 64) (λn=>a2Q n W1);cases n5:s.rows.any λn=>qG n 1 64
     ·cases n6:qG s.q 0 64
      ·simp only[SX,h0 _ (.refl _),vN,n1,hf,n2,h1,(hs.mono hle).len FC,e,n3,e2,n4,hg,n5,h2,p9,n6,if_true,if_false,Bool.true_eq_false,Bool.false_eq_true,aB];exact⟨trivial,hle⟩
      ·simp only[SX,h0 _ (.refl _),vN,n1,hf,n2,h1,(hs.mono hle).len FC,e,n3,e2,n4,hg,n5,h2,p9,n6,if_true,if_false,Bool.true_eq_false,Bool.false_eq_true,aB];exact⟨trivial,hle⟩
     ·simp only[SX,h0 _ (.refl _),vN,n1,hf,n2,h1,(hs.mono hle).len FC,e,n3,e2,n4,hg,n5,if_true,if_false,Bool.true_eq_false,Bool.false_eq_true,aB];exact⟨trivial,hle⟩
  ·simp only[SX,h0 _ (.refl _),vN,n1,hf,n2,if_true,if_false,Bool.true_eq_false,Bool.false_eq_true,aB];exact⟨trivial,hle⟩
theorem VT(a b c d:Value)(W:AW):dK (.agg #[a,b,c,d]) W=some (.pointer (some ⟨W.next,0,none⟩),W.add (.cells [a,b,c,d])):=fU _
theorem pE(W:AW)(cs ds:List Value):(W.add (.cells cs)).put W.next (.cells ds)=W.add (.cells ds):=SH W _ _
theorem aBo{b:Nat}{a c d x y z:Value}{W:AW}(h:rwCells W b=some [x,y,z])(h1:Eng.one a=true)(h2:Eng.one c=true)(h3:Eng.one d=true):fZ 3 (.pointer (some ⟨b,0,none⟩)) (.agg #[a,c,d]) W=some (undef,W.put b (.cells [a,c,d])):=by
 rw[DF,h];have e:(#[a,c,d]:Array Value).toList.all Eng.one=true:=by simp[h1,h2,h3]
 simp only[Option.bind_some,e,and_true];rfl
theorem Row.one{α:Type}{W:AW}{z:Nat}{f:List Value->Nat->α->Prop}{v:Value}{l:List α}(h:Row W z f v l):Eng.one v=true:=by obtain⟨a,c,rfl,_⟩:=h;rfl
end Go.Proofs.YtnigceddndemkaaGreatDoor
